/- A part of the proof: texts put together and cut down by a program of mine (wip/gen/mini.py). -/
import Derived.Test.YtffcefoadaogbaaGreatS12
namespace Go.Proofs.YtffcefoadaogbaaGreat
open Go.RowKit
open Go.Proofs.Tryz
set_option linter.unusedVariables false
set_option maxRecDepth 100000
set_option maxHeartbeats 16000000
section
variable {w w' wr:World} {T T':Tg} {t b sb most last epoch fr ts n free slast:Nat} {l:List Br} {gs:List (Nat×List Int)}
theorem brsC_set(fr:Nat):∀(l:List Br) (hs:List (Option Addr×Nat)) (k:Nat) (x:Br) (d p:Nat),hs.length=l.length→l[k]?=some x→((brsC fr l hs).set (k*5+3) (.int .i64 (d:Nat))).set (k*5+4) (.int .i64 (p:Nat))=brsC fr (l.set k {x with done:=d,pic:=p}) hs
 | b::l,a::hs,0,x,d,p,_,h=>by
  cases h
  rfl
 | b::l,a::hs,k+1,x,d,p,hl,h=>by
  rw[List.set_cons_succ,brsC,brsC,List.set_append_right _ _ (by rw[brC_len];omega),List.set_append_right _ _ (by rw[brC_len];omega),brC_len,show(k+1)*5+3-5=k*5+3 by omega,show(k+1)*5+4-5=k*5+4 by omega];rw[brsC_set fr l hs k x d p (by simpa using hl) (by simpa using h)]
 | [],hs,k,x,d,p,_,h=>by simp at h
 | b::l,[],k,x,d,p,hl,h=>by simp at hl
def PubP(T:Tg)(t b sb most last epoch fr ts n slast:Nat)(l:List Br)(gs:List (Nat×List Int))(v:Value)(w':World)(T':Tg):Prop:=v = .bool true∧T'=T∧TreeAt w' T t b sb most last epoch fr l∧∃ free',StoreAt w' T ts sb n free' slast gs
theorem tree_publish(h:TreeAt w T t b sb most last epoch fr l)(hm:most≤8)(hS:StoreAt w T ts sb n free slast gs)(hu:Unborn w T)(ht:0<t)(hts:0<ts)(hdis:t+2≤ts∨ts+5≤t)(hsl:slast<4611686018427387903)(hn:gs.length≤1000)
  {id:Int} {k:Nat} {x:Br} (hk:idxB id l=some k) (hx:l[k]?=some x) (hpx:x.pic∈gs.map Prod.fst) {d p:Nat} (hp:p∈gs.map Prod.fst) (hd1:x.done<d) (hd2:d≤x.press.length) :
  Calls prog 79 #[ptrV b,.int .i64 id,.int .i64 (d:Nat),.int .i64 (p:Nat)] w (Gives (fun j=>j=t+1∨In ts 5 j) w T (PubP T t b sb most last epoch fr ts n slast (l.set k {x with done:=d,pic:=p}) (delG gs x.pic))):=by
 have HF:=hqd fun W (e:Ext w W)=>tree_find (h.ext e) hm id;rw[hk]at HF;have hl8:=Nat.le_trans h.most8 hm;have hkl:k<l.length:=(List.getElem?_eq_some_iff.1 hx).1;obtain⟨A,c,hs,a1,a2,a3,a4⟩:=h.blk;have hh:=List.getElem?_eq_getElem (show k<hs.length by omega);generalize hs[k]'(by omega)=h9 at hh;have q:=fun j v hv=>brsC_get fr l hs k x h9 hx hh j v hv;obtain⟨g,rfl,c2,_,hgT⟩:=a3.at_ (q 2 _ rfl);obtain⟨g',e',c3,_,_⟩:=a3.at_ (q 3 _ rfl);cases e'
 obtain⟨g',e',c4,_,_⟩:=a3.at_ (q 4 _ rfl);cases e'
 have b0:=a2.cell (i:=0) rfl;have b2:=a2.cell (i:=2) rfl;have HR:=hqd fun W (e:Ext w W)=>at_refs (hS.ext e) hp hsl;have HD:=hqd fun W (e:Ext w W)=>at_drop (hS.ext e) hpx (hu.ext e) hts hsl hn;have hdl:decide (d≤x.done)=false:=decide_eq_false (by omega);have hdl':decide ((d:Int)≤(x.done:Int))=false:=decide_eq_false (by omega);have hdp:decide (x.press.length<d)=false:=decide_eq_false (by omega);have hdp':decide ((x.press.length:Int)<(d:Int))=false:=decide_eq_false (by omega);have hkd:decide (k<l.length)=true:=decide_eq_true hkl;have HA2:=hqd a2;have HA3:=hqd a3;have HA4:=hqd a4;have HM:=hqd h.most8;have HA1:=hqd a1;have Hh:=hqd hh;have Hx:=hqd hx;unfold ptrV idxV at *;clear h hS a1 a2 a3 a4 q hh;obtain⟨N,hN⟩:∃ N,N=l.length:=⟨_,rfl⟩;rw[← hN]at b2 hkl hl8 hkd;generalize hpl:x.press.length=pl at *;generalize hxd:x.done=xd at *;generalize hxp:x.pic=xp at *;have HN:=hqd hN;clear hx hN hxd hxp hpl;go_enter func79,ntmps79;go_wp2_with fail;refine(HF.out w (Ext.refl _)).mono ?_;rintro e w1 ⟨rfl,e1⟩;have b0:=e1.cell b0;have b2:=e1.cell b2;have c2:=e1.cell c2;have c3:=e1.cell c3;have c4:=e1.cell c4;dsimp only
 go_wp2_with fail;refine(HR.out w1 e1).mono ?_;rintro e w2 ⟨rfl,hw⟩;subst hw;go_wp2_with fail;apply wrN 12;simp only[tk];repeat apply lxA (fun _ h _=>aj (h.cell b0) (aj (h.cell b2) (h.cell c4)))
 refine lex_nil ?_;intro Wx hWx hΦ;clear hΦ;simp only[dk];have e2:=e1.trans hWx;go_wp2_with fail;refine(HD.out Wx e2).mono ?_;rintro e w3 ⟨rfl,hT3,free3,hf3,hS3⟩;have hdt:¬ In ts 5 t:=by unfold In;omega
 have hdt1:¬ In ts 5 (t+1):=by unfold In;omega
 have hd0:¬ In ts 5 0:=by unfold In;omega
 have a2:=(HA2.out.ext e2).turn hT3 hdt;have a3:=(HA3.out.ext e2).turn hT3 hdt1;have a4:=fun i x h hi hh=>((HA4.out i x h hi hh).ext e2).turn hT3 hd0;have b2:=a2.cell (i:=2) rfl;rw[← HN.out]at b2;have hT03:=(Turn.of_ext (fun j=>j=t+1∨In ts 5 j) hu e2).trans (hT3.mono fun k hk=>.inr hk);have hu3:=hT3.unborn;have hTb:¬ T b=t+1:=by have:=a2.1;omega
 have Ha2:=hqd a2;have Ha3:=hqd a3;have Ha4:=hqd a4;have HT03:=hqd hT03;have HS3:=hqd hS3;clear a2 a3 a4 hT3 hT03 hS3 b0 c2 c3 c4 hf3;go_wp2_with fail;apply wrH 17 (oR (fun j=>j=t+1) T) (oRs 14 (fun j=>j=t+1) T) (oJ 14 _) (oJ.start _ _);simp only[tk];repeat apply lxG (fun _ h _ _=>h.cell b2 hTb)
 apply lexG_eff (p:=fun _ W=>Row W T (t+1) 136 5 (some ⟨g,0,none⟩) l.length c ((brsC fr l hs).set (k*5+3) (.int .i64 (d:Nat)))) (by decide) (by decide) (fun j hj v w w' h hR=>by
  rcases hR with ⟨h9,_⟩|h9
  ·exact absurd h9 hj
  ·exact h.ext h9)
 ·rfl
 ·intro W hR hJ hΦ
  have hRow:=Ha3.out.ext (hJ rfl);obtain⟨g',e',k3,f3,_⟩:=hRow.at_ (brsC_get fr l hs k x h9 Hx.out Hh.out 3 _ rfl);cases e'
  have hput:=(hRow.put (hu3.ext (hJ rfl)) (i:=k*5+3) rfl (.int .i64 (d:Nat)));have HP:=hqd hput;clear hput hRow;refine⟨W.setCell ⟨g,k*5+3,none⟩ (.int .i64 (d:Nat)),?_,Moved.of_turn HP.out.1,.inl ⟨rfl,Moved.of_turn HP.out.1⟩,HP.out.2⟩;go_simp
 intro v14;simp only[Act.put];repeat apply lxG (fun _ h _ _=>h.cell b2 hTb)
 refine lexG_nil ?_;intro W hR hap hΦ;have hRow:=hΦ.1 rfl;clear hΦ hap;simp only[dk];have hT4:Turn (fun j=>j=t+1) w3 T W T:=⟨hR.os,hR.tape,hR.output,hR.size,fun j hj hn=>hR.block j hj hn,fun _ _=>rfl,fun j hj=>hu3 j (Nat.le_trans hR.size hj)⟩;obtain⟨g',e',k4,f4,_⟩:=hRow.at_ (i:=k*5+4) (v:=.int .i64 (x.pic:Nat)) (by rw[List.getElem?_set_ne (by omega)];exact brsC_get fr l hs k x h9 Hx.out Hh.out 4 _ rfl);cases e'
 obtain⟨hT5,hR5⟩:=hRow.put hT4.unborn (i:=k*5+4) rfl (.int .i64 (p:Nat));rw[brsC_set fr l hs k x d p HA1.out Hx.out]at hR5;have hT35:=hT4.trans hT5;have HTr:=hqd (show TreeAt (W.setCell ⟨g,k*5+4,none⟩ (.int .i64 (p:Nat))) T t b sb most last epoch fr (l.set k {x with done:=d,pic:=p}) from by
  refine⟨by rw[List.length_set];exact HM.out,some ⟨g,0,none⟩,c,hs,by rw[List.length_set];exact HA1.out,?_,?_,fun i y h hi hh=>?_⟩
  ·rw[List.length_set];exact Ha2.out.turn hT35 (by omega)
  ·rw[List.length_set];exact hR5
  ·rw[List.getElem?_set]at hi
   split at hi
   ·split at hi
    ·rename_i e _
     cases hi
     subst e;exact(Ha4.out k x h Hx.out hh).turn hT35 (by omega)
    ·cases hi
   ·exact(Ha4.out i y h hi hh).turn hT35 (by omega))
 have HSt:=hqd (HS3.out.turn hT35 (fun j hj=>by unfold In at hj;omega));have HT:=hqd (HT03.out.trans (hT35.mono fun j hj=>.inl hj));clear hT4 hT5 hT35 hR5 hRow hR b2;go_wp2_with fail;go_ret;exact⟨_,rfl,T,HT.out,rfl,rfl,HTr.out,free3,HSt.out⟩
theorem tree_publish_no(h:TreeAt w T t b sb most last epoch fr l)(hm:most≤8){id:Int}{k:Nat}{x:Br}(hk:idxB id l=some k)(hx:l[k]?=some x){d p:Nat}(hd1:d≤x.done) :
  Calls prog 79 #[ptrV b,.int .i64 id,.int .i64 (d:Nat),.int .i64 (p:Nat)] w fun e w'=>e = .returned (.bool false)∧Ext w w':=by
 have HF:=hqd fun W (e:Ext w W)=>tree_find (h.ext e) hm id;rw[hk]at HF;have hl8:=Nat.le_trans h.most8 hm;have hkl:k<l.length:=(List.getElem?_eq_some_iff.1 hx).1;obtain⟨A,c,hs,a1,a2,a3,a4⟩:=h.blk;have hh:=List.getElem?_eq_getElem (show k<hs.length by omega);generalize hs[k]'(by omega)=h9 at hh;obtain⟨g,rfl,c3,_,hgT⟩:=a3.at_ (brsC_get fr l hs k x h9 hx hh 3 _ rfl);have b2:=a2.cell (i:=2) rfl;have hdl:decide (d≤x.done)=true:=decide_eq_true hd1;have hkd:decide (k<l.length)=true:=decide_eq_true hkl;unfold ptrV idxV at *;clear h a1 a2 a3 a4 hh hx;generalize l.length=N at *;generalize x.done=xd at *;go_enter func79,ntmps79;go_wp2_with fail;refine(HF.out w (Ext.refl _)).mono ?_;rintro e w1 ⟨rfl,e1⟩;have b2:=e1.cell b2;have c3:=e1.cell c3;dsimp only
 go_wp2_with fail;go_ret;exact⟨rfl,e1⟩
end
def sel{α:Type}:List α→List Bool→List α
 | x::l,k::ks=>if k then x::sel l ks else sel l ks
 | _,_=>[]
def left(gs:List (Nat×List Int)):List Br→List Bool→List (Nat×List Int)
 | x::l,k::ks=>left (if k then gs else delG gs x.pic) l ks
 | _,_=>gs
theorem sel_snoc{α:Type}(x:α)(k:Bool):∀(l:List α) (ks:List Bool),ks.length=l.length→sel (l++[x]) (ks++[k])=if k then sel l ks++[x] else sel l ks
 | [],[],_=>by cases k<;>rfl
 | y::l,q::ks,h=>by
  rw[List.cons_append,List.cons_append,sel,sel,sel_snoc x k l ks (by simpa using h)];cases q<;>cases k<;>simp
 | [],q::ks,h=>by simp at h
 | y::l,[],h=>by simp at h
theorem left_snoc(x:Br)(k:Bool):∀(gs:List (Nat×List Int)) (l:List Br) (ks:List Bool),ks.length=l.length→left gs (l++[x]) (ks++[k])=if k then left gs l ks else delG (left gs l ks) x.pic
 | gs,[],[],_=>by cases k<;>rfl
 | gs,y::l,q::ks,h=>by
  rw[List.cons_append,List.cons_append,left,left,left_snoc x k _ l ks (by simpa using h)]
 | gs,[],q::ks,h=>by simp at h
 | gs,y::l,[],h=>by simp at h
theorem left_mem:∀ {gs:List (Nat×List Int)} {l:List Br} {ks:List Bool} {q:Nat×List Int},q∈gs→(∀ x∈l,x.pic≠q.1)→q∈left gs l ks
 | gs,[],ks,q,h,_=>h
 | gs,x::l,[],q,h,_=>h
 | gs,x::l,k::ks,q,h,hn=>by
  rw[left];refine left_mem ?_ fun y hy=>hn y (List.mem_cons_of_mem _ hy);split
  ·exact h
  ·exact mem_delG.2 ⟨h,fun e=>hn x List.mem_cons_self e.symm⟩
theorem left_sub:∀ {gs:List (Nat×List Int)} {l:List Br} {ks:List Bool},(left gs l ks).Sublist gs
 | gs,[],ks=>List.Sublist.refl _
 | gs,x::l,[]=>List.Sublist.refl _
 | gs,x::l,k::ks=>by
  rw[left];refine(left_sub (l:=l) (ks:=ks)).trans ?_;split
  ·exact List.Sublist.refl _
  ·exact List.filter_sublist
theorem sel_sub{α:Type}:∀(l:List α) (ks:List Bool),(sel l ks).Sublist l
 | [],_=>by simp[sel]
 | x::l,[]=>by simp[sel]
 | x::l,k::ks=>by
  rw[sel];split
  ·exact(sel_sub l ks).cons_cons x
  ·exact(sel_sub l ks).cons x
theorem sel_len{α β:Type}:∀(l:List α) (m:List β) (ks:List Bool),l.length=m.length→(sel l ks).length=(sel m ks).length
 | [],[],ks,_=>by cases ks<;>rfl
 | x::l,y::m,[],_=>rfl
 | x::l,y::m,k::ks,h=>by
  rw[sel,sel];cases k
  ·simpa using sel_len l m ks (by simpa using h)
  ·simpa using sel_len l m ks (by simpa using h)
 | [],_::_,_,h=>by simp at h
 | _::_,[],_,h=>by simp at h
theorem sel_get{α β:Type}:∀(l:List α) (m:List β) (ks:List Bool) (i:Nat) (x:α) (y:β),l.length=m.length→(sel l ks)[i]?=some x→(sel m ks)[i]?=some y→∃ j:Nat,l[j]?=some x∧m[j]?=some y
 | a::l,c::m,k::ks,i,x,y,h,hx,hy=>by
  rw[sel]at hx hy;cases k
  ·obtain⟨j,h1,h2⟩:=sel_get l m ks i x y (by simpa using h) (by simpa using hx) (by simpa using hy)
   exact⟨j+1,by simpa using h1,by simpa using h2⟩
  ·cases i with
   | zero=>exact⟨0,by simpa using hx,by simpa using hy⟩
   | succ i =>
    obtain⟨j,h1,h2⟩:=sel_get l m ks i x y (by simpa using h) (by simpa using hx) (by simpa using hy);exact⟨j+1,by simpa using h1,by simpa using h2⟩
 | [],_,ks,i,x,y,_,hx,_=>by simp[sel]at hx
 | _::_,[],ks,i,x,y,h,_,_=>by simp at h
 | _::_,_::_,[],i,x,y,_,hx,_=>by simp[sel]at hx
theorem sel_none{α:Type}:∀(l:List α) (ks:List Bool),(∀ k∈ks,k=false)→sel l ks=[]
 | [],_,_=>by simp[sel]
 | x::l,[],_=>by simp[sel]
 | x::l,k::ks,h=>by
  rw[sel,h k List.mem_cons_self];simpa using sel_none l ks fun k hk=>h k (List.mem_cons_of_mem _ hk)
theorem left_next{gs:List (Nat×List Int)}{l:List Br}{ks:List Bool}{k:Nat}{x:Br}(hx:l[k]?=some x)(hnd:(l.map Br.pic).Nodup)(hin:∀ x∈l,x.pic∈gs.map Prod.fst):x.pic∈(left gs (l.take k) ks).map Prod.fst:=by
 obtain⟨q,hq,e⟩:=List.mem_map.1 (hin x (List.mem_of_getElem? hx));refine List.mem_map.2 ⟨q,left_mem hq fun y hy h=>?_,e⟩;obtain⟨j,hj⟩:=List.mem_iff_getElem?.1 hy;rw[List.getElem?_take]at hj;split at hj
 ·rename_i hjk
  have h1:(l.map Br.pic)[j]?=some x.pic:=by rw[List.getElem?_map,hj];simp[h,e]
  have h2:(l.map Br.pic)[k]?=some x.pic:=by rw[List.getElem?_map,hx];rfl
  obtain⟨h3,h3'⟩:=List.getElem?_eq_some_iff.1 h1;obtain⟨h4,h4'⟩:=List.getElem?_eq_some_iff.1 h2;have:=(List.getElem_inj hnd).1 (h3'.trans h4'.symm);omega
 ·cases hj
section
variable {w w' wr:World} {T T':Tg} {t b sb most last epoch fr ts n free slast:Nat} {l:List Br} {gs:List (Nat×List Int)}
theorem StoreMid.kept{rb g mb:Nat}{rf:Nat→Int}{vs:Nat→Nat→Int}{pm ps:List Pic}(h:StoreMid w T t b rb g mb n rf vs pm ps last)(ht:0<t)(hk:Kept T T'):StoreMid w T' t b rb g mb n rf vs pm ps last :=
 ⟨h.hd.kept (by omega) hk,(hk mb (by rw[h.tm];omega)).trans h.tm,(hk rb (by rw[h.tr];omega)).trans h.tr,(hk g (by rw[h.tg];omega)).trans h.tg,h.map_,h.room,fun p hp=>(h.pics p hp).kept (by omega) hk⟩
theorem StoreAt.kept(h:StoreAt w T t b n free last gs)(ht:0<t)(hk:Kept T T'):StoreAt w T' t b n free last gs:=by
 obtain⟨rb,g,mb,rf,vs,ps,h1,h2⟩:=h;exact⟨rb,g,mb,rf,vs,ps,h1.kept ht hk,h2⟩
def dropRel7(w:World)(T:Tg)(sb fr ts n free slast:Nat)(l:List Br)(hs:List (Option Addr×Nat))(gs:List (Nat×List Int))(P:Bool→Prop)(lv iv:Value)(wr:World):Prop :=
 ∃(k:Nat) (ks:List Bool) (B:Option Addr) (d free':Nat),iv = .int .i64 (k:Nat)∧k≤l.length∧ks.length=k∧(∀ q∈ks,P (!q))∧lv = .slice B (sel (l.take k) ks).length d∧Own wr w.heap.size 136 5 B (sel (l.take k) ks).length d (brsC fr (sel (l.take k) ks) (sel (hs.take k) ks)) ∧
  free≤free'∧StoreAt wr T ts sb n free' slast (left gs (l.take k) ks)∧Turn (In ts 5) w T wr T
def DropP(t b sb most last epoch fr ts n free slast:Nat)(l:List Br)(gs:List (Nat×List Int))(P:Bool→Prop)(v:Value)(w':World)(T':Tg):Prop :=
 ∃(r:Int) (ks:List Bool) (ep free':Nat),v = .int .i64 r∧ks.length=l.length∧(∀ q∈ks,P (!q))∧free≤free'∧ep≤epoch+1∧StoreAt w' T' ts sb n free' slast (left gs l ks)∧TreeAt w' T' t b sb most last ep fr (sel l ks)
theorem takeB_snoc{α:Type}{l:List α}{k:Nat}{x:α}(h:l[k]?=some x):l.take (k+1)=l.take k++[x]:=by rw[List.take_add_one,h];rfl
theorem sel_snoc'{α:Type}{l:List α}{k:Nat}{x:α}(h:l[k]?=some x){ks:List Bool}(hk:ks.length=k)(q:Bool):sel (l.take (k+1)) (ks++[q])=if q then sel (l.take k) ks++[x] else sel (l.take k) ks:=by
 have hkl:=(List.getElem?_eq_some_iff.1 h).1;rw[takeB_snoc h,sel_snoc x q _ _ (by rw[hk,List.length_take];omega)]
theorem left_snoc'{k:Nat}{x:Br}(h:l[k]?=some x){ks:List Bool}(hk:ks.length=k)(q:Bool):left gs (l.take (k+1)) (ks++[q])=if q then left gs (l.take k) ks else delG (left gs (l.take k) ks) x.pic:=by
 have hkl:=(List.getElem?_eq_some_iff.1 h).1;rw[takeB_snoc h,left_snoc x q _ _ _ (by rw[hk,List.length_take];omega)]
theorem dropRel7.gone{P:Bool→Prop}{hs:List (Option Addr×Nat)}{k d free' free2:Nat}{ks:List Bool}{B:Option Addr}{x:Br}{h9:Option Addr×Nat}{wy:World}(hx:l[k]?=some x)(hh:hs[k]?=some h9)(hk:ks.length=k)(hP:∀ q∈ks,P (!q))(hPx:P true)
  (hO:Own wy w.heap.size 136 5 B (sel (l.take k) ks).length d (brsC fr (sel (l.take k) ks) (sel (hs.take k) ks))) (hf:free≤free') (hf2:free'≤free2) (hS:StoreAt wy T ts sb n free2 slast (delG (left gs (l.take k) ks) x.pic)) (hT:Turn (In ts 5) w T wy T) :
  dropRel7 w T sb fr ts n free slast l hs gs P (.slice B (sel (l.take k) ks).length d) (.int .i64 ((k+1:Nat):Int)) wy:=by
 have hkl:=(List.getElem?_eq_some_iff.1 hx).1;refine⟨k+1,ks++[false],B,d,free2,rfl,hkl,by simp[hk],fun q hq=>?_,?_,?_,Nat.le_trans hf hf2,?_,hT⟩
 ·rcases List.mem_append.1 hq with hq|hq
  ·exact hP q hq
  ·rw[List.mem_singleton.1 hq];exact hPx
 ·rw[sel_snoc' hx hk];rfl
 ·rw[sel_snoc' hx hk,sel_snoc' hh hk];exact hO
 ·rw[left_snoc' hx hk];exact hS
theorem dropRel7.stays{P:Bool→Prop}{hs:List (Option Addr×Nat)}{k d free' Ed:Nat}{ks:List Bool}{B E:Option Addr}{x:Br}{h9:Option Addr×Nat}{w3 wy:World}(hx:l[k]?=some x)(hh:hs[k]?=some h9)(hl:hs.length=l.length)(hk:ks.length=k)(hP:∀ q∈ks,P (!q))(hPx:P false)
  (hO:Own w3 w.heap.size 136 5 B (sel (l.take k) ks).length d (brsC fr (sel (l.take k) ks) (sel (hs.take k) ks))) (hf:free≤free') (hS:StoreAt w3 T ts sb n free' slast (left gs (l.take k) ks)) (hT:Turn (In ts 5) w T w3 T) (hu:Unborn w T) (hts:0<ts)
  (hoE:Own wy w.heap.size 136 5 E ((sel (l.take k) ks).length+1) Ed (brsC fr (sel (l.take k) ks) (sel (hs.take k) ks)++brC fr x h9)) (hg:w3.grownBy wy (blk B)) :
  dropRel7 w T sb fr ts n free slast l hs gs P (.slice E ((sel (l.take k) ks).length+1) Ed) (.int .i64 ((k+1:Nat):Int)) wy:=by
 have hkl:=(List.getElem?_eq_some_iff.1 hx).1;have hT2:Turn (· = 0) w3 T wy T:=Turn.of_grown hT.unborn hg fun g hg=>hu g (hO.blk_ge g hg);refine⟨k+1,ks++[true],E,Ed,free',rfl,hkl,by simp[hk],fun q hq=>?_,?_,?_,hf,?_,hT.grown hg fun g hg=>.inr (hO.blk_ge g hg)⟩
 ·rcases List.mem_append.1 hq with hq|hq
  ·exact hP q hq
  ·rw[List.mem_singleton.1 hq];exact hPx
 ·rw[sel_snoc' hx hk];simp
 ·rw[sel_snoc' hx hk,sel_snoc' hh hk,if_pos rfl,if_pos rfl,List.length_append,brsC_app fr x h9 _ _ (sel_len _ _ _ (by rw[List.length_take,List.length_take,hl]))]
  exact hoE
 ·rw[left_snoc' hx hk]
  exact hS.turn hT2 fun j hj=>by unfold In at hj;omega
theorem Own.of_blocks{base size m d:Nat}{e:TypeId}{B:Option Addr}{xs:List Value}(h:Own w base e size B m d xs)(hb:∀ k,blk B=some k→w'.heap[k]?=w.heap[k]?):Own w' base e size B m d xs:=by
 refine⟨h.1,?_⟩;rcases h.2 with h2|⟨g,cap,cur,hv,hbg,hg,rest⟩
 ·exact .inl h2
 ·refine .inr ⟨g,cap,cur,hv,hbg,?_,rest⟩
  injection hv with h1 _ _
  rw[hb g (by rw[h1];rfl)];exact hg
theorem Own.lt'{base size m d:Nat}{e:TypeId}{B:Option Addr}{xs:List Value}(h:Own w base e size B m d xs){k:Nat}(hk:blk B=some k):k<w.heap.size:=by
 obtain⟨a,ha,rfl⟩:=Option.map_eq_some_iff.1 hk;exact(h.base_le a ha).2
theorem Own.turn{S:Nat→Prop}{base size m d:Nat}{e:TypeId}{B:Option Addr}{xs:List Value}(h:Own w base e size B m d xs)(hT:Turn S w T w' T')(h0:∀ k,base≤k→T k=0)(hs:¬ S 0):Own w' base e size B m d xs :=
 h.of_blocks fun k hk=>hT.block k (h.lt' hk) (by rw[h0 k (h.blk_ge k hk)];exact hs)
theorem dropRel7.fin{P:Bool→Prop}{hs:List (Option Addr×Nat)}{ks:List Bool}{B:Option Addr}{d free':Nat}{A:Option Addr}{c:Nat}(hu:Unborn w T)(ht:0<t)(hts:0<ts)(hdis:t+2≤ts∨ts+5≤t)(hl:hs.length=l.length)(hm8:l.length≤most)
  (hH:Has w T t b [ptrV sb,.int .i64 (most:Nat),.slice A l.length c,.int .i64 (last:Nat),.int .i64 (epoch:Nat)]) (hsp:∀(i:Nat) x h,l[i]?=some x→hs[i]?=some h→Sp w T h.1 x.press.length h.2 x.press)
  (hk:ks.length=l.length) (hP:∀ q∈ks,P (!q)) (hO:Own wr w.heap.size 136 5 B (sel l ks).length d (brsC fr (sel l ks) (sel hs ks))) (hf:free≤free') (hS:StoreAt wr T ts sb n free' slast (left gs l ks)) (hT:Turn (In ts 5) w T wr T) :
  ∃ T1,Turn (fun j=>j=t∨j=t+1∨In ts 5 j) w T wr T1∧Has wr T1 t b [ptrV sb,.int .i64 (most:Nat),.slice A l.length c,.int .i64 (last:Nat),.int .i64 (epoch:Nat)] ∧
   ∀ W ep,Turn (· = t) wr T1 W T1→Has W T1 t b [ptrV sb,.int .i64 (most:Nat),.slice B (sel l ks).length d,.int .i64 (last:Nat),.int .i64 (ep:Nat)]→StoreAt W T1 ts sb n free' slast (left gs l ks)∧TreeAt W T1 t b sb most last ep fr (sel l ks):=by
 have hK:∀ k,went none B k=true→blk B=some k:=fun k hk=>by simp only[went,decide_eq_true_eq]at hk;exact hk.1
 have hkept:Kept T (give T (went none B) (t+1)):=Kept.give fun k hk=>hu k (hO.blk_ge k (hK k hk));have hT1:Turn (fun j=>j=t∨j=t+1∨In ts 5 j) w T wr (give T (went none B) (t+1)):=Turn.give (hT.mono fun j hj=>.inr (.inr hj)) _ _ fun k hk=>⟨hO.blk_ge k (hK k hk),hO.lt' (hK k hk)⟩;have hdt:¬ In ts 5 t:=by unfold In;omega
 refine⟨_,hT1,(hH.turn hT hdt).kept (by omega) hkept,fun W ep hTW hHW=>?_⟩;have hRow:Row wr (give T (went none B) (t+1)) (t+1) 136 5 B (sel l ks).length d (brsC fr (sel l ks) (sel hs ks)):=⟨hO.mono (Nat.zero_le _),fun k hk=>give_in (by simp only[went,decide_eq_true_eq];exact⟨hk,by simp[blk]⟩)⟩;have h0:¬ (fun j=>j=t∨j=t+1∨In ts 5 j) 0:=by
  show ¬ (0=t∨0=t+1∨In ts 5 0)
  unfold In;omega
 refine⟨(hS.kept hts hkept).turn hTW fun j hj e=>by subst e;exact hdt hj,⟨Nat.le_trans (sel_sub l ks).length_le hm8,B,d,sel hs ks,(sel_len _ _ _ hl.symm).symm,hHW,hRow.turn hTW (by omega),fun i x h hi hh=>?_⟩⟩;obtain⟨j,h1,h2⟩:=sel_get l hs ks i x h hl.symm hi hh;exact((hsp j x h h1 h2).turn hT1 h0).turn hTW (by omega)
end
section
variable {w w' wr:World} {T T':Tg} {t b sb most last epoch fr ts n free slast:Nat} {l:List Br} {gs:List (Nat×List Int)} {P:Bool→Prop}
theorem drop_keep(kb:Nat)(h:TreeAt w T t b sb most last epoch fr l)(hm:most≤8)(hS:StoreAt w T ts sb n free slast gs)(hu:Unborn w T)(ht:0<t)(hts:0<ts)(hdis:t+2≤ts∨ts+5≤t)(hsl:slast<4611686018427387903)(hep:epoch<4611686018427387903)(hn:gs.length≤1000)
  (hnd:(l.map Br.pic).Nodup) (hin:∀ x∈l,x.pic∈gs.map Prod.fst)
  (HW:∀ W x h,Turn (In ts 5) w T W T→x∈l→Sp W T h.1 x.press.length h.2 x.press→Calls prog 294 #[brV fr x h,.pointer (some ⟨kb,0,none⟩)] W fun e w'=>(∃ r,e = .returned (.bool r)∧P r)∧Ext W w') :
  Calls prog 293 #[ptrV b,.func (.func 294) #[] #[.pointer (some ⟨kb,0,none⟩)]] w (Gives (fun j=>j=t∨j=t+1∨In ts 5 j) w T (DropP t b sb most last epoch fr ts n free slast l gs P)):=by
 obtain⟨i0,hi,hz0,hz1,hz2⟩:=info_parts info_br;have hl8:=Nat.le_trans h.most8 hm;obtain⟨A,c,hs,a1,a2,a3,a4⟩:=h.blk;have b2:=a2.cell (i:=2) rfl;have b0:=a2.cell (i:=0) rfl;have hrd:=a3.rd.2;have hdt:¬ In ts 5 t:=by unfold In;omega
 have hdt1:¬ In ts 5 (t+1):=by unfold In;omega
 have hd0:¬ In ts 5 0:=by unfold In;omega
 have hst:dropRel7 w T sb fr ts n free slast l hs gs P (.slice none 0 0) (.int .i64 ((0:Nat):Int)) w:=⟨0,[],none,0,free,rfl,Nat.zero_le _,rfl,fun q hq=>by simp at hq,by simp[sel],by simpa [sel,brsC] using Own.nil_ _ _ _ _,Nat.le_refl _,by simpa [left] using hS,Turn.refl _ hu⟩;have Hst:=hqd hst;have HA1:=hqd a1;have HA2:=hqd a2;have HA3:=hqd a3;have HA4:=hqd a4;have HM:=hqd h.most8;have HHW:=hqd HW;have Hnd:=hqd hnd;have Hin:=hqd hin;have HUN:=hqd hu;obtain⟨N,hN⟩:∃ N,N=l.length:=⟨_,rfl⟩;have HN:=hqd hN;rw[← hN]at b2 hl8 hrd;have hmx:=hrd.2.1;unfold maxLen at hmx;unfold ptrV at *;clear h hS a1 a2 a3 a4 hst HW hnd hin hu hN hrd;go_enter func293,ntmps293;go_wp2_with fail;go_loopw [6,21] (fun lv iv wr=>dropRel7 w T sb fr ts n free slast l hs gs P lv iv wr) (fun _ iv _=>N-(intOf iv).toNat)
 case atStart=>exact Hst.out
 case round =>
  obtain⟨k,ks,B,d,free',rfl,hk,hks,hP,rfl,hO,hf,hS,hT⟩:=hrel;rw[← HN.out]at hk;by_cases hkn:k<N
  ·have hd1:decide (k<N)=true:=decide_eq_true hkn
   obtain⟨x,hx⟩:∃ x,l[k]?=some x:=⟨_,List.getElem?_eq_getElem (by rw[← HN.out];exact hkn)⟩;obtain⟨h9,hh⟩:∃ h,hs[k]?=some h:=⟨_,List.getElem?_eq_getElem (by rw[HA1.out,← HN.out];exact hkn)⟩;have a3:=HA3.out.turn hT hdt1;have q:=fun j v hv=>brsC_get fr l hs k x h9 hx hh j v hv;obtain⟨g,rfl,k0,_,_⟩:=a3.at_ (q 0 _ rfl);obtain⟨g',e',k1,_,_⟩:=a3.at_ (q 1 _ rfl);cases e'
   obtain⟨g',e',k2,_,_⟩:=a3.at_ (q 2 _ rfl);cases e'
   obtain⟨g',e',k3,_,_⟩:=a3.at_ (q 3 _ rfl);cases e'
   obtain⟨g',e',k4,_,_⟩:=a3.at_ (q 4 _ rfl);cases e'
   rw[Nat.add_zero]at k0;clear q a3;have hsp:=HA4.out k x h9 hx hh;have HHx:=hqd fun W (hTW:Turn (In ts 5) w T W T)=>HHW.out W x h9 hTW (List.mem_of_getElem? hx) (hsp.turn hTW hd0);have Hgone:=hqd fun wy hPx free2 hO hf2 hS hT=>dropRel7.gone (T:=T) (sb:=sb) (fr:=fr) (ts:=ts) (n:=n) (slast:=slast) (gs:=gs) (B:=B) (d:=d) (w:=w) (P:=P) (wy:=wy) (free2:=free2) hx hh hks hP hPx hO hf hf2 hS hT;have Hstay:=hqd fun w3 wy hPx E Ed hO hS hT hoE hg=>dropRel7.stays (T:=T) (sb:=sb) (fr:=fr) (ts:=ts) (n:=n) (slast:=slast) (gs:=gs) (B:=B) (d:=d) (w:=w) (P:=P) (w3:=w3) (wy:=wy) (E:=E) (Ed:=Ed) hx hh HA1.out hks hP hPx hO hf hS hT HUN.out hts hoE hg;have hpic:=left_next (ks:=ks) hx Hnd.out Hin.out;have hlen:=Nat.le_trans (left_sub (gs:=gs) (l:=l.take k) (ks:=ks)).length_le hn;have hone:∀ u∈brC fr x h9,u.oneCell'=true:=by
    intro u hu;simp[brC]at hu
    rcases hu with rfl|rfl|rfl|rfl|rfl<;>rfl
   have Hone:=hqd hone;have HO:=hqd hO;have HS:=hqd hS;have HT:=hqd hT;have hsl0:(sel (l.take k) ks).length≤k:=by have:=(sel_sub (l.take k) ks).length_le;rw[List.length_take]at this;omega
   obtain⟨A9,c9⟩:=h9;unfold brV brC at HHx;unfold brC at Hstay Hone;dsimp only at HHx Hstay Hone
   clear hx hh hsp hks hP hO hS hT hone;generalize (sel (l.take k) ks).length=m at *;generalize brsC fr (sel (l.take k) ks) (sel (hs.take k) ks)=xs at *;generalize left gs (l.take k) ks=gs2 at *;generalize x.press.length=pl at *;generalize x.id=i1 at *;generalize x.done=i3 at *;generalize x.pic=i4 at *;go_upto_region 8 with fail
   have b1:=Has.new wr (fun _=>0) [.int .i64 (i1:Nat),.int .i64 (fr:Nat),.slice A9 pl c9,.int .i64 (i3:Nat),.int .i64 (i4:Nat)] 136 rfl;have ex1:=Ext.alloc wr (.cells #[.int .i64 (i1:Nat),.int .i64 (fr:Nat),.slice A9 pl c9,.int .i64 (i3:Nat),.int .i64 (i4:Nat)] 136);generalize hW:World.alloc wr _=W at *;obtain⟨gv,hgv⟩:∃ gv,gv=wr.heap.size:=⟨_,rfl⟩;rw[← hgv]at b1 ⊢;clear hW hgv k0 k1 k2 k3 k4;have j0:=b1.cell (i:=0) rfl;have j1:=b1.cell (i:=1) rfl;have j2:=b1.cell (i:=2) rfl;have j3:=b1.cell (i:=3) rfl;have j4:=b1.cell (i:=4) rfl;go_wp2_with fail;refine(HHx.out W (HT.out.ext ex1)).mono ?_;rintro e w3 ⟨⟨r,rfl,hPr⟩,e3⟩;have e13:=ex1.trans e3;have hT3:=HT.out.ext e13;have hS3:=HS.out.ext e13;have hO3:=HO.out.ext e13;have b3:=b1.ext e3;clear j0 j1 j2 j3 j4 b1;cases r with
   | true =>
    have b0:=(HA2.out.turn hT3 hdt).cell (i:=0) rfl;have j4:=b3.cell (i:=4) rfl;have HDr:=hqd fun W (e:Ext w3 W)=>at_drop (hS3.ext e) hpic (hT3.unborn.ext e) hts hsl hlen;unfold ptrV at HDr;clear b3 hS3;go_wp2_with fail;apply wrN 6;simp only[tk];repeat apply lxA (fun _ h _=>aj (h.cell b0) (h.cell j4))
    refine lex_nil ?_;intro Wx hWx hΦ;clear hΦ;simp only[dk];go_wp2_with fail;refine(HDr.out Wx hWx).mono ?_;rintro e w5 ⟨rfl,hT5,free2,hf2,hS5⟩;have hO5:=(hO3.ext hWx).turn hT5 HUN.out hd0;have hT15:=(hT3.ext hWx).trans hT5;clear hT5 hT3 hO3;go_wp2_with fail;go_roundw
    case rel=>exact Hgone.out w5 hPr free2 hO5 hf2 hS5 hT15
    case measure=>simp[intOf];omega
   | false =>
    have j0:=b3.cell (i:=0) rfl;have j1:=b3.cell (i:=1) rfl;have j2:=b3.cell (i:=2) rfl;have j3:=b3.cell (i:=3) rfl;have j4:=b3.cell (i:=4) rfl;have h15:=Hone.out;have hs3:=e13.size;have hT3s:=hT3.size;clear b3;go_wp2_with (at_builtin;refine wpList_append_new _ rfl _ _ 166 rfl _ 136 i0 brZ 5 56 underlying166 hi hz0 hz1 hz2 rfl (by decide) B m d _ rfl hO3 1 _ rfl rfl h15 (by unfold maxLen;omega) (by omega) (by omega) ?_;intro E Ed wy hoE hgE hwE);go_roundw
    case rel=>exact Hstay.out w3 wy hPr E Ed hO3 hS3 hT3 hoE hgE
    case measure=>simp[intOf];omega
  ·obtain rfl:k=N:=by omega
   have hd1:decide (k<k)=false:=decide_eq_false (by omega);have htk:l.take k=l:=List.take_of_length_le (by rw[← HN.out];exact Nat.le_refl _);have hth:hs.take k=hs:=List.take_of_length_le (by rw[HA1.out,← HN.out];exact Nat.le_refl _);rw[htk,hth]at hO;rw[htk]at hS;have hsl0:=(sel_sub l ks).length_le;rw[← HN.out]at hsl0;obtain⟨T1,hT1,hH1,hfin⟩:=dropRel7.fin (fr:=fr) (P:=P) HUN.out ht hts hdis HA1.out HM.out HA2.out HA4.out (hks.trans HN.out) hP hO hf hS hT;have HT1:=hqd hT1;have Hfin:=hqd hfin;have HF:=hqd hf;have HPP:=hqd hP;have Hks:=hqd (hks.trans HN.out);rw[htk];have c2:=hH1.cell (i:=2) rfl;have f2:=hH1.free 2;obtain⟨hT2,hH2⟩:=hH1.put (S:=(· = t)) hT1.unborn 2 (.slice B (sel l ks).length d) rfl;have HT2:=hqd hT2;have HH2:=hqd hH2;clear hO hS hT hT1 hfin hP hf hks htk hth hT2 hH2 hH1;generalize hm9:(sel l ks).length=m at *;by_cases hmk:m<k
   ·have hd2:decide (m<k)=true:=decide_eq_true hmk
    have hw9:IntKind.i64.wrap ((epoch:Int)+1)=(epoch:Int)+1:=IntWalk.i64_in _ (by omega);go_upto_region 13 with fail
    generalize hW:World.setCell wr _ _=W2 at *;clear hW c2 f2;have c4:=HH2.out.cell (i:=4) rfl;have f4:=HH2.out.free 4;obtain⟨hT3,hH3⟩:=HH2.out.put (S:=(· = t)) HT2.out.unborn 4 (.int .i64 ((epoch+1:Nat):Int)) rfl;have hcast:((epoch+1:Nat):Int)=(epoch:Int)+1:=by omega
    have HF9:=hqd (Hfin.out _ (epoch+1) (HT2.out.trans hT3) hH3);have HT9:=hqd (HT1.out.trans ((HT2.out.trans hT3).mono fun j hj=>.inl hj));rw[hcast]at HF9 HT9;clear hT3 hH3;go_wp2_with fail;go_ret;exact⟨_,rfl,T1,HT9.out,_,ks,epoch+1,free',rfl,Hks.out,HPP.out,HF.out,Nat.le_refl _,HF9.out⟩
   ·have hd2:decide (m<k)=false:=decide_eq_false hmk
    have HF9:=hqd (Hfin.out _ epoch HT2.out HH2.out);have HT9:=hqd (HT1.out.trans (HT2.out.mono fun j hj=>.inl hj));go_wp2_with fail;go_ret;exact⟨_,rfl,T1,HT9.out,_,ks,epoch,free',rfl,Hks.out,HPP.out,HF.out,Nat.le_succ _,HF9.out⟩
theorem drop_clear (h:TreeAt w T t b sb most last epoch fr l)(hm:most≤8)(hS:StoreAt w T ts sb n free slast gs)(hu:Unborn w T)(ht:0<t)(hts:0<ts)(hdis:t+2≤ts∨ts+5≤t)(hsl:slast<4611686018427387903)(hep:epoch<4611686018427387903)(hn:gs.length≤1000)
  (hnd:(l.map Br.pic).Nodup) (hin:∀ x∈l,x.pic∈gs.map Prod.fst)
  (HW:∀ W x h,Turn (In ts 5) w T W T→x∈l→Sp W T h.1 x.press.length h.2 x.press→Calls prog 324 #[brV fr x h] W fun e w'=>(∃ r,e = .returned (.bool r)∧P r)∧Ext W w') :
  Calls prog 293 #[ptrV b,.func (.func 324) #[] #[]] w (Gives (fun j=>j=t∨j=t+1∨In ts 5 j) w T (DropP t b sb most last epoch fr ts n free slast l gs P)):=by
 obtain⟨i0,hi,hz0,hz1,hz2⟩:=info_parts info_br;have hl8:=Nat.le_trans h.most8 hm;obtain⟨A,c,hs,a1,a2,a3,a4⟩:=h.blk;have b2:=a2.cell (i:=2) rfl;have b0:=a2.cell (i:=0) rfl;have hrd:=a3.rd.2;have hdt:¬ In ts 5 t:=by unfold In;omega
 have hdt1:¬ In ts 5 (t+1):=by unfold In;omega
 have hd0:¬ In ts 5 0:=by unfold In;omega
 have hst:dropRel7 w T sb fr ts n free slast l hs gs P (.slice none 0 0) (.int .i64 ((0:Nat):Int)) w:=⟨0,[],none,0,free,rfl,Nat.zero_le _,rfl,fun q hq=>by simp at hq,by simp[sel],by simpa [sel,brsC] using Own.nil_ _ _ _ _,Nat.le_refl _,by simpa [left] using hS,Turn.refl _ hu⟩;have Hst:=hqd hst;have HA1:=hqd a1;have HA2:=hqd a2;have HA3:=hqd a3;have HA4:=hqd a4;have HM:=hqd h.most8;have HHW:=hqd HW;have Hnd:=hqd hnd;have Hin:=hqd hin;have HUN:=hqd hu;obtain⟨N,hN⟩:∃ N,N=l.length:=⟨_,rfl⟩;have HN:=hqd hN;rw[← hN]at b2 hl8 hrd;have hmx:=hrd.2.1;unfold maxLen at hmx;unfold ptrV at *;clear h hS a1 a2 a3 a4 hst HW hnd hin hu hN hrd;go_enter func293,ntmps293;go_wp2_with fail;go_loopw [6,21] (fun lv iv wr=>dropRel7 w T sb fr ts n free slast l hs gs P lv iv wr) (fun _ iv _=>N-(intOf iv).toNat)
 case atStart=>exact Hst.out
 case round =>
  obtain⟨k,ks,B,d,free',rfl,hk,hks,hP,rfl,hO,hf,hS,hT⟩:=hrel;rw[← HN.out]at hk;by_cases hkn:k<N
  ·have hd1:decide (k<N)=true:=decide_eq_true hkn
   obtain⟨x,hx⟩:∃ x,l[k]?=some x:=⟨_,List.getElem?_eq_getElem (by rw[← HN.out];exact hkn)⟩;obtain⟨h9,hh⟩:∃ h,hs[k]?=some h:=⟨_,List.getElem?_eq_getElem (by rw[HA1.out,← HN.out];exact hkn)⟩;have a3:=HA3.out.turn hT hdt1;have q:=fun j v hv=>brsC_get fr l hs k x h9 hx hh j v hv;obtain⟨g,rfl,k0,_,_⟩:=a3.at_ (q 0 _ rfl);obtain⟨g',e',k1,_,_⟩:=a3.at_ (q 1 _ rfl);cases e'
   obtain⟨g',e',k2,_,_⟩:=a3.at_ (q 2 _ rfl);cases e'
   obtain⟨g',e',k3,_,_⟩:=a3.at_ (q 3 _ rfl);cases e'
   obtain⟨g',e',k4,_,_⟩:=a3.at_ (q 4 _ rfl);cases e'
   rw[Nat.add_zero]at k0;clear q a3;have hsp:=HA4.out k x h9 hx hh;have HHx:=hqd fun W (hTW:Turn (In ts 5) w T W T)=>HHW.out W x h9 hTW (List.mem_of_getElem? hx) (hsp.turn hTW hd0);have Hgone:=hqd fun wy hPx free2 hO hf2 hS hT=>dropRel7.gone (T:=T) (sb:=sb) (fr:=fr) (ts:=ts) (n:=n) (slast:=slast) (gs:=gs) (B:=B) (d:=d) (w:=w) (P:=P) (wy:=wy) (free2:=free2) hx hh hks hP hPx hO hf hf2 hS hT;have Hstay:=hqd fun w3 wy hPx E Ed hO hS hT hoE hg=>dropRel7.stays (T:=T) (sb:=sb) (fr:=fr) (ts:=ts) (n:=n) (slast:=slast) (gs:=gs) (B:=B) (d:=d) (w:=w) (P:=P) (w3:=w3) (wy:=wy) (E:=E) (Ed:=Ed) hx hh HA1.out hks hP hPx hO hf hS hT HUN.out hts hoE hg;have hpic:=left_next (ks:=ks) hx Hnd.out Hin.out;have hlen:=Nat.le_trans (left_sub (gs:=gs) (l:=l.take k) (ks:=ks)).length_le hn;have hone:∀ u∈brC fr x h9,u.oneCell'=true:=by
    intro u hu;simp[brC]at hu
    rcases hu with rfl|rfl|rfl|rfl|rfl<;>rfl
   have Hone:=hqd hone;have HO:=hqd hO;have HS:=hqd hS;have HT:=hqd hT;have hsl0:(sel (l.take k) ks).length≤k:=by have:=(sel_sub (l.take k) ks).length_le;rw[List.length_take]at this;omega
   obtain⟨A9,c9⟩:=h9;unfold brV brC at HHx;unfold brC at Hstay Hone;dsimp only at HHx Hstay Hone
   clear hx hh hsp hks hP hO hS hT hone;generalize (sel (l.take k) ks).length=m at *;generalize brsC fr (sel (l.take k) ks) (sel (hs.take k) ks)=xs at *;generalize left gs (l.take k) ks=gs2 at *;generalize x.press.length=pl at *;generalize x.id=i1 at *;generalize x.done=i3 at *;generalize x.pic=i4 at *;go_upto_region 8 with fail
   have b1:=Has.new wr (fun _=>0) [.int .i64 (i1:Nat),.int .i64 (fr:Nat),.slice A9 pl c9,.int .i64 (i3:Nat),.int .i64 (i4:Nat)] 136 rfl;have ex1:=Ext.alloc wr (.cells #[.int .i64 (i1:Nat),.int .i64 (fr:Nat),.slice A9 pl c9,.int .i64 (i3:Nat),.int .i64 (i4:Nat)] 136);generalize hW:World.alloc wr _=W at *;obtain⟨gv,hgv⟩:∃ gv,gv=wr.heap.size:=⟨_,rfl⟩;rw[← hgv]at b1 ⊢;clear hW hgv k0 k1 k2 k3 k4;have j0:=b1.cell (i:=0) rfl;have j1:=b1.cell (i:=1) rfl;have j2:=b1.cell (i:=2) rfl;have j3:=b1.cell (i:=3) rfl;have j4:=b1.cell (i:=4) rfl;go_wp2_with fail;refine(HHx.out W (HT.out.ext ex1)).mono ?_;rintro e w3 ⟨⟨r,rfl,hPr⟩,e3⟩;have e13:=ex1.trans e3;have hT3:=HT.out.ext e13;have hS3:=HS.out.ext e13;have hO3:=HO.out.ext e13;have b3:=b1.ext e3;clear j0 j1 j2 j3 j4 b1;cases r with
   | true =>
    have b0:=(HA2.out.turn hT3 hdt).cell (i:=0) rfl;have j4:=b3.cell (i:=4) rfl;have HDr:=hqd fun W (e:Ext w3 W)=>at_drop (hS3.ext e) hpic (hT3.unborn.ext e) hts hsl hlen;unfold ptrV at HDr;clear b3 hS3;go_wp2_with fail;apply wrN 6;simp only[tk];repeat apply lxA (fun _ h _=>aj (h.cell b0) (h.cell j4))
    refine lex_nil ?_;intro Wx hWx hΦ;clear hΦ;simp only[dk];go_wp2_with fail;refine(HDr.out Wx hWx).mono ?_;rintro e w5 ⟨rfl,hT5,free2,hf2,hS5⟩;have hO5:=(hO3.ext hWx).turn hT5 HUN.out hd0;have hT15:=(hT3.ext hWx).trans hT5;clear hT5 hT3 hO3;go_wp2_with fail;go_roundw
    case rel=>exact Hgone.out w5 hPr free2 hO5 hf2 hS5 hT15
    case measure=>simp[intOf];omega
   | false =>
    have j0:=b3.cell (i:=0) rfl;have j1:=b3.cell (i:=1) rfl;have j2:=b3.cell (i:=2) rfl;have j3:=b3.cell (i:=3) rfl;have j4:=b3.cell (i:=4) rfl;have h15:=Hone.out;have hs3:=e13.size;have hT3s:=hT3.size;clear b3;go_wp2_with (at_builtin;refine wpList_append_new _ rfl _ _ 166 rfl _ 136 i0 brZ 5 56 underlying166 hi hz0 hz1 hz2 rfl (by decide) B m d _ rfl hO3 1 _ rfl rfl h15 (by unfold maxLen;omega) (by omega) (by omega) ?_;intro E Ed wy hoE hgE hwE);go_roundw
    case rel=>exact Hstay.out w3 wy hPr E Ed hO3 hS3 hT3 hoE hgE
    case measure=>simp[intOf];omega
  ·obtain rfl:k=N:=by omega
   have hd1:decide (k<k)=false:=decide_eq_false (by omega);have htk:l.take k=l:=List.take_of_length_le (by rw[← HN.out];exact Nat.le_refl _);have hth:hs.take k=hs:=List.take_of_length_le (by rw[HA1.out,← HN.out];exact Nat.le_refl _);rw[htk,hth]at hO;rw[htk]at hS;have hsl0:=(sel_sub l ks).length_le;rw[← HN.out]at hsl0;obtain⟨T1,hT1,hH1,hfin⟩:=dropRel7.fin (fr:=fr) (P:=P) HUN.out ht hts hdis HA1.out HM.out HA2.out HA4.out (hks.trans HN.out) hP hO hf hS hT;have HT1:=hqd hT1;have Hfin:=hqd hfin;have HF:=hqd hf;have HPP:=hqd hP;have Hks:=hqd (hks.trans HN.out);rw[htk];have c2:=hH1.cell (i:=2) rfl;have f2:=hH1.free 2;obtain⟨hT2,hH2⟩:=hH1.put (S:=(· = t)) hT1.unborn 2 (.slice B (sel l ks).length d) rfl;have HT2:=hqd hT2;have HH2:=hqd hH2;clear hO hS hT hT1 hfin hP hf hks htk hth hT2 hH2 hH1;generalize hm9:(sel l ks).length=m at *;by_cases hmk:m<k
   ·have hd2:decide (m<k)=true:=decide_eq_true hmk
    have hw9:IntKind.i64.wrap ((epoch:Int)+1)=(epoch:Int)+1:=IntWalk.i64_in _ (by omega);go_upto_region 13 with fail
    generalize hW:World.setCell wr _ _=W2 at *;clear hW c2 f2;have c4:=HH2.out.cell (i:=4) rfl;have f4:=HH2.out.free 4;obtain⟨hT3,hH3⟩:=HH2.out.put (S:=(· = t)) HT2.out.unborn 4 (.int .i64 ((epoch+1:Nat):Int)) rfl;have hcast:((epoch+1:Nat):Int)=(epoch:Int)+1:=by omega
    have HF9:=hqd (Hfin.out _ (epoch+1) (HT2.out.trans hT3) hH3);have HT9:=hqd (HT1.out.trans ((HT2.out.trans hT3).mono fun j hj=>.inl hj));rw[hcast]at HF9 HT9;clear hT3 hH3;go_wp2_with fail;go_ret;exact⟨_,rfl,T1,HT9.out,_,ks,epoch+1,free',rfl,Hks.out,HPP.out,HF.out,Nat.le_refl _,HF9.out⟩
   ·have hd2:decide (m<k)=false:=decide_eq_false hmk
    have HF9:=hqd (Hfin.out _ epoch HT2.out HH2.out);have HT9:=hqd (HT1.out.trans (HT2.out.mono fun j hj=>.inl hj));go_wp2_with fail;go_ret;exact⟨_,rfl,T1,HT9.out,_,ks,epoch,free',rfl,Hks.out,HPP.out,HF.out,Nat.le_succ _,HF9.out⟩
end
section
variable {w w' wr:World} {T T':Tg} {t b sb most last epoch fr ts n free slast:Nat} {l:List Br} {gs:List (Nat×List Int)}
theorem brV_eq(fr:Nat)(x:Br)(h:Option Addr×Nat):brV fr x h = .agg #[.int .i64 (x.id:Nat),.int .i64 (fr:Nat),.slice h.1 x.press.length h.2,.int .i64 (x.done:Nat),.int .i64 (x.pic:Nat)]:=rfl
theorem clear_one(w:World)(x:Br)(h:Option Addr×Nat):Calls prog 324 #[brV fr x h] w fun e w'=>(∃ r,e = .returned (.bool r)∧r=true)∧Ext w w':=by
 rw[brV_eq];go_enter func324,ntmps324;go_wp2_with fail;go_ret;exact⟨⟨_,rfl,rfl⟩,Ext.alloc _ _⟩
theorem move_one(w:World)(x:Br)(h:Option Addr×Nat):Calls prog 291 #[brV fr x h] w fun e w'=>e = .returned (.bool false)∧Ext w w':=by
 rw[brV_eq];go_enter func291,ntmps291;go_wp2_with fail;go_ret;exact⟨rfl,Ext.alloc _ _⟩
theorem keep_move(w:World)(kb:Nat)(hk:w.cell? ⟨kb,0,none⟩=some (.func (.func 291) #[] #[]))(x:Br)(h:Option Addr×Nat):Calls prog 294 #[brV fr x h,.pointer (some ⟨kb,0,none⟩)] w fun e w'=>(∃ r,e = .returned (.bool r)∧r=true)∧Ext w w':=by
 have HM:=hqd fun W=>move_one (fr:=fr) W x h;rw[brV_eq]at *;generalize x.press.length=pl at *;generalize x.id=i1 at *;generalize x.done=i3 at *;generalize x.pic=i4 at *;have hkl:kb<w.heap.size:=World.block_lt_of_cell? w _ hk;go_enter func294,ntmps294;go_wp2_with fail;refine(HM.out _).mono ?_;rintro e w1 ⟨rfl,e1⟩;go_wp2_with fail;go_ret;exact⟨⟨_,rfl,rfl⟩,(Ext.alloc _ _).trans e1⟩
theorem keep_may(w:World)(kb mb:Nat)(hk:w.cell? ⟨kb,0,none⟩=some (.func (.func 278) #[ptrV mb] #[]))(x:Br)(h:Option Addr×Nat)(HC:∀ W,Ext w W→Calls prog 278 #[ptrV mb,brV fr x h] W fun e w'=>(∃ r,e = .returned (.bool r))∧Ext W w') :
  Calls prog 294 #[brV fr x h,.pointer (some ⟨kb,0,none⟩)] w fun e w'=>(∃ r,e = .returned (.bool r)∧True)∧Ext w w':=by
 have HM:=hqd HC;rw[brV_eq]at *;generalize x.press.length=pl at *;generalize x.id=i1 at *;generalize x.done=i3 at *;generalize x.pic=i4 at *;have hkl:kb<w.heap.size:=World.block_lt_of_cell? w _ hk;unfold ptrV at *;clear HC;go_enter func294,ntmps294;go_wp2_with fail;refine(HM.out _ (Ext.alloc _ _)).mono ?_;rintro e w1 ⟨⟨r,rfl⟩,e1⟩;go_wp2_with fail;go_ret;exact⟨⟨_,rfl,trivial⟩,(Ext.alloc _ _).trans e1⟩
theorem tree_clear(h:TreeAt w T t b sb most last epoch fr l)(hm:most≤8)(hS:StoreAt w T ts sb n free slast gs)(hu:Unborn w T)(ht:0<t)(hts:0<ts)(hdis:t+2≤ts∨ts+5≤t)(hsl:slast<4611686018427387903)(hep:epoch<4611686018427387903)(hn:gs.length≤1000)
  (hnd:(l.map Br.pic).Nodup) (hin:∀ x∈l,x.pic∈gs.map Prod.fst) :
  Calls prog 310 #[ptrV b] w (Gives (fun j=>j=t∨j=t+1∨In ts 5 j) w T (DropP t b sb most last epoch fr ts n free slast l gs (· = true))):=by
 have HD:=hqd (drop_clear (P:=(· = true)) h hm hS hu ht hts hdis hsl hep hn hnd hin fun W x h _ _ _=>clear_one W x h);unfold ptrV at *;clear h hS;go_enter func310,ntmps310;go_wp2_with fail;refine HD.out.mono ?_;rintro e w1 ⟨v,rfl,T1,hT1,r,ks,ep,free',rfl,hq⟩;go_wp2_with fail;go_ret;exact⟨_,rfl,T1,hT1,r,ks,ep,free',rfl,hq⟩
theorem tree_keep_move(h:TreeAt w T t b sb most last epoch fr l)(hm:most≤8)(hS:StoreAt w T ts sb n free slast gs)(hu:Unborn w T)(ht:0<t)(hts:0<ts)(hdis:t+2≤ts∨ts+5≤t)(hsl:slast<4611686018427387903)(hep:epoch<4611686018427387903)(hn:gs.length≤1000)
  (hnd:(l.map Br.pic).Nodup) (hin:∀ x∈l,x.pic∈gs.map Prod.fst) :
  Calls prog 277 #[ptrV b,.func (.func 291) #[] #[]] w (Gives (fun j=>j=t∨j=t+1∨In ts 5 j) w T (DropP t b sb most last epoch fr ts n free slast l gs (· = true))):=by
 have x1:=Ext.alloc w (.cells #[.func (.func 291) #[] #[]] 227);have b1:=(Has.new w (fun _=>0) [.func (.func 291) #[] #[]] 227 rfl);have hkb:T w.heap.size=0:=hu _ (Nat.le_refl _);have hk0:=b1.cell (i:=0) rfl;have hd0:¬ In ts 5 0:=by unfold In;omega
 have HD:=hqd (drop_keep (P:=(· = true)) w.heap.size (h.ext x1) hm (hS.ext x1) (hu.ext x1) ht hts hdis hsl hep hn hnd hin fun W x h hT _ _=>keep_move W w.heap.size ((cell_blk (hT.block _ b1.lt (by rw[hkb];exact hd0))).trans hk0) x h);have hmf:∀ fn first cap w,(Instr.makeFunc fn first cap).run prog w = .ok (.func fn first cap) w:=fun _ _ _ _=>rfl;unfold ptrV at *;clear h hS b1 hk0;go_enter func277,ntmps277;go_upto_region 1 with fail
 generalize hW:World.alloc w _=W0 at *;obtain⟨gm,hgm⟩:∃ gm,gm=w.heap.size:=⟨_,rfl⟩;rw[← hgm]at HD ⊢;clear hW hgm;go_wp2_with fail;refine HD.out.mono ?_;rintro e w1 ⟨v,rfl,T1,hT1,r,ks,ep,free',rfl,hq⟩;go_wp2_with fail;go_ret;exact⟨_,rfl,T1,(Turn.of_ext _ hu x1).trans hT1,r,ks,ep,free',rfl,hq⟩
theorem tree_keep_may(mb:Nat)(h:TreeAt w T t b sb most last epoch fr l)(hm:most≤8)(hS:StoreAt w T ts sb n free slast gs)(hu:Unborn w T)(ht:0<t)(hts:0<ts)(hdis:t+2≤ts∨ts+5≤t)(hsl:slast<4611686018427387903)(hep:epoch<4611686018427387903)(hn:gs.length≤1000)
  (hnd:(l.map Br.pic).Nodup) (hin:∀ x∈l,x.pic∈gs.map Prod.fst)
  (HC:∀ W x h,Turn (In ts 5) w T W T→x∈l→Sp W T h.1 x.press.length h.2 x.press→Calls prog 278 #[ptrV mb,brV fr x h] W fun e w'=>(∃ r,e = .returned (.bool r))∧Ext W w') :
  Calls prog 277 #[ptrV b,.func (.func 278) #[ptrV mb] #[]] w (Gives (fun j=>j=t∨j=t+1∨In ts 5 j) w T (DropP t b sb most last epoch fr ts n free slast l gs (fun _=>True))):=by
 have x1:=Ext.alloc w (.cells #[.func (.func 278) #[ptrV mb] #[]] 227);have b1:=(Has.new w (fun _=>0) [.func (.func 278) #[ptrV mb] #[]] 227 rfl);have hkb:T w.heap.size=0:=hu _ (Nat.le_refl _);have hk0:=b1.cell (i:=0) rfl;have hd0:¬ In ts 5 0:=by unfold In;omega
 have HD:=hqd (drop_keep (P:=fun _=>True) w.heap.size (h.ext x1) hm (hS.ext x1) (hu.ext x1) ht hts hdis hsl hep hn hnd hin fun W x h hT hx hsp=>keep_may W w.heap.size mb ((cell_blk (hT.block _ b1.lt (by rw[hkb];exact hd0))).trans hk0) x h fun W2 e=>HC W2 x h (((Turn.of_ext _ hu x1).trans hT).ext e) hx (hsp.ext e));have hmf:∀ fn first cap w,(Instr.makeFunc fn first cap).run prog w = .ok (.func fn first cap) w:=fun _ _ _ _=>rfl;unfold ptrV at *;clear h hS b1 hk0 HC;go_enter func277,ntmps277;go_upto_region 1 with fail
 generalize hW:World.alloc w _=W0 at *;obtain⟨gm,hgm⟩:∃ gm,gm=w.heap.size:=⟨_,rfl⟩;rw[← hgm]at HD ⊢;clear hW hgm;go_wp2_with fail;refine HD.out.mono ?_;rintro e w1 ⟨v,rfl,T1,hT1,r,ks,ep,free',rfl,hq⟩;go_wp2_with fail;go_ret;exact⟨_,rfl,T1,(Turn.of_ext _ hu x1).trans hT1,r,ks,ep,free',rfl,hq⟩
end
section
variable {w w' wr:World} {T T':Tg} {t b sb most last epoch fr ts n free slast:Nat} {l:List Br} {gs:List (Nat×List Int)}
theorem TreeAt.re(h:TreeAt w T t b sb most last epoch fr [])(fr':Nat):TreeAt w T t b sb most last epoch fr' []:=by
 obtain⟨A,c,hs,a1,a2,a3,a4⟩:=h.blk;refine⟨h.most8,A,c,hs,a1,a2,?_,fun i x h hi=>by simp at hi⟩;cases hs with
 | nil=>exact a3
 | cons _ _=>simp at a1
theorem Sp.gr{w w':World}{C:Option Addr}{A:Option Addr}{n c:Nat}{ps:List (List UInt8)}(h:Sp w T A n c ps)(hR:gR C w w')(hC:∀ g,blk C=some g→T g≠0):Sp w' T A n c ps :=
 Pp.to h (fun k hk hl=>hR.block k hl (fun e=>hC k e.symm hk)) (fun k hk _=>hk)
def AddP(t b sb most last epoch fr ts n free slast:Nat)(l:List Br)(gs:List (Nat×List Int))(press:List (List UInt8))(g:List Int)(v:Value)(w':World)(T':Tg):Prop :=
 (v = .tuple #[.int .i64 0,.bool false]∧TreeAt w' T' t b sb most last epoch fr l∧StoreAt w' T' ts sb n free slast gs) ∨
 (l.length<most∧v = .tuple #[.int .i64 ((last+1:Nat):Int),.bool true]∧TreeAt w' T' t b sb most (last+1) epoch fr (l++[⟨last+1,press,0,slast+1⟩])∧StoreAt w' T' ts sb n free (slast+1) (gs++[(slast+1,g)]))
theorem tree_add_no(h:TreeAt w T t b sb most last epoch fr l)(hm:most≤8)(fr' base:Nat)(PA:Option Addr)(pn pc:Nat)(hno:most≤l.length):Calls prog 296 #[ptrV b,.int .i64 (fr':Nat),.int .i64 (base:Nat),.slice PA pn pc] w fun e w'=>e = .returned (.tuple #[.int .i64 0,.bool false])∧Ext w w':=by
 obtain⟨A,c,hs,a1,a2,a3,a4⟩:=h.blk;have b1:=a2.cell (i:=1) rfl;have b2:=a2.cell (i:=2) rfl;have hd1:decide (most≤l.length)=true:=decide_eq_true hno;have hd2:decide ((most:Int)≤(l.length:Int))=true:=decide_eq_true (by omega);unfold ptrV;clear h a1 a2 a3 a4;generalize l.length=N at *;go_enter func296,ntmps296;go_wp2_with fail;apply wrA trivial;repeat first|apply lxA (fun _ h _=>aj (h.cell b1) (h.cell b2))|apply lxK trivial
 refine lex_nil ?_;intro Wx hWx hΦ;clear hΦ;go_wp2_with fail;go_ret2
 exact⟨rfl,hWx⟩
def addB(fr last x:Nat)(press:List (List UInt8))(v:Value)(w:World)(T:Tg):Prop:=∃ B d,v=brV fr ⟨last,press,0,x⟩ (B,d)∧Sp w T B press.length d press
theorem addB.stab{tC fr last x:Nat}{press:List (List UInt8)}(hC:tC≠0):Stab tC (addB fr last x press):=by
 rintro v w T w' T' ⟨B,d,e,h⟩ hT;exact⟨B,d,e,h.turn hT (fun e=>hC e.symm)⟩
def cloP(press:List (List UInt8))(v:Value)(w:World)(T:Tg):Prop:=∃ B d,v = .slice B press.length d∧Sp w T B press.length d press
theorem cloP.stab{tC:Nat}{press:List (List UInt8)}(hC:tC≠0):Stab tC (cloP press):=by
 rintro v w T w' T' ⟨B,d,e,h⟩ hT;exact⟨B,d,e,h.turn hT (fun e=>hC e.symm)⟩
end
section
variable {w w' wr:World} {T T':Tg} {t b sb most last epoch fr ts n free slast:Nat} {l:List Br} {gs:List (Nat×List Int)}
theorem tree_add(h:TreeAt w T t b sb most last epoch fr l)(hm:most≤8)(hS:StoreAt w T ts sb n free slast gs)(hu:Unborn w T)(ht:0<t)(hts:0<ts)(hdis:t+2≤ts∨ts+5≤t)(hsl:slast<4611686018427387903)(hla:last<4611686018427387903)(hn:gs.length≤1000)
  {base:Nat} {g:List Int} (hb:(base,g)∈gs) {PA:Option Addr} {pn pc:Nat} {press:List (List UInt8)} (hp:Sp w T PA pn pc press) (hok:okPs press) (hpn:0<pn) (hlt:l.length<most) :
  Calls prog 296 #[ptrV b,.int .i64 (fr:Nat),.int .i64 (base:Nat),.slice PA pn pc] w (Gives (fun j=>j=t∨j=t+1∨In ts 5 j) w T (AddP t b sb most last epoch fr ts n free slast l gs press g)):=by
 obtain⟨i0,hi,hz0,hz1,hz2⟩:=info_parts info_br;obtain⟨A,c,hs,a1,a2,a3,a4⟩:=h.blk;have b0:=a2.cell (i:=0) rfl;have b1:=a2.cell (i:=1) rfl;have b2:=a2.cell (i:=2) rfl;have hpl:=hp.len;have hd1:decide (most≤l.length)=false:=decide_eq_false (by omega);have hd2:decide ((most:Int)≤(l.length:Int))=false:=decide_eq_false (by omega);have hd3:((pn:Int)==0)=false:=by rw[beq_eq_false_iff_ne];omega
 have HE:=hqd h.elem;have HF:=hqd fun W (e:Ext w W)=>at_fork (hS.ext e) hb (hu.ext e) hts hsl hn;have HA:=hqd fun W (e:Ext w W) D m d qs (hq:Rp W D m d qs)=>branch_alike W D m d qs PA pn pc press hq (hp.rp.ext e);have Hst:=hqd (show ∀ W,Ext w W→AddP t b sb most last epoch fr ts n free slast l gs press g (.tuple #[.int .i64 0,.bool false]) W T from fun W e=>.inl ⟨rfl,h.ext e,hS.ext e⟩);have Hp:=hqd hp;have Hpl:=hqd hpl;have HU:=hqd hu;have HA1:=hqd a1;have HA2:=hqd a2;have HA3:=hqd a3;have HA4:=hqd a4;have Hok:=hqd hok;have hpnm:=hp.rp.max;obtain⟨N,hN⟩:∃ N,N=l.length:=⟨_,rfl⟩;have HN:=hqd hN;have hl8:N≤7:=by omega
 have Hlt:=hqd hlt;rw[← hN]at b2 hd1 hd2 hlt;unfold ptrV at *;unfold maxLen at hpnm;clear h hS a1 a2 a3 a4 hp hpl hu hb hok hN hn;go_enter func296,ntmps296;go_wp2_with fail;apply wrA trivial;repeat first|apply lxA (fun _ h _=>aj (h.cell b1) (h.cell b2))|apply lxK trivial
 refine lex_nil ?_;intro Wx hWx hΦ;clear hΦ;have b0:=hWx.cell b0;have b2:=hWx.cell b2;go_wp2_with fail;go_loopw [38] (fun iv wr=>∃ k:Nat,iv = .int .i64 (k:Nat)∧k≤N∧Ext w wr) (fun iv _=>N-(intOf iv).toNat)
 case atStart=>exact⟨0,rfl,Nat.zero_le _,hWx⟩
 case round =>
  obtain⟨k,rfl,hk,he⟩:=hrel;by_cases hkn:k<N
  ·have hd4:decide (k<N)=true:=decide_eq_true hkn
   obtain⟨x,hx⟩:∃ x,l[k]?=some x:=⟨_,List.getElem?_eq_getElem (by rw[← HN.out];exact hkn)⟩;obtain⟨A',c',hs',q1,q2,q3,q4,q5⟩:=HE.out;rw[HA2.out.cell (i:=2) rfl]at q2;cases q2
   obtain⟨g9,⟨A1,c1⟩,rfl,hgT,_,hv,hsp⟩:=q5 k x hx;have hv1:∀ i v,(brC fr x (A1,c1))[i]?=some v→wr.cell? ⟨g9,k*5+i,none⟩=some v:=fun i v hi=>he.cell (hv i v hi);have k0:=hv1 0 _ rfl;have k1:=hv1 1 _ rfl;have k2:=hv1 2 _ rfl;have k3:=hv1 3 _ rfl;have k4:=hv1 4 _ rfl;rw[Nat.add_zero]at k0;have HAx:=hqd fun W (e:Ext w W)=>HA.out W e A1 x.press.length c1 x.press (hsp.rp.ext e);clear hv hv1 hsp hx q1 q3 q4 q5;generalize x.press.length=pl at *;generalize x.press=ps at *;generalize x.id=i1 at *;generalize x.done=i3 at *;generalize x.pic=i4 at *;go_upto_region 6 with fail
   have b9:=Has.new wr (fun _=>0) [.int .i64 (i1:Nat),.int .i64 (fr:Nat),.slice A1 pl c1,.int .i64 (i3:Nat),.int .i64 (i4:Nat)] 136 rfl;have ex1:=Ext.alloc wr (.cells #[.int .i64 (i1:Nat),.int .i64 (fr:Nat),.slice A1 pl c1,.int .i64 (i3:Nat),.int .i64 (i4:Nat)] 136);generalize hW:World.alloc wr _=W at *;obtain⟨gv,hgv⟩:∃ gv,gv=wr.heap.size:=⟨_,rfl⟩;rw[← hgv]at b9 ⊢;clear hW hgv k0 k1 k2 k3 k4;have j1:=b9.cell (i:=1) rfl;have j2:=b9.cell (i:=2) rfl;clear b9;by_cases hpp:pl=pn
   ·have hd5:((pl:Int)==(pn:Int))=true:=by rw[beq_iff_eq];omega
    have HAy:=hqd (HAx.out W (he.trans ex1));generalize (List.take (min pl pn) ps==List.take (min pl pn) press)=r at *;clear hpp;go_wp2_with fail;refine HAy.out.mono ?_;rintro e w3 ⟨rfl,e3⟩;cases r with
    | true =>
     go_wp2_with fail;go_ret2
     exact⟨_,rfl,T,Turn.of_ext _ HU.out ((he.trans ex1).trans e3),Hst.out _ ((he.trans ex1).trans e3)⟩
    | false =>
     go_wp2_with fail;go_roundw
     case rel=>exact⟨k+1,by go_num,by omega,(he.trans ex1).trans e3⟩
     case measure=>simp[intOf];omega
   ·have hd5:((pl:Int)==(pn:Int))=false:=by rw[beq_eq_false_iff_ne];omega
    go_wp2_with fail;go_roundw
    case rel=>exact⟨k+1,by go_num,by omega,he.trans ex1⟩
    case measure=>simp[intOf];omega
  ·obtain rfl:k=N:=by omega
   have hd4:decide (k<k)=false:=decide_eq_false (by omega);have b0:=he.cell (HA2.out.cell (i:=0) rfl);go_wp2_with fail;refine(HF.out wr he).mono ?_;rintro e w3 ⟨v,rfl,T3,hT3,rfl,hS3⟩;have hdt:¬ In ts 5 t:=by unfold In;omega
   have hdt1:¬ In ts 5 (t+1):=by unfold In;omega
   have hd0:¬ In ts 5 0:=by unfold In;omega
   have a2:=(HA2.out.ext he).turn hT3 hdt;have b3:=a2.cell (i:=3) rfl;have f3:=a2.free 3;have hT03:=(Turn.of_ext (fun j=>j=t∨j=t+1∨In ts 5 j) HU.out he).trans (hT3.mono fun k hk=>.inr (.inr hk));have hw1:IntKind.i64.wrap ((last:Int)+1)=(last:Int)+1:=IntWalk.i64_in _ (by omega);have Hb2:=hqd a2;have HT3:=hqd hT3;have HT03:=hqd hT03;have HS3:=hqd hS3;clear a2 hT3 hT03 hS3;go_wp2_with fail;have hnb:blk A≠some b:=fun e=>by have:=HA3.out.2 b e;have:=HA2.out.1;omega
   obtain⟨hT4,hH4⟩:=Hb2.out.put (S:=(· = t)) HT3.out.unborn 3 (.int .i64 ((last:Int)+1)) rfl;have hH4:=hH4.is (show _=[Value.pointer (some ⟨sb,0,none⟩),.int .i64 (most:Nat),.slice A l.length c,.int .i64 ((last:Int)+1),.int .i64 (epoch:Nat)] from rfl);have hR4:=((HA3.out.ext he).turn HT3.out hdt1).turn hT4 (by omega);have hsp4:=((Hp.out.ext he).turn HT3.out hd0).turn hT4 (by omega);have hS4:=HS3.out.turn hT4 (fun j hj=>by unfold In at hj;omega);have hA4:=fun i x h (hi:l[i]?=some x) (hh:hs[i]?=some h)=>(((HA4.out i x h hi hh).ext he).turn HT3.out hd0).turn hT4 (by omega);have HT04:=hqd (HT03.out.trans (hT4.mono fun j hj=>.inl hj));have hu0:=hT4.unborn;generalize hW4:World.setCell w3 _ _=w4 at *;clear hW4 b3 f3;have c2:=hH4.cell (i:=2) rfl;have c3:=hH4.cell (i:=3) rfl;rw[← HN.out]at c2 hR4;have hPs:Stab (t+1) (cloP press):=cloP.stab (by omega);have hPb:Stab (t+1) (addB fr (last+1) (slast+1) press):=addB.stab (by omega);have hRowC:=hR4.cond;have hRowOwn:=hR4.1;have HCl:∀ W,gR A w4 W→Unborn W T3→Calls prog 109 #[.slice PA pn pc] W (Gives (fun _=>False) W T3 (cloP press)):=fun W hR hu9=>by
    have hW:=hsp4.gr hR (fun g hg e=>by have:=(hRowC g hg).2;omega);refine(branch_clone W PA pn pc press hW.rp Hok.out.1 Hok.out.2).mono ?_;rintro e w' ⟨B,d,rfl,hr,ex⟩;exact⟨_,rfl,T3,Turn.of_ext _ hu9 ex,B,d,by rw[Hpl.out],by rw[← Hpl.out];exact hr.sp hu9⟩
   have HCl:=hqd HCl;have hone:∀(v:Value) (w:World) (T:Tg),addB fr (last+1) (slast+1) press v w T→v.cells.toList.length=5∧∀ y∈v.cells.toList,y.oneCell'=true:=by
    rintro v w T ⟨B,d,rfl,_⟩;exact⟨rfl,by simp[Value.cells,Value.oneCell',brV,brC]⟩
   have HS4:=hqd hS4;have HA4:=hqd hA4;have HH4:=hqd hH4;clear hS4 hA4 hH4 hT4 hsp4;apply wrH 18 (gR A) (gRs 15 A) (gJs 15 136 5 A k c (brsC fr l hs)) (gJs.start hRowOwn);simp only[tk];repeat apply lxG (fun _ h _ _=>aj (h.cell c2 hnb) (h.cell c3 hnb))
   apply lexG_call (p:=FrP T3 w4.heap.size (cloP press)) (by decide) (by decide) (FrP.stab hPs hRowC _)
   ·rfl
   ·intro W
    go_simp;exact⟨rfl,rfl⟩
   ·intro W hR hJ hΦ
    have hu9:Unborn W T3:=fun k hk=>hu0 k (Nat.le_trans hR.size hk);exact FrP.call hu9 hR.size (HCl.out W hR hu9)
   intro v1;simp only[pu];repeat apply lxG (fun _ _ _ _=>trivial)
   apply lexG_new (p:=FrP T3 w4.heap.size (addB fr (last+1) (slast+1) press)) (by decide) (by decide) (FrP.stab hPb hRowC _)
   ·rfl
   ·intro W hR hJ hΦ
    obtain⟨T9,hk9,hu9,B,d,rfl,hsp9⟩:=hΦ.1 rfl;refine⟨.agg #[.int .i64 ((last:Int)+1),.int .i64 (fr:Nat),.slice B press.length d,.int .i64 0,.int .i64 ((slast:Int)+1)],W,?_,gR.refl _ _,gRs.refl _ _ _ _,T9,hk9,hu9,B,d,rfl,hsp9⟩;go_simp;first|done|rfl
   intro v2;simp only[pu];apply lexG_new (p:=BuiltP T3 w4.heap.size (addB fr (last+1) (slast+1) press) 136) (by decide) (by decide) (BuiltP.stab hPb hRowC _)
   ·rfl
   ·intro W hR hJ hΦ
    have hF:=hΦ.1 rfl;have hB:=BuiltP.made (e:=136) hPb hR.size hF;obtain⟨T9,hk9,hu9,B,d,rfl,hsp9⟩:=hF;rw[brV_eq]at hB ⊢;refine⟨_,_,?_,(Ext.alloc _ _).grownBy _,.inr (Ext.alloc _ _),hB⟩;go_simp;first|done|rfl
   intro v3;simp only[pu];apply lexG_new (p:=AppP T3 w4.heap.size (addB fr (last+1) (slast+1) press) (t+1) A 136 5 (k+1) (brsC fr l hs)) (by decide) (by decide) (fun j hj v w w9 h hR=>AppP.stab j hj v w w9 h hPb hR)
   ·rfl
   ·intro W hR hJ hΦ
    exact exec_append_call W _ _ 166 rfl 136 i0 brZ 5 56 underlying166 hi hz0 hz1 hz2 rfl (by decide) A k c (brsC fr l hs) rfl (hJ rfl) v3 rfl (hΦ.1 rfl) hone (by unfold maxLen;omega) (by omega) hRowC hPb hR.size
   intro v4;simp only[pu];repeat apply lxG (fun _ _ _ _=>trivial)
   refine lexG_nil ?_;intro W hR hap hΦ;obtain⟨u1,T1,E,Ed,rfl,hT1,hP1,hRow1,hWent⟩:=(hΦ.1 rfl).fin hR hRowC;clear hΦ hap;obtain⟨B,d,rfl,hsp1⟩:=hP1;simp only[dk];have hH1:=HH4.out.turn hT1 (by omega);have c2:=hH1.cell (i:=2) rfl;have f2:=hH1.free 2;obtain⟨hT5,hH5⟩:=hH1.put (S:=(· = t)) hT1.unborn 2 (.slice E (k+1) Ed) rfl;have HT5:=hqd ((HT04.out.trans (hT1.mono fun j hj=>.inr (.inl hj))).trans (hT5.mono fun j hj=>.inl hj));have HS5:=hqd ((HS4.out.turn hT1 (fun j hj=>by unfold In at hj;omega)).turn hT5 (fun j hj=>by unfold In at hj;omega));have HTr:=hqd (show TreeAt (W.setCell ⟨b,2,none⟩ (.slice E (k+1) Ed)) T1 t b sb most (last+1) epoch fr (l++[⟨last+1,press,0,slast+1⟩]) from by
    have hl1:(l++[(⟨last+1,press,0,slast+1⟩:Br)]).length=k+1:=by rw[List.length_append,HN.out];rfl
    refine⟨by omega,E,Ed,hs++[(B,d)],by rw[List.length_append,HA1.out,List.length_append];rfl,?_,?_,fun i y h hi hh=>?_⟩
    ·rw[hl1]
     exact hH5.is rfl
    ·rw[hl1,brsC_app fr _ _ l hs HA1.out]
     exact(hRow1.to rfl).turn hT5 (by omega)
    ·by_cases hik:i<l.length
     ·rw[List.getElem?_append_left hik]at hi
      rw[List.getElem?_append_left (by rw[HA1.out];exact hik)]at hh;exact((HA4.out i y h hi hh).turn hT1 (by omega)).turn hT5 (by omega)
     ·have hie:i=l.length:=by
       have:=(List.getElem?_eq_some_iff.1 hi).1;rw[hl1]at this;have:=HN.out;omega
      subst hie;rw[List.getElem?_append_right (Nat.le_refl _),Nat.sub_self]at hi;rw[List.getElem?_append_right (by rw[HA1.out];exact Nat.le_refl _),HA1.out,Nat.sub_self]at hh;cases hi
      cases hh
      exact hsp1.turn hT5 (by omega))
   have c3:=hH5.cell (i:=3) rfl;clear hT5 hH5 hT1 hH1 hRow1 hsp1 hR4 hRowC hRowOwn hR;have hlt':=Hlt.out;go_wp2_with fail;go_ret2
   exact⟨_,rfl,T1,HT5.out,.inr ⟨hlt',rfl,HTr.out,HS5.out⟩⟩
end
theorem exec_store_st{P:Program}{w:World}{b:Nat}{vs us:List Value}{n:Nat}(ty:TypeId){T:Tg}{t:Nat}(h:Has w T t b vs)(hl:us.length=n)(hv:vs.length=n)(hi:(P.info? ty).map (·.size)=some n)(h1:∀ u∈us,u.oneCell'=true) :
  ∃ W2,Has W2 T t b us∧w.grownBy W2 (some b)∧∀(o:Oper) (a:Act) (x y:Operand),o.op = .store ty x y→a.eval x = .pointer (some ⟨b,0,none⟩)→a.eval y = .agg us.toArray→(execOp a.eval o).run P w = .ok .skip W2:=by
 obtain⟨ht,e,hb⟩:=h;refine⟨w.setRow b us.toArray,⟨ht,e,setRow_heap w b _ _ _ _ hb⟩,⟨rfl,rfl,rfl,by simp,fun k _ hk=>Go.setRow_other w b k _ (fun e=>hk (by rw[e]))⟩,fun o a x y ho hx hy=>?_⟩;have hst:=run_storeVar_row (P:=P) w b e ty vs.toArray us.toArray hb (by rw[hi];simp[hl]) (by simp[hl,hv]) (by rw[List.all_toArray];exact List.all_eq_true.2 h1);unfold execOp;simp only[ho,hx,hy,Instr.storeAt,Instr.sureAddr,Sem.run_bind,Sem.run_pure,Result.andThen_ok,hst]
section
variable {w w' wr:World} {T T':Tg} {t b sb most last epoch fr ts n free slast:Nat} {l:List Br} {gs:List (Nat×List Int)}
def zB:List Value:=[.int .i64 0,.int .i64 0,.slice none 0 0,.int .i64 0,.int .i64 0]
def good(l:List Br)(press:List (List UInt8))(x:Br):Prop:=x∈l∧0<x.done∧x.done≤press.length∧x.press.take x.done=press.take x.done
def bestC(l:List Br)(fr:Nat)(press:List (List UInt8))(us:List Value)(dn:Nat):Prop:=(us=zB∧dn=0)∨∃ x h,us=brC fr x h∧x.done=dn∧good l press x
theorem bestC.three{press:List (List UInt8)}{us:List Value}{dn:Nat}(h:bestC l fr press us dn):us.length=5∧us[3]?=some (.int .i64 (dn:Nat))∧∀ u∈us,u.oneCell'=true:=by
 rcases h with ⟨rfl,rfl⟩|⟨x,a,rfl,rfl,_⟩
 ·exact⟨rfl,rfl,by simp[zB,Value.oneCell']⟩
 ·exact⟨rfl,rfl,by simp[brC,Value.oneCell']⟩
def tgB(g g':Nat):Tg:=fun k=>if k=g then 1 else if k=g' then 2 else 0
theorem Ext.of_one{w2:World}{g g':Nat}(e:Ext w w2)(h:Turn (· = 1) w2 (tgB g g') wr (tgB g g'))(hg:w.heap.size≤g):Ext w wr :=
 ⟨h.os.trans e.os,h.tape.trans e.tape,h.output.trans e.output,Nat.le_trans e.size h.size,fun k hk=>(h.block k (Nat.lt_of_lt_of_le hk e.size) (by unfold tgB;rw[if_neg (by omega)];split<;>decide)).trans (e.block k hk)⟩
theorem Ext.of_two{w2:World}{g g':Nat}(e:Ext w w2)(h:oR (· = 2) (tgB g g') w2 wr)(hg:w.heap.size≤g'):Ext w wr :=
 ⟨h.os.trans e.os,h.tape.trans e.tape,h.output.trans e.output,Nat.le_trans e.size h.size,fun k hk=>(h.block k (Nat.lt_of_lt_of_le hk e.size) (by unfold tgB;split;decide;rw[if_neg (by omega)];decide)).trans (e.block k hk)⟩
end
def putG(gs:List (Nat×List Int))(x:Nat)(g:List Int):List (Nat×List Int):=gs.map fun q=>(q.1,if q.1=x then g else q.2)
theorem putG_ids(gs:List (Nat×List Int))(x:Nat)(g:List Int):(putG gs x g).map Prod.fst=gs.map Prod.fst:=by
 unfold putG;rw[List.map_map];rfl
theorem eq_of_fst:∀ {gs:List (Nat×List Int)},(gs.map Prod.fst).Nodup→∀ {p q},p∈gs→q∈gs→p.1=q.1→p=q
 | [],_,p,q,hp,_,_=>by simp at hp
 | a::l,hn,p,q,hp,hq,e=>by
  rw[List.map_cons,List.nodup_cons]at hn;rcases List.mem_cons.1 hp with h1|h1
  ·rcases List.mem_cons.1 hq with h2|h2
   ·rw[h1,h2]
   ·exact absurd (List.mem_map.2 ⟨q,h2,by rw[← e,h1]⟩) hn.1
  ·rcases List.mem_cons.1 hq with h2|h2
   ·exact absurd (List.mem_map.2 ⟨p,h1,by rw[e,h2]⟩) hn.1
   ·exact eq_of_fst hn.2 h1 h2 e
theorem putG_same{gs:List (Nat×List Int)}{x:Nat}{g:List Int}(hn:(gs.map Prod.fst).Nodup)(h:(x,g)∈gs):putG gs x g=gs:=by
 unfold putG;rw[List.map_congr_left (g:=id),List.map_id];intro q hq;by_cases e:q.1=x
 ·have:q=(x,g):=eq_of_fst hn hq h e
  subst this;rw[if_pos rfl];rfl
 ·rw[if_neg e]
  rfl
theorem putG_mem{gs:List (Nat×List Int)}{x:Nat}{g:List Int}(h:x∈gs.map Prod.fst):(x,g)∈putG gs x g:=by
 obtain⟨q,hq,rfl⟩:=List.mem_map.1 h;exact List.mem_map.2 ⟨q,hq,by rw[if_pos rfl]⟩
theorem setG_putG(gs:List (Nat×List Int))(x:Nat)(g:List Int)(i:Nat)(y:Int):setG (putG gs x g) x i y=putG gs x (g.set i y):=by
 unfold setG putG;rw[List.map_map];apply List.map_congr_left;intro q _;simp only[Function.comp];by_cases e:q.1=x
 ·rw[if_pos e,if_pos e,if_pos e]
 ·rw[if_neg e,if_neg e,if_neg e]
theorem delG_putG(gs:List (Nat×List Int))(x:Nat)(g:List Int):delG (putG gs x g) x=delG gs x:=by
 unfold delG putG;rw[List.filter_map];have:(gs.filter ((fun q:Nat×List Int=>q.1 != x) ∘ fun q=>(q.1,if q.1=x then g else q.2)))=gs.filter fun q=>q.1 != x:=List.filter_congr fun q _=>rfl;rw[this];conv=>rhs;rw[← List.map_id (gs.filter fun q=>q.1 != x)]
 apply List.map_congr_left;intro q hq;have hne:q.1≠x:=by simpa using (List.mem_filter.1 hq).2
 rw[if_neg hne];rfl
structure Wk where
 busy:Bool
 id:Int
 ep:Int
 x:Nat
 done:Nat
 played:Bool
def wkC(tp:List UInt8)(A:Option Addr)(n d tb jb sb:Nat)(k:Wk):List Value:=[.string (bs tp),.slice A n d,ptrV tb,ptrV jb,ptrV sb,.bool k.busy,.int .i64 k.id,.int .i64 k.ep,.int .i64 (k.x:Nat),.int .i64 (k.done:Nat),.bool k.played]
section
variable {w w':World} {T T':Tg} {t b n free last x:Nat} {gs:List (Nat×List Int)} {g:List Int}
theorem StoreAt.blocks(h:StoreAt w T t b n free last gs)(hs:w.heap.size≤w'.heap.size)(hb:∀ k,k<w.heap.size→In t 5 (T k)→w'.heap[k]?=w.heap[k]?):StoreAt w' T t b n free last gs:=by
 obtain⟨rb,g,mb,rf,vs,ps,h,h2⟩:=h;refine⟨rb,g,mb,rf,vs,ps,?_,h2⟩;obtain⟨D,h1,h2⟩:=h.map_;have key:∀ {k j:Nat},k<w.heap.size→T k=j→In t 5 j→w'.heap[k]?=w.heap[k]?:=fun hk e hj=>hb _ hk (by rw[e];exact hj);have hd:=h.hd.of_block (key h.hd.lt h.hd.1 (by unfold In;omega)) rfl;exact⟨hd,h.tm,h.tr,h.tg,⟨D,ownsMap_block h1 (key h1.lt h.tm (by unfold In;omega)),h2⟩,h.room.of_blocks (key h.room.ltb h.tr (by unfold In;omega)) (key h.room.lt h.tg (by unfold In;omega)) hs,fun p hp=>(h.pics p hp).of_block (key (h.pics p hp).lt (h.pics p hp).1 (by unfold In;omega)) rfl⟩
def picRep(T:Tg)(ts sb n last x cb:Nat)(gs:List (Nat×List Int))(w:World)(g:List Int)(d:Bool):Prop :=
 Unborn w T∧Has w T 0 cb [ptrV sb,.int .i64 (x:Nat),.bool d]∧g.length=32∧∃ free,StoreAt w T ts sb n free last (putG gs x g)
def picF(T:Tg)(ts cb k:Nat):Prop:=In ts 5 (T k)∨k=cb
theorem pget_is{ts sb cb:Nat}{d:Bool}(h:picRep T ts sb n last x cb gs w g d)(hx:x∈gs.map Prod.fst)(hl:last<4611686018427387903)(i:Int)(h0:0≤i)(h1:i≤31) :
  Calls prog 337 #[.pointer (some ⟨cb,0,none⟩),.int .i64 i] w fun e w'=>e = .returned (.int .i32 (getN g i))∧Ext w w':=by
 obtain⟨hu,hc,hg,free,hs⟩:=h;have HG:=hqd fun W (e:Ext w W)=>at_get (hs.ext e) (putG_mem hx) hl (i:=i.toNat) (by omega);have c0:=hc.cell (i:=0) rfl;have c1:=hc.cell (i:=1) rfl;unfold ptrV getN at *;rw[Int.toNat_of_nonneg h0]at HG;generalize g.getD i.toNat 0=v at *;clear hc hs;go_enter func337,ntmps337;go_wp2_with fail;apply wrA trivial;repeat apply lxA (fun _ h _=>aj (h.cell c0) (h.cell c1))
 apply lxC (fun W hR=>HG.out W hR);repeat apply lxA (fun _ h _=>h.cell c0)
 refine lex_nil ?_;intro Wx hWx hΦ;clear hΦ;go_wp2_with fail;go_ret;exact⟨rfl,hWx⟩
theorem pset_is{ts sb cb:Nat}{d:Bool}(h:picRep T ts sb n last x cb gs w g d)(hts:0<ts)(hx:x∈gs.map Prod.fst)(hl:last<4611686018427387903)(hn:gs.length≤1000)(i:Int)(h0:0≤i)(h1:i≤31)(y:Int) :
  Calls prog 338 #[.pointer (some ⟨cb,0,none⟩),.int .i64 i,.int .i32 y] w fun e w'=>e = .returned (.tuple #[])∧Moved (picF T ts cb) w w'∧∃ g' d',picRep T ts sb n last x cb gs w' g' d'∧(g'=g∨g'=setN g i y)∧(d'=false→d=false∧g'=setN g i y):=by
 have Hrep:=hqd h;obtain⟨hu,hc,hg,free,hs⟩:=h;have c0:=hc.cell (i:=0) rfl;have c1:=hc.cell (i:=1) rfl;have c2:=hc.cell (i:=2) rfl;have f2:=hc.free 2;unfold ptrV at *;cases d with
 | true =>
  have HC:=hqd hc;clear hs hc;go_enter func338,ntmps338;go_wp2_with fail;apply wrN 21;simp only[tk];repeat first|apply lxA (fun _ h _=>h.cell c2)|apply lxK trivial
  refine lex_nil ?_;intro Wx hWx hΦ;clear hΦ;simp only[dk];have f2:=(HC.out.ext hWx).free 2;have c2:=hWx.cell c2;obtain⟨hT,hH⟩:=(HC.out.ext hWx).put (S:=(· = 0)) (hu.ext hWx) 2 (.bool true) rfl;obtain⟨_,_,_,free',hs'⟩:=Hrep.out;have hend:Moved (picF T ts cb) w (Wx.setCell ⟨cb,2,none⟩ (.bool true))∧∃ g' d',picRep T ts sb n last x cb gs (Wx.setCell ⟨cb,2,none⟩ (.bool true)) g' d'∧(g'=g∨g'=setN g i y)∧(d'=false→true=false∧g'=setN g i y) :=
   ⟨(Moved.of_ext _ hWx).trans (Moved.set _ _ _ _ (.inr rfl)),g,true,⟨hT.unborn,hH,hg,free',(hs'.ext hWx).turn hT (fun k hk=>by unfold In at hk;omega)⟩,.inl rfl,fun h=>absurd h (by decide)⟩
  have Hend:=hqd hend;clear hend hT hH hs';go_wp2_with fail;go_end0
  exact⟨rfl,Hend.out⟩
 | false =>
  obtain⟨r,hS⟩:=at_set hs (by rw[putG_ids];exact hx) hu hts hl (by unfold putG;rw[List.length_map];exact hn) (i:=i.toNat) (by omega) y;rw[Int.toNat_of_nonneg h0]at hS;have HC:=hqd hc;have hn0:¬ In ts 5 (T cb):=by rw[hc.1];unfold In;omega
  have hSet:∀ W,Ext w W→Calls prog 335 #[ptrV sb,.int .i64 (x:Nat),.int .i64 i,.int .i32 y] W (Gives (In ts 5) W T fun v w' T'=>v = .bool r∧T'=T∧∃ free',StoreAt w' T ts sb n free' last (if r=true then setG (putG gs x g) x i.toNat y else putG gs x g)):=fun W e=>by
   refine(hS W e).mono ?_;rintro e w' ⟨free',rfl,h1,h2⟩;exact⟨_,rfl,T,h1,rfl,rfl,free',h2⟩
  have hgP:Grow (fun v w' T'=>v = .bool r∧T'=T∧∃ free',StoreAt w' T ts sb n free' last (if r=true then setG (putG gs x g) x i.toNat y else putG gs x g)):=by
   rintro v w T' w' ⟨h1,h2,f,h3⟩ e;exact⟨h1,h2,f,h3.ext e⟩
  have HSet:=hqd hSet;unfold ptrV at HSet;clear hs hc hSet hS;go_enter func338,ntmps338;go_wp2_with fail;apply wrH 21 (oR (In ts 5) T) (oRs 16 (In ts 5) T) (oJ 16 _) (oJ.start _ _);simp only[tk];repeat apply lxG (fun _ h _ _=>aj (h.cell c0 hn0) (aj (h.cell c1 hn0) (h.cell c2 hn0)))
  apply lexG_call (p:=oP _ _ _ _) (by decide) (by decide) (oP.stab hgP _)
  ·rfl
  ·intro W
   go_simp;exact⟨rfl,rfl⟩
  ·intro W hR hJ hΦ
   exact one_call hu (hJ rfl) ((HSet.out) W (hJ rfl))
  intro v16;simp only[pu];repeat apply lxG (fun _ _ _ hΦ=>oP_val (hΦ.1 rfl))
  refine lexG_nil ?_;intro Wx hR hap hΦ;obtain⟨T1,hT1,rfl,hTe,free',hs'⟩:=hΦ.1 rfl;clear hΦ hap;rw[hTe]at hT1;simp only[dk];have hc2:=HC.out.turn hT1 (by unfold In;omega);have f2:=hc2.free 2;have c2:=hc2.cell (i:=2) rfl;obtain⟨hT,hH⟩:=hc2.put (S:=(· = 0)) hT1.unborn 2 (.bool (!r)) rfl;have hsZ:=hs'.turn hT (fun k hk=>by unfold In at hk;omega);have hmv:Moved (picF T ts cb) w (Wx.setCell ⟨cb,2,none⟩ (.bool (!r))):=Moved.trans (Moved.mono (Moved.of_turn hT1) fun k hk h=>.inl h) (Moved.set _ _ _ _ (.inr rfl));have hH:=hH.is (show _=[Value.pointer (some ⟨sb,0,none⟩),.int .i64 (x:Nat),.bool (!r)] from rfl);have hend:∃ g' d',picRep T ts sb n last x cb gs (Wx.setCell ⟨cb,2,none⟩ (.bool (!r))) g' d'∧(g'=g∨g'=setN g i y)∧(d'=false→g'=setN g i y):=by
   cases r with
   | true =>
    rw[if_pos rfl,setG_putG]at hsZ;exact⟨_,_,⟨hT.unborn,hH,by rw[List.length_set];exact hg,free',hsZ⟩,.inr rfl,fun _=>rfl⟩
   | false =>
    rw[if_neg (by decide)]at hsZ;exact⟨_,_,⟨hT.unborn,hH,hg,free',hsZ⟩,.inl rfl,fun h=>absurd h (by decide)⟩
  have Hend:=hqd hend;have Hmv:=hqd hmv;clear hend hmv hT hH hsZ hs' hc2;go_wp2_with fail;go_end0
  obtain⟨g',d',q1,q2,q3⟩:=Hend.out;exact⟨rfl,Hmv.out,g',d',q1,q2,fun h=>⟨trivial,q3 h⟩⟩
theorem memI_pic{ts sb cb:Nat}(hts:0<ts)(hx:x∈gs.map Prod.fst)(hl:last<4611686018427387903)(hn:gs.length≤1000):MemI 170 cb (picF T ts cb) (picRep T ts sb n last x cb gs) 337 338:={
 gm:=fun f w=>by kernel_rfl
 sm:=fun f w=>by kernel_rfl
 ge:=fun x w=>by kernel_rfl
 se:=fun x y w=>by kernel_rfl
 gc:=fun w g d i h h0 h1=>pget_is h hx hl i h0 h1
 sc:=fun w g d i v h ho hv h0 h1=>(pset_is h hts hx hl hn i h0 h1 v).mono fun _ _ ⟨h2,h3,g',d',h4,h5,h6⟩=>⟨h2,h3,g',d',h4,by rcases h5 with rfl|rfl;exact ho;exact setN_ok ho i hv,h6⟩
 keep:=fun w w' g d h hs hk=>by
  obtain⟨h1,h2,h3,free,h4⟩:=h;exact⟨fun k hk=>h1 k (Nat.le_trans hs hk),h2.of_block (hk cb (.inr rfl) h2.lt) rfl,h3,free,h4.blocks hs fun k hl h=>hk k (.inl h) hl⟩
 lt:=fun w g d h k hk=>by
  obtain⟨h1,h2,h3,free,h4⟩:=h;rcases hk with hk|rfl
  ·by_cases hl:k<w.heap.size
   ·exact hl
   ·rw[h1 k (by omega)]at hk
    unfold In at hk;omega
  ·exact h2.lt}
end
section
variable {w w':World} {T T':Tg} {ts sb n free last b tw tb jb:Nat} {gs:List (Nat×List Int)} {tp:List UInt8} {A:Option Addr} {an ad:Nat} {k:Wk}
def wk0:Wk:=⟨false,0,0,0,0,false⟩
theorem wk_new(w:World)(T:Tg)(hu:Unborn w T)(tw:Nat)(tp:List UInt8)(A:Option Addr)(an ad tb jb sb:Nat):Calls prog 141 #[pAgg tp A an ad,ptrV tb,ptrV jb,ptrV sb] w (Gives (fun _=>False) w T fun v w' T'=>∃ b,v=ptrV b∧Has w' T' tw b (wkC tp A an ad tb jb sb wk0)):=by
 have x1:=Ext.alloc w (.cells #[.string (bs tp),.slice A an ad] 65);obtain⟨hT0,hH0⟩:=Has.fresh (hu.ext x1) (wkC tp A an ad tb jb sb wk0) 134 tw;rw[show(w.alloc (.cells #[.string (bs tp),.slice A an ad] 65)).heap.size=w.heap.size+1 by simp]at hT0 hH0;have HT0:=hqd ((Turn.of_ext (fun _=>False) hu x1).trans hT0);have HH0:=hqd hH0;unfold ptrV pAgg wkC wk0 ptrV at *;clear hT0 hH0;go_enter func141,ntmps141;go_wp2_with fail;go_ret;exact⟨_,rfl,_,HT0.out,_,rfl,HH0.out⟩
theorem wk_busy(h:Has w T tw b (wkC tp A an ad tb jb sb k)):Calls prog 76 #[ptrV b] w fun e w'=>e = .returned (.bool k.busy)∧w'=w:=by
 have c5:=h.cell (i:=5) rfl;unfold ptrV;clear h;go_enter func76,ntmps76;go_wp2_with fail;go_ret;exact⟨rfl,rfl⟩
def RestP(T:Tg)(ts sb n free last b tw tb jb:Nat)(gs:List (Nat×List Int))(tp:List UInt8)(A:Option Addr)(an ad:Nat)(k:Wk)(v:Value)(w':World)(T':Tg):Prop :=
 (∃ r,v = .bool r)∧T'=T∧Has w' T tw b (wkC tp A an ad tb jb sb {k with busy:=false})∧∃ free',free≤free'∧StoreAt w' T ts sb n free' last (if k.busy=true then delG gs k.x else gs)
theorem wk_rest(h:Has w T tw b (wkC tp A an ad tb jb sb k))(hS:StoreAt w T ts sb n free last gs)(hu:Unborn w T)(hts:0<ts)(htw:¬ In ts 5 tw)(hl:last<4611686018427387903)(hn:gs.length≤1000)(hx:k.busy=true→k.x∈gs.map Prod.fst) :
  Calls prog 49 #[ptrV b] w (Gives (fun j=>j=tw∨In ts 5 j) w T (RestP T ts sb n free last b tw tb jb gs tp A an ad k)):=by
 have HB:=hqd fun W (e:Ext w W)=>wk_busy (h.ext e);cases hb:k.busy with
 | false =>
  rw[hb]at HB;have Hst:=hqd (show RestP T ts sb n free last b tw tb jb gs tp A an ad k (.bool false) w T from⟨⟨_,rfl⟩,rfl,by rw[← hb];exact h,free,Nat.le_refl _,by rw[hb,if_neg (by decide)];exact hS⟩);clear h hS hx hb;unfold ptrV at *;go_enter func49,ntmps49;go_wp2_with fail;refine(HB.out w (Ext.refl _)).mono ?_;rintro e w1 ⟨rfl,hw⟩;subst hw;go_wp2_with fail;go_ret;exact⟨_,rfl,T,Turn.refl _ hu,Hst.out⟩
 | true =>
  rw[hb]at HB;have HD:=hqd fun W (e:Ext w W)=>at_drop (hS.ext e) (hx hb) (hu.ext e) hts hl hn;have c4:=h.cell (i:=4) rfl;have c8:=h.cell (i:=8) rfl;have HH:=hqd h;have Hb:=hqd hb;clear h hS hx hb;obtain⟨kb,ki,ke,kx,kd,kp⟩:=k;unfold ptrV at *;dsimp only at *
  go_enter func49,ntmps49;go_wp2_with fail;refine(HB.out w (Ext.refl _)).mono ?_;rintro e w1 ⟨rfl,hw⟩;subst hw;go_wp2_with fail;apply wrN 8;simp only[tk];repeat apply lxA (fun _ h _=>aj (h.cell c4) (h.cell c8))
  refine lex_nil ?_;intro Wx hWx hΦ;clear hΦ;simp only[dk];go_wp2_with fail;refine(HD.out Wx hWx).mono ?_;rintro e w3 ⟨rfl,hT3,free3,hf3,hS3⟩;have hH3:=(HH.out.ext hWx).turn hT3 htw;have c5:=hH3.cell (i:=5) rfl;have f5:=hH3.free 5;obtain⟨hT4,hH4⟩:=hH3.put (S:=(· = tw)) hT3.unborn 5 (.bool false) rfl;have HT:=hqd (((Turn.of_ext (fun j=>j=tw∨In ts 5 j) hu hWx).trans (hT3.mono fun j hj=>.inr hj)).trans (hT4.mono fun j hj=>.inl hj));have Hst:=hqd (show RestP T ts sb n free last b tw tb jb gs tp A an ad ⟨kb,ki,ke,kx,kd,kp⟩ (.bool true) (w3.setCell ⟨b,5,none⟩ (.bool false)) T from⟨⟨_,rfl⟩,rfl,hH4,free3,hf3,by rw[if_pos Hb.out];exact hS3.turn hT4 (fun j hj e=>htw (e▸hj))⟩);clear hH3 hT3 hT4 hH4 hS3;go_wp2_with fail;go_ret;exact⟨_,rfl,T,HT.out,Hst.out⟩
end
section
variable {w w':World} {T T':Tg} {ts sb n free last b tw tb jb tj ot fr:Nat} {gs:List (Nat×List Int)} {tp:List UInt8} {ops:List OpT} {A:Option Addr} {an ad:Nat} {k:Wk}
theorem Sp.at_{n c:Nat}{ps:List (List UInt8)}(h:Sp w T A n c ps){k:Nat}(hk:k<ps.length):∃ b o Ai ni ci,A=some ⟨b,o,none⟩∧w.cell? ⟨b,o+k,none⟩=some (.slice Ai ni ci)∧Rb w Ai ni ci ps[k]∧(0<ni→∀ q,blk Ai=some q→T q=0):=by
 have hl:=h.len;obtain⟨hs,q1,q2,q3,q4⟩:=h;have hh:=List.getElem?_eq_getElem (show k<hs.length by omega);obtain⟨q5,q6⟩:=q4 k _ _ hh (List.getElem?_eq_getElem hk);obtain⟨g5,o5,rfl,hcell⟩:=q1.2.2.2 (by omega);exact⟨g5,o5,hs[k].1,hs[k].2.1,hs[k].2.2,rfl,hcell k _ (by rw[List.getElem?_map,hh];rfl),q5,fun h0=>q6 (by rw[← q5.len];exact h0)⟩
def PlayP(ts sb n last b tw tb tj jb:Nat)(gs:List (Nat×List Int))(tp:List UInt8)(A:Option Addr)(an ad:Nat)(k:Wk)(g':List Int)(v:Value)(w':World)(T':Tg):Prop :=
 v = .tuple #[]∧JobsAt w' T' tj jb∧∃ free',(Has w' T' tw b (wkC tp A an ad tb jb sb {k with played:=true})∧StoreAt w' T' ts sb n free' last (putG gs k.x g')) ∨
  (Has w' T' tw b (wkC tp A an ad tb jb sb {k with busy:=false})∧StoreAt w' T' ts sb n free' last (delG gs k.x))
theorem turn_run{cb:Nat}{W:World}(e:Ext w W)(hu:Unborn w T)(hc:w.heap.size≤cb)(hu':Unborn w' T)(h:Moved (picF T ts cb) W w'):Turn (In ts 5) w T w' T :=
 ⟨h.os.trans e.os,h.tape.trans e.tape,h.output.trans e.output,Nat.le_trans e.size h.size,fun k hk hn=>(h.block k (Nat.lt_of_lt_of_le hk e.size) (fun hF=>by
  rcases hF with hF|hF
  ·exact hn hF
  ·omega)).trans (e.block k hk),fun _ _=>rfl,hu'⟩
theorem wk_play(h:Has w T tw b (wkC tp A an ad tb jb sb k))(hS:StoreAt w T ts sb n free last gs)(hJ:JobsAt w T tj jb)(hR:Row w T ot 127 4 A an ad (opcs ops))(hu:Unborn w T)(hts:0<ts)(htw:¬ In ts 5 tw)(htj:0<tj)(htj1:¬ In ts 5 tj∧¬ In ts 5 (tj+1)∧tw≠tj∧tw≠tj+1∧tw≠0)(hto:¬ In ts 5 ot)
  (htp:tp.length≤1099511627776) (hl:last<4611686018427387903) (hn:gs.length≤1000) {g:List Int} (hx:(k.x,g)∈gs) (hg:okG g) (hb:k.busy=true) {x:Br} {B:Option Addr} {d:Nat} (hp:Sp w T B x.press.length d x.press) (hdn:k.done<x.press.length) (hfr:fr≤1000000) (hpl:x.press.length≤1000000) :
  Calls prog 50 #[ptrV b,brV fr x (B,d)] w (Gives (fun j=>j=tw∨In ts 5 j∨In tj 2 j) w T (PlayP ts sb n last b tw tb tj jb gs tp A an ad k (stepN tp x.press[k.done] ((fr:Int)+(k.done:Nat)) ops g).1)):=by
 obtain⟨pb,po,Ai,ni,ci,hB,hc7,hr7,hc7t⟩:=hp.at_ hdn;have c0:=h.cell (i:=0) rfl;have c1:=h.cell (i:=1) rfl;have c2:=h.cell (i:=2) rfl;have c3:=h.cell (i:=3) rfl;have c4:=h.cell (i:=4) rfl;have c8:=h.cell (i:=8) rfl;have c9:=h.cell (i:=9) rfl;have hw1:IntKind.i64.wrap ((fr:Int)+(k.done:Nat))=(fr:Int)+(k.done:Nat):=IntWalk.i64_in _ (by omega);have hmx:=hp.rp.max;have hA9:=hR.2;have hRl:=hR.rd;have hBr:=hp.rp.len;have Hrun:=hqd fun W cb (hM:MemI 170 cb (picF T ts cb) (picRep T ts sb n last k.x cb gs) 337 338) (e:Ext w W) (hcb:w.heap.size≤cb) (hc:Has W T 0 cb [ptrV sb,.int .i64 (k.x:Nat),.bool false]) =>
  run_any W cb 170 tp A an ad ops ((fr:Int)+(k.done:Nat)) Ai ni ci x.press[k.done] g hM htp (hR.rd.ext e) (hr7.ext e) (d:=false) ⟨hu.ext e,hc,hg.1,free,by rw[putG_same hS.ids.1 hx];exact hS.ext e⟩ hg
   (fun h0 a ha hF=>by
    have ht:=hR.2 a.block (by rw[ha];rfl);have hlt:=hR.lt (by rw[ha];rfl:blk A=some a.block);rcases hF with hF|hF
    ·rw[ht]at hF;exact hto hF
    ·omega)
   (fun h0 a ha hF=>by
    have ht:=hc7t h0 a.block (by rw[ha];rfl);have hlt:=Rd.lt' hr7 (by omega) (by rw[ha];rfl:blk Ai=some a.block);rcases hF with hF|hF
    ·rw[ht]at hF;unfold In at hF;omega
    ·omega) rfl
 have HX:=hqd hx;have HRest:=hqd fun W2 g' free' (hT:Turn (In ts 5) w T W2 T) (hs:StoreAt W2 T ts sb n free' last (putG gs k.x g'))=>wk_rest (h.turn hT htw) hs hT.unborn hts htw hl (by unfold putG;rw[List.length_map];exact hn) (fun _=>by rw[putG_ids];exact List.mem_map.2 ⟨_,hx,rfl⟩);have HH:=hqd h;have HJ:=hqd hJ;have HM:=hqd fun cb=>memI_pic (T:=T) (sb:=sb) (n:=n) (cb:=cb) hts (List.mem_map.2 ⟨_,hx,rfl⟩:k.x∈gs.map Prod.fst) hl hn;have hbw:b<w.heap.size:=h.lt;have hpbw:pb<w.heap.size:=World.block_lt_of_cell? w _ hc7;generalize x.press[k.done]=pk at *;generalize hXX:(stepN tp pk ((fr:Int)+(k.done:Nat)) ops g).1=X at *;have hxp:(brV fr x (B,d)) = .agg #[.int .i64 (x.id:Nat),.int .i64 (fr:Nat),.slice B x.press.length d,.int .i64 (x.done:Nat),.int .i64 (x.pic:Nat)]:=rfl;rw[hxp,hB];have hpn:decide (k.done<x.press.length)=true:=decide_eq_true hdn;have hpn':(k.done<x.press.length)=True:=eq_true hdn;subst hB;clear hx hr7 hc7t hR hS h hJ hp hA9 hRl hxp hXX;obtain⟨kb,ki,ke,kx,kd,kp⟩:=k;dsimp only at *
 subst hb;generalize x.press.length=pl at *;generalize x.id=i1 at *;generalize x.done=i3 at *;generalize x.pic=i4 at *;unfold ptrV at *;go_enter func50,ntmps50;go_upto_region 1 with fail
 have b9:=Has.new w (fun _=>0) [.int .i64 (i1:Nat),.int .i64 (fr:Nat),.slice (some ⟨pb,po,none⟩) pl d,.int .i64 (i3:Nat),.int .i64 (i4:Nat)] 136 rfl;have x1:=Ext.alloc w (.cells #[.int .i64 (i1:Nat),.int .i64 (fr:Nat),.slice (some ⟨pb,po,none⟩) pl d,.int .i64 (i3:Nat),.int .i64 (i4:Nat)] 136);generalize hW:World.alloc w _=W1 at *;obtain⟨gv,hgv⟩:∃ gv,gv=w.heap.size:=⟨_,rfl⟩;rw[← hgv]at b9 ⊢;clear hW hgv;have j1:=b9.cell (i:=1) rfl;have j2:=b9.cell (i:=2) rfl;clear b9;have c0:=x1.cell c0;have c1:=x1.cell c1;have c2:=x1.cell c2;have c3:=x1.cell c3;have c4:=x1.cell c4;have c8:=x1.cell c8;have c9:=x1.cell c9;have hc7:=x1.cell hc7;apply wrN 9;simp only[tk];repeat apply lxA (fun _ h _=>aj (h.cell c4) (h.cell c8))
 refine lex_nil ?_;intro Wx hWx hΦ;clear hΦ;simp only[dk];go_upto_region 2 with fail
 have d1:=Has.new Wx T [.pointer (some ⟨sb,0,none⟩),.int .i64 (kx:Nat),.bool false] 172 rfl;have d1:Has (Wx.alloc (.cells #[.pointer (some ⟨sb,0,none⟩),.int .i64 (kx:Nat),.bool false] 172)) T 0 Wx.heap.size [.pointer (some ⟨sb,0,none⟩),.int .i64 (kx:Nat),.bool false]:=⟨hu (Wx.heap.size) (x1.trans hWx).size,d1.2⟩;have x2:=(x1.trans hWx).trans (Ext.alloc Wx (.cells #[.pointer (some ⟨sb,0,none⟩),.int .i64 (kx:Nat),.bool false] 172));have x3:=hWx.trans (Ext.alloc Wx (.cells #[.pointer (some ⟨sb,0,none⟩),.int .i64 (kx:Nat),.bool false] 172));have hcbw:=(x1.trans hWx).size;generalize hW:World.alloc Wx _=W2 at *;obtain⟨cb,hcb⟩:∃ cb,cb=Wx.heap.size:=⟨_,rfl⟩;rw[← hcb]at d1 hcbw ⊢;clear hW hcb;have c0:=x3.cell c0;have c1:=x3.cell c1;have c9:=x3.cell c9;have hc7:=x3.cell hc7;have j1:=x3.cell j1;have j2:=x3.cell j2;have D1:=hqd d1;clear d1;apply wrN 21;simp only[tk];repeat apply lxA (fun _ h _=>aj (h.cell c0) (aj (h.cell c1) (aj (h.cell c9) (aj (h.cell hc7) (aj (h.cell j1) (h.cell j2))))))
 refine lex_nil ?_;intro Wx hWx hΦ;clear hΦ;simp only[dk];clear c0 c1 c2 c3 c4 c8 c9 hc7 j1 j2;go_wp2_with fail;refine(Hrun.out Wx cb (HM.out cb) (x2.trans hWx) hcbw (D1.out.ext hWx)).mono ?_;rintro e w3 ⟨⟨rn,rfl⟩,⟨g',d',hrep,hok',hX⟩,hmv⟩;have hT3:=turn_run (x2.trans hWx) hu hcbw hrep.1 hmv;obtain⟨hu3,hc3,hl3,free3,hS3⟩:=hrep;have d2:=hc3.cell (i:=2) rfl;have hH3:=HH.out.turn hT3 htw;have hJ3:=HJ.out.turn hT3 htj1.1 htj1.2.1;have HR3:=hqd (HRest.out w3 g' free3 hT3 hS3);have HS3:=hqd hS3;have HT3:=hqd hT3;have HH3:=hqd hH3;have HJ3:=hqd hJ3;have HX:=hqd hX;clear hc3 hX hS3 hT3 hH3 hJ3 hmv hWx;cases d' with
 | true =>
  go_wp2_with fail;refine HR3.out.mono ?_;rintro e w4 ⟨v,rfl,T4,hT4,⟨r,rfl⟩,hTe,hH4,free4,hf4,hS4⟩;rw[hTe]at hT4;rw[if_pos rfl,delG_putG]at hS4;rw[← hTe]at hH4;have hHH4:Has w4 T tw b _:=hTe▸hH4;have hJ4:=HJ3.out.turn hT4 (by have:=htj1;rintro (h|h);omega;exact this.1 h) (by have:=htj1;rintro (h|h);omega;exact this.2.1 h);have c3:=hHH4.cell (i:=3) rfl;have c6:=hHH4.cell (i:=6) rfl;have c7:=hHH4.cell (i:=7) rfl;have HP:=hqd fun W (e:Ext w4 W)=>job_put (hJ4.ext e) (hT4.unborn.ext e) htj ki ke;have HH4:=hqd hHH4;have HT4:=hqd ((HT3.out.mono fun j (hj:In ts 5 j)=>(.inr (.inl hj):j=tw∨In ts 5 j∨In tj 2 j)).trans (hT4.mono fun j hj=>by rcases hj with hj|hj;exact .inl hj;exact .inr (.inl hj)));have HS4:=hqd hS4;unfold ptrV at *;clear hT4 hH4 hHH4 hS4 hJ4 hTe;go_wp2_with fail;apply wrN 8;simp only[tk];repeat apply lxA (fun _ h _=>aj (h.cell c3) (aj (h.cell c6) (h.cell c7)))
  refine lex_nil ?_;intro Wx hWx hΦ;clear hΦ;simp only[dk];go_wp2_with fail;refine(HP.out Wx hWx).mono ?_;rintro e w5 ⟨v,rfl,T5,hT5,⟨r5,rfl⟩,hJ5⟩;have hH5:=(HH4.out.ext hWx).turn hT5 (by have:=htj1;unfold In;omega);have hS5:=(HS4.out.ext hWx).turn hT5 (fun j hj h=>by have:=htj1;unfold In at *;omega);have hT:=(HT4.out.ext hWx).trans (hT5.mono fun j hj=>.inr (.inr hj));go_wp2_with fail;go_end0
  exact⟨_,rfl,T5,hT,rfl,hJ5,free4,.inr ⟨hH5,hS5⟩⟩
 | false =>
  obtain⟨_,rfl⟩:=HX.out rfl;have c10:=HH3.out.cell (i:=10) rfl;have f10:=HH3.out.free 10;obtain⟨hT4,hH4⟩:=HH3.out.put (S:=(· = tw)) HT3.out.unborn 10 (.bool true) rfl;have hJ4:=HJ3.out.turn hT4 (by have:=htj1;omega) (by have:=htj1;omega);have hS4:=HS3.out.turn hT4 (fun j hj e=>htw (e▸hj));have HT:=hqd ((HT3.out.mono fun j (hj:In ts 5 j)=>(.inr (.inl hj):j=tw∨In ts 5 j∨In tj 2 j)).trans (hT4.mono fun j hj=>.inl hj));have HF:=hqd (show PlayP ts sb n last b tw tb tj jb gs tp A an ad ⟨true,ki,ke,kx,kd,kp⟩ g' (.tuple #[]) (w3.setCell ⟨b,10,none⟩ (.bool true)) T from⟨rfl,hJ4,free3,.inl ⟨hH4,hS4⟩⟩);clear hT4 hH4 hJ4 hS4;go_wp2_with fail;go_end0
  exact⟨_,rfl,T,HT.out,HF.out⟩
end
def five(us:List Value):Prop:=∃ a b A n c d e,us=[.int .i64 a,.int .i64 b,.slice A n c,.int .i64 d,.int .i64 e]
def Shp(ty:TypeId)(g:Nat)(w:World):Prop:=∃ us,five us∧w.heap[g]?=some (.cells us.toArray ty)
def gsRs(K al m:Nat)(ty:TypeId)(i:Nat)(σ:Nat→Value)(w w':World):Prop:=Ext w w'∨(i=K∧∃ g,σ al = .pointer (some ⟨g,0,none⟩)∧m≤g∧w.grownBy w' (some g)∧Shp ty g w∧Shp ty g w')
structure GStab(m:Nat)(ty:TypeId)(G:List Value→World→Prop):Prop where
 five_:∀ us w,G us w→five us
 ext:∀ us w w',G us w→Ext w w'→G us w'
 shp:∀ us w w' g,m≤g→Shp ty g w→w.grownBy w' (some g)→G us w→G us w'
def gsV(i:Nat)(V:List Value→Value)(G:List Value→World→Prop)(σ:Nat→Value)(w:World):Prop:=∃ us,σ i=V us∧G us w
def gsA(m al:Nat)(ty:TypeId)(σ:Nat→Value)(w:World):Prop:=∃ g,σ al = .pointer (some ⟨g,0,none⟩)∧m≤g∧Shp ty g w
def gsS(m al:Nat)(ty:TypeId)(G:List Value→World→Prop)(σ:Nat→Value)(w:World):Prop:=∃ g us,σ al = .pointer (some ⟨g,0,none⟩)∧m≤g∧G us w∧w.heap[g]?=some (.cells us.toArray ty)
section
variable {K al m i:Nat} {ty:TypeId} {G:List Value→World→Prop} {V:List Value→Value} {l:List Oper} {w w' w0:World} {σ:Nat→Value}
theorem Shp.lt{g:Nat}(h:Shp ty g w):g<w.heap.size:=by
 obtain⟨_,_,h⟩:=h;exact(Array.getElem?_eq_some_iff.1 h).1
theorem Shp.ext{g:Nat}(h:Shp ty g w)(e:Ext w w'):Shp ty g w':=by
 have hl:=h.lt;obtain⟨us,h1,h2⟩:=h;exact⟨us,h1,(e.block g hl).trans h2⟩
theorem gsV.keeps(hG:GStab m ty G):Keeps (gsRs K al m ty) 99 99 l i (gsV i V G):=by
 refine⟨fun j σ v w hj _ h=>?_,fun j hj _ σ w w' _ h hR=>?_⟩
 ·obtain⟨us,h1,h2⟩:=h
  exact⟨us,by rw[upd_ne (Ne.symm hj)];exact h1,h2⟩
 ·obtain⟨us,h1,h2⟩:=h
  refine⟨us,h1,?_⟩;rcases hR with e|⟨_,g,_,hm,hg,hs,_⟩
  ·exact hG.ext us w w' h2 e
  ·exact hG.shp us w w' g hm hs hg h2
theorem gsA.keeps:Keeps (gsRs K al m ty) 99 99 l al (gsA m al ty):=by
 refine⟨fun j σ v w hj _ h=>?_,fun j hj _ σ w w' _ h hR=>?_⟩
 ·obtain⟨g,h1,h2,h3⟩:=h
  exact⟨g,by rw[upd_ne (Ne.symm hj)];exact h1,h2,h3⟩
 ·obtain⟨g,h1,h2,h3⟩:=h
  refine⟨g,h1,h2,?_⟩;rcases hR with e|⟨_,g',e',hm,hg,hs,hs'⟩
  ·exact h3.ext e
  ·rw[h1]at e'
   cases e'
   exact hs'
theorem gsS.keeps(hG:GStab m ty G)(hb:bef l K al=true):Keeps (gsRs K al m ty) 99 99 l K (gsS m al ty G):=by
 refine⟨fun j σ v w hj hn h=>?_,fun j hj _ σ w w' _ h hR=>?_⟩
 ·obtain⟨g,us,h1,h2⟩:=h
  refine⟨g,us,?_,h2⟩;rw[upd_ne (fun e=>by rw[← e,hb]at hn;cases hn)]
  exact h1
 ·obtain⟨g,us,h1,h2,h3,h4⟩:=h
  rcases hR with e|⟨e,_⟩
  ·exact⟨g,us,h1,h2,hG.ext us w w' h3 e,(e.block g (Array.getElem?_eq_some_iff.1 h4).1).trans h4⟩
  ·exact absurd e hj
theorem Below.of_ext'{B:Nat}(h:Ext w w')(hB:B≤w.heap.size):Below B w w':=⟨h.os,h.tape,h.output,h.size,fun k hk=>h.block k (Nat.lt_of_lt_of_le hk hB)⟩
theorem Below.to_ext(h:Below w.heap.size w w'):Ext w w':=⟨h.os,h.tape,h.output,h.size,h.block⟩
theorem five.len{us:List Value}(h:five us):us.length=5∧∀ u∈us,u.oneCell'=true:=by
 obtain⟨a,b,A,n,c,d,e,rfl⟩:=h;exact⟨rfl,by simp[Value.oneCell']⟩
theorem gs_store{P:Program}(hG:GStab m ty G)(hi:(P.info? ty).map (·.size)=some 5){g:Nat}{us:List Value}(hm:m≤g)(hs:Shp ty g w)(hg:G us w)(he:σ al = .pointer (some ⟨g,0,none⟩))(hK:al≠K) :
  ∃ W2,(∀(o:Oper) (a:Act) (x y:Operand),o.op = .store ty x y→a.eval x = .pointer (some ⟨g,0,none⟩)→a.eval y = .agg us.toArray→(execOp a.eval o).run P w = .ok .skip W2)∧(m≤w.heap.size→Below m w W2)∧gsRs K al m ty K σ w W2∧gsS m al ty G (upd σ K undef) W2:=by
 obtain⟨vs,h5,hb⟩:=id hs;have hus:=(hG.five_ _ _ hg).len;have hgr:w.grownBy (w.setRow g us.toArray) (some g):=⟨rfl,rfl,rfl,by simp,fun k _ hk=>Go.setRow_other w g k _ (fun e=>hk (by rw[e]))⟩;have hb2:=setRow_heap w g vs.toArray us.toArray ty (0,0) hb;have hst:=run_storeVar_row (P:=P) w g ty ty vs.toArray us.toArray hb (by rw[hi];simp[hus.1]) (by simp[hus.1,h5.len.1]) (by rw[List.all_toArray];exact List.all_eq_true.2 hus.2);refine⟨w.setRow g us.toArray,fun o a x y ho hx hy=>?_,fun _=>⟨hgr.os,hgr.tape,hgr.output,hgr.size,fun k hk=>?_⟩,.inr ⟨rfl,g,he,hm,hgr,hs,us,hG.five_ _ _ hg,hb2⟩,g,us,by rw[upd_ne hK];exact he,hm,hG.shp us w _ g hm hs hgr hg,hb2⟩
 ·unfold execOp
  simp only[ho,hx,hy,Instr.storeAt,Instr.sureAddr,Sem.run_bind,Sem.run_pure,Result.andThen_ok,hst]
 ·by_cases hk2:k<w.heap.size
  ·exact hgr.block k hk2 (fun e=>by cases e;omega)
  ·omega
end
section
variable {ty:TypeId} {w w':World} {m fr n d g:Nat} {ps:List (List UInt8)} {A:Option Addr}
theorem Shp.u8{o:Nat}{x:Int}(hs:Shp ty g w):w.cell? ⟨g,o,none⟩≠some (.int .u8 x):=by
 obtain⟨us,⟨a1,a2,A3,a4,a5,a6,a7,rfl⟩,hb⟩:=hs;rw[cell_of_row _ _ _ _ _ _ hb];intro h;match o,h with
 | 0,h=>cases h
 | 1,h=>cases h
 | 2,h=>cases h
 | 3,h=>cases h
 | 4,h=>cases h
 | _+5,h=>simp at h
theorem Rws.apart{base:Nat}(h:Rws w base A n d ps)(hty:ty≠30)(hs:Shp ty g w)(hg:w.grownBy w' (some g)):Rws w' base A n d ps:=by
 obtain⟨h0,hh,h1,h2,h3⟩:=h;refine⟨Nat.le_trans h0 hg.size,hh,h1.keep hg (fun k hk e=>?_),h2,fun i a p ha hp=>?_⟩
 ·subst e
  obtain⟨us,_,hb⟩:=hs;rcases h1.2 with ⟨e,_⟩|⟨g',cap,cur,e,_,hc,_⟩
  ·cases e
   cases hk
  ·cases e
   cases hk
   rw[hb]at hc;cases hc
   exact hty rfl
 ·obtain⟨⟨h4,h5⟩,h6⟩:=h3 i a p ha hp
  have hl:=h4.len;refine⟨⟨Rd.of_blocks h4 fun hn k hk=>hg.block k (Rd.lt' h4 hn hk) (fun e=>?_),h5⟩,h6⟩;cases Option.some.inj e
  obtain⟨g',o,e',hc⟩:=h4.2.2.2 hn;rw[e']at hk;cases hk
  have hp0:0<p.length:=by omega
  have hb0:(bcs p)[0]?=some (.int .u8 ((p[0].toNat:Nat):Int)):=by
   unfold bcs;rw[List.getElem?_map,List.getElem?_eq_getElem hp0];rfl
  exact hs.u8 (hc 0 _ hb0)
def cpG(fr m:Nat)(x:Br)(us:List Value)(w:World):Prop:=∃ B d,us=brC fr x (B,d)∧Rws w m B x.press.length d x.press
theorem cpG.stab(fr m:Nat)(x:Br):GStab m 136 (cpG fr m x):=by
 refine⟨?_,?_,?_⟩
 ·rintro us w ⟨B,d,rfl,_⟩
  exact⟨_,_,_,_,_,_,_,rfl⟩
 ·rintro us w w' ⟨B,d,h,hr⟩ e
  exact⟨B,d,h,hr.ext e⟩
 ·rintro us w w' g _ hs hg ⟨B,d,h,hr⟩
  exact⟨B,d,h,hr.apart (by decide) hs hg⟩
def noG(us:List Value)(w:World):Prop:=us=zB
theorem noG.stab(m:Nat)(ty:TypeId):GStab m ty noG:=by
 refine⟨?_,fun us w w' h _=>h,fun us w w' g _ _ _ h=>h⟩;rintro us w rfl;exact⟨_,_,_,_,_,_,_,rfl⟩
end
def dnOf:Option Br→Nat
 | none=>0
 | some x=>x.done
def bestBr(l:List Br)(press:List (List UInt8)):Nat→Option Br
 | 0=>none
 | k+1=>match l[k]? with
  | some x=>if dnOf (bestBr l press k)<x.done∧x.done≤press.length∧x.press.take x.done=press.take x.done then some x else bestBr l press k
  | none=>bestBr l press k
theorem bestBr_yes{l:List Br}{press:List (List UInt8)}{k:Nat}{x:Br}(hx:l[k]?=some x)(h:dnOf (bestBr l press k)<x.done∧x.done≤press.length∧x.press.take x.done=press.take x.done):bestBr l press (k+1)=some x:=by
 rw[bestBr,hx];exact if_pos h
theorem bestBr_no{l:List Br}{press:List (List UInt8)}{k:Nat}{x:Br}(hx:l[k]?=some x)(h:¬ (dnOf (bestBr l press k)<x.done∧x.done≤press.length∧x.press.take x.done=press.take x.done)):bestBr l press (k+1)=bestBr l press k:=by
 rw[bestBr,hx];exact if_neg h
def bestD(l:List Br)(fr:Nat)(press:List (List UInt8))(us:List Value)(dn k:Nat):Prop:=(bestBr l press k=none∧us=zB∧dn=0)∨∃ x h,bestBr l press k=some x∧us=brC fr x h∧x.done=dn∧good l press x
theorem bestD.dn{l:List Br}{fr:Nat}{press:List (List UInt8)}{us:List Value}{dn k:Nat}(h:bestD l fr press us dn k):dnOf (bestBr l press k)=dn:=by
 rcases h with ⟨h,_,rfl⟩|⟨x,a,h,_,rfl,_⟩
 ·rw[h];rfl
 ·rw[h];rfl
theorem bestD.c{l:List Br}{fr:Nat}{press:List (List UInt8)}{us:List Value}{dn k:Nat}(h:bestD l fr press us dn k):bestC l fr press us dn:=by
 rcases h with ⟨_,h⟩|⟨x,a,_,h⟩
 ·exact .inl h
 ·exact .inr ⟨x,a,h⟩
theorem bestD.keep{l:List Br}{fr:Nat}{press:List (List UInt8)}{us:List Value}{dn k:Nat}{x:Br}(h:bestD l fr press us dn k)(hx:l[k]?=some x)(hn:¬ (dn<x.done∧x.done≤press.length∧x.press.take x.done=press.take x.done)):bestD l fr press us dn (k+1):=by
 have e:bestBr l press (k+1)=bestBr l press k:=bestBr_no hx (by rw[h.dn];exact hn);unfold bestD;rw[e];exact h
theorem bestD.fin{l:List Br}{fr:Nat}{press:List (List UInt8)}{us:List Value}{dn k:Nat}(h:bestD l fr press us dn k){r:Bool}(hr:r=decide (0<dn)):(bestBr l press k=none∧Ending.returned (.tuple #[.agg us.toArray,.bool r]) = .returned (.tuple #[brZ,.bool false]))∨∃ x h,bestBr l press k=some x∧Ending.returned (.tuple #[.agg us.toArray,.bool r]) = .returned (.tuple #[brV fr x h,.bool true])∧good l press x:=by
 rcases h with ⟨h1,rfl,rfl⟩|⟨x,a,h1,rfl,rfl,hg⟩
 ·refine .inl ⟨h1,?_⟩
  rw[hr];rfl
 ·refine .inr ⟨x,a,h1,?_,hg⟩
  rw[hr,decide_eq_true hg.2.1];rfl
section
variable {w w' wr:World} {T T':Tg} {t b sb most last epoch fr n free slast:Nat} {l:List Br}
theorem tree_bestD(h:TreeAt w T t b sb most last epoch fr l)(hm:most≤8)(hok:∀ x∈l,okPs x.press)(hd:∀ x∈l,x.done≤x.press.length){PA:Option Addr}{pn pc:Nat}{press:List (List UInt8)}(hp:Rp w PA pn pc press) :
  Calls prog 269 #[ptrV b,.int .i64 (fr:Nat),.slice PA pn pc] w fun e w'=>Ext w w'∧((bestBr l press l.length=none∧e = .returned (.tuple #[brZ,.bool false]))∨∃ x h,bestBr l press l.length=some x∧e = .returned (.tuple #[brV fr x h,.bool true])∧good l press x):=by
 have hl8:=Nat.le_trans h.most8 hm;have HAll:=hqd fun W (e:Ext w W)=>tree_all (h.ext e) hm hok;have HA:=hqd fun W (e:Ext w W) D m d qs (hq:Rp W D m d qs)=>branch_alike W D m d qs PA pn pc press hq (hp.ext e);have Hpl:=hqd hp.len;have Hd:=hqd hd;obtain⟨N,hN⟩:∃ N,N=l.length:=⟨_,rfl⟩;have HN:=hqd hN;rw[← hN]at hl8 HAll;unfold ptrV;clear h hok hd hp hN;have c1:=Has.new w (fun _=>0) zB 136 rfl;have c2:=Has.new (w.alloc (.cells zB.toArray 136)) (fun _=>0) zB 136 rfl;have c1:=c1.ext (Ext.alloc _ (.cells zB.toArray 136));have x0:=(Ext.alloc w (.cells zB.toArray 136)).trans (Ext.alloc _ (.cells zB.toArray 136));rw[show(w.alloc (.cells zB.toArray 136)).heap.size=w.heap.size+1 by simp]at c2;go_enter func269,ntmps269;go_upto_region 2 with fail
 rw[show zB.toArray = #[.int .i64 0,.int .i64 0,.slice none 0 0,.int .i64 0,.int .i64 0] from rfl]at c1 c2 x0;generalize hW:World.alloc (World.alloc w _) _=W0 at *;obtain⟨gr,hgr⟩:∃ gr,gr=w.heap.size:=⟨_,rfl⟩;obtain⟨gb,hgb⟩:∃ gb,gb=w.heap.size+1:=⟨_,rfl⟩;rw[← hgb]at c2;rw[← hgr]at c1;rw[← hgb,← hgr];have hne:gb≠gr:=by omega
 have Hgr:=hqd (show w.heap.size≤gr by omega);have Hgb:=hqd (show w.heap.size≤gb by omega);clear hW hgr hgb;have hT0:Unborn W0 (tgB gb gr):=fun k hk=>by
  have:=c1.lt;have:=c2.lt;unfold tgB;rw[if_neg (by omega),if_neg (by omega)]
 have c1:Has W0 (tgB gb gr) 2 gr zB:=⟨by unfold tgB;rw[if_neg (fun e=>hne e.symm),if_pos rfl],c1.2⟩;have c2:Has W0 (tgB gb gr) 1 gb zB:=⟨by unfold tgB;rw[if_pos rfl],c2.2⟩;go_wp2_with fail;refine(HAll.out W0 x0).mono ?_;rintro e w2 ⟨C,cc,rfl,e2,hBs⟩;have hBs:=hBs _ hT0;have HBs:=hqd hBs;have Hc1:=hqd (c1.ext e2);have Hx2:=hqd (x0.trans e2);have hst:∃(k:Nat) (us:List Value) (dn:Nat),Value.int .i64 0 = .int .i64 (k:Nat)∧k≤N∧bestD l fr press us dn k∧Turn (· = 1) w2 (tgB gb gr) w2 (tgB gb gr)∧Has w2 (tgB gb gr) 1 gb us:=⟨0,zB,0,rfl,Nat.zero_le _,.inl ⟨rfl,rfl,rfl⟩,Turn.refl _ (hT0.ext e2),c2.ext e2⟩;have Hst:=hqd hst;clear hBs c1 c2 hst;go_wp2_with fail;go_loopw [15] (fun iv wr=>∃(k:Nat) (us:List Value) (dn:Nat),iv = .int .i64 (k:Nat)∧k≤N∧bestD l fr press us dn k∧Turn (· = 1) w2 (tgB gb gr) wr (tgB gb gr)∧Has wr (tgB gb gr) 1 gb us) (fun iv _=>N-(intOf iv).toNat)
 case atStart=>exact Hst.out
 case round =>
  obtain⟨k,us,dn,rfl,hk,hbc,hT,hH⟩:=hrel;by_cases hkn:k<N
  ·have hd4:decide (k<N)=true:=decide_eq_true hkn
   obtain⟨x,hx⟩:∃ x,l[k]?=some x:=⟨_,List.getElem?_eq_getElem (by rw[← HN.out];exact hkn)⟩;obtain⟨g9,o9,⟨A1,c1⟩,rfl,hv1,hsp⟩:=(HBs.out.turn hT (by decide)).elem hx;have k0:=hv1 0 _ rfl;have k1:=hv1 1 _ rfl;have k2:=hv1 2 _ rfl;have k3:=hv1 3 _ rfl;have k4:=hv1 4 _ rfl;rw[Nat.add_zero]at k0;have hdx:=Hd.out x (List.mem_of_getElem? hx);have hmc:=hsp.rp.max.1;have hmm:=hsp.rp.max.2;unfold maxLen at hmm;have hxw:=Ext.of_one Hx2.out hT Hgb.out;have HAx:=hqd fun W (e:Ext wr W)=>HA.out W (hxw.trans e) A1 x.done c1 (x.press.take x.done) ((hsp.rp.ext e).take hdx);have Hx:=hqd hx;have HT:=hqd hT;have HH:=hqd hH;have Hbc:=hqd hbc;have h3:=hH.cell (i:=3) hbc.c.three.2.1;have hgl:=hH.lt;clear hv1 hsp hx hT hH hbc hxw;have hgood:x.done≤pn→dn<x.done→((x.press.take x.done).take (min x.done pn)==press.take (min x.done pn))=true→bestD l fr press (brC fr x (A1,c1)) x.done (k+1):=fun h1 h2 h3=>by
    rw[Nat.min_eq_left h1,List.take_take,Nat.min_self]at h3;have h4:=eq_of_beq h3;have h5:x.done≤press.length:=by rw[← Hpl.out];exact h1
    exact .inr ⟨x,_,bestBr_yes Hx.out ⟨by rw[Hbc.out.dn];exact h2,h5,h4⟩,rfl,rfl,List.mem_of_getElem? Hx.out,by omega,h5,h4⟩
   have Hgood:=hqd hgood;have Hno1:=hqd fun(h:¬ dn<x.done)=>Hbc.out.keep Hx.out fun h9=>h h9.1;have Hno2:=hqd fun(h:¬ x.done≤pn)=>Hbc.out.keep Hx.out fun h9=>h (by rw[Hpl.out];exact h9.2.1);have Hno3:=hqd fun(h1:x.done≤pn) (h:((x.press.take x.done).take (min x.done pn)==press.take (min x.done pn))=false)=>Hbc.out.keep Hx.out fun h9=>by
    rw[Nat.min_eq_left h1,List.take_take,Nat.min_self,h9.2.2]at h;simp at h
   clear hgood;obtain⟨us',hus⟩:∃ us',us'=brC fr x (A1,c1):=⟨_,rfl⟩;have hun:=hus;unfold brC at hun;rw[← hus]at Hgood;generalize ((x.press.take x.done).take (min x.done pn)==press.take (min x.done pn))=r at *;clear hus;generalize x.press.length=pl at *;generalize x.press=ps at *;generalize x.id=i1 at *;generalize x.done=i3 at *;generalize x.pic=i4 at *;go_upto_region 5 with fail
   have b9:=Has.new wr (fun _=>0) us' 136 rfl;have ex1:=Ext.alloc wr (.cells us'.toArray 136);have h3:=ex1.cell h3;have hl5:us'.length=5:=by rw[hun];rfl
   have h15:∀ u∈us',u.oneCell'=true:=by rw[hun];simp[Value.oneCell']
   rw[show us'.toArray = #[.int .i64 (i1:Nat),.int .i64 (fr:Nat),.slice A1 pl c1,.int .i64 (i3:Nat),.int .i64 (i4:Nat)] by rw[hun]]at b9 ex1 h3;generalize hW:World.alloc wr _=W at *;obtain⟨gv,hgv⟩:∃ gv,gv=wr.heap.size:=⟨_,rfl⟩;rw[← hgv]at b9 ⊢;clear hW hgv k0 k1 k2 k3 k4;have j1:=b9.cell (i:=1) (by rw[hun];rfl);have j2:=b9.cell (i:=2) (by rw[hun];rfl);have j3:=b9.cell (i:=3) (by rw[hun];rfl);have B9:=hqd b9;have Hun:=hqd hun;clear hun b9;by_cases hdn:dn<i3
   ·have hd5:decide (dn<i3)=true:=decide_eq_true hdn
    have hd5':decide ((dn:Int)<(i3:Int))=true:=decide_eq_true (by omega);by_cases hdp:i3≤pn
    ·have hd6:decide (i3≤pn)=true:=decide_eq_true hdp
     have hd6':decide ((i3:Int)≤(pn:Int))=true:=decide_eq_true (by omega);have hc1:((i3:Int)≤(c1:Int))=True:=eq_true (by omega);have hc2:(i3≤c1)=True:=eq_true (by omega);go_wp2_with fail;refine(HAx.out W ex1).mono ?_;rintro e w3 ⟨rfl,e3⟩;have e13:=ex1.trans e3;cases r with
     | true =>
      have hb9:=(B9.out.ext e3).all;have hH3:=HH.out.ext e13;have hus5:=Hbc.out.c.three.1;have hbc':=Hgood.out hdp hdn rfl;clear j1 j2 j3 h3;go_wp2_with (first|(with_reducible refine wpList_load_st rfl 136 (.tmp 10) rfl rfl underlying136 size_br hl5 hb9 ?_)|(with_reducible refine wpList_store_st rfl 136 (.tmp 8) (.tmp 46) rfl rfl (us:=us') rfl hH3 hl5 hus5 size_br h15 ?_;intro Z bZ gZ sZ));have hT3:Turn (· = 1) w2 (tgB gb gr) Z (tgB gb gr):=(HT.out.ext e13).grown gZ (fun g hg=>by cases hg;exact .inl (by unfold tgB;rw[if_pos rfl]));exact⟨⟨k+1,us',i3,by go_num,by omega,hbc',hT3,bZ⟩,by simp[intOf];omega⟩
     | false =>
      go_wp2_with fail;go_roundw
      case rel=>exact⟨k+1,us,dn,by go_num,by omega,Hno3.out hdp trivial,HT.out.ext e13,HH.out.ext e13⟩
      case measure=>simp[intOf];omega
    ·have hd6:decide (i3≤pn)=false:=decide_eq_false hdp
     have hd6':decide ((i3:Int)≤(pn:Int))=false:=decide_eq_false (by omega);go_wp2_with fail;go_roundw
     case rel=>exact⟨k+1,us,dn,by go_num,by omega,Hno2.out hdp,HT.out.ext ex1,HH.out.ext ex1⟩
     case measure=>simp[intOf];omega
   ·have hd5:decide (dn<i3)=false:=decide_eq_false hdn
    have hd5':decide ((dn:Int)<(i3:Int))=false:=decide_eq_false (by omega);go_wp2_with fail;go_roundw
    case rel=>exact⟨k+1,us,dn,by go_num,by omega,Hno1.out hdn,HT.out.ext ex1,HH.out.ext ex1⟩
    case measure=>simp[intOf];omega
  ·obtain rfl:k=N:=by omega
   have hd4:decide (k<k)=false:=decide_eq_false (by omega);have hk3:=hbc.c.three;have c1:=Hc1.out.turn hT (by decide);have h3:=hH.cell (i:=3) hk3.2.1;have hall:=hH.all;have Hbc:=hqd hbc;have HT:=hqd hT;have HH:=hqd hH;have Hk:=hqd hk3;clear hbc hT hH;have hu:Unborn wr (tgB gb gr):=HT.out.unborn;have hn1:¬ tgB gb gr gb=2:=by unfold tgB;rw[if_pos rfl];decide
   have hz5:zB.length=5:=rfl;go_wp2_with fail;apply wrG (oR (· = 2) (tgB gb gr)) (oRs 4 (· = 2) (tgB gb gr)) (oJ 4 _) (oJ.start _ _);apply lexG_ex (u:=.agg us.toArray) (by decide) (by decide) (oR.refl _ _) (oRs.refl _ _ _)
   ·rfl
   ·intro W hR hJ hΦ
    exact exec_load_st 136 (.tmp 8) rfl rfl underlying136 (by rw[Hk.out.1];exact size_br) (HH.out.moved hR (by decide)).all
   simp only[pu];repeat apply lxG (fun _ h _ _=>h.cell h3 hn1)
   apply lexG_eff (p:=fun _ W=>Has W (tgB gb gr) 2 gr us) (by decide) (by decide) (fun j hj v w w' h hR=>by
    rcases hR with ⟨h9,_⟩|h9
    ·exact absurd h9 hj
    ·exact h.ext h9)
   ·rfl
   ·intro W hR hJ hΦ
    obtain⟨W2,h2,h3,h1⟩:=exec_store_st (P:=prog) 136 (us:=us) (c1.ext (hJ rfl)) Hk.out.1 hz5 size_br Hk.out.2.2;have hmv:oR (· = 2) (tgB gb gr) W W2:=⟨h3.os,h3.tape,h3.output,h3.size,fun k hk hn=>h3.block k hk (fun e=>hn (by cases e;exact h2.1))⟩;exact⟨W2,h1 _ _ _ _ rfl rfl rfl,hmv,.inl ⟨rfl,hmv⟩,h2⟩
   intro v14;simp only[Act.put];repeat apply lxG (fun _ h _ _=>h.cell h3 hn1)
   refine lexG_nil ?_;intro W hR hap hΦ;have hZ:=hΦ.1 rfl;clear hΦ hap;go_wp2_with fail;have hx2:=Ext.of_two (Ext.of_one Hx2.out HT.out Hgb.out) hR Hgr.out;exact bodyPost_ret (result_st2 (q:=7) rfl _ rfl hZ underlying136 (by rw[Hk.out.1];exact size_br)) rfl ⟨hx2,by rw[← HN.out];exact Hbc.out.fin rfl⟩
end
end Go.Proofs.YtffcefoadaogbaaGreat
