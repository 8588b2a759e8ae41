/- A part of the proof: texts put together and cut down by a program of mine (wip/gen/mini.py). -/
import Derived.Test.YtffcefoadaogbaaGreatS1
import Derived.Test.YtffcefoadaogbaaGreatRows
namespace Go.Proofs.YtffcefoadaogbaaGreat
open Go.RowKit
open Go.Proofs.Tryz
set_option linter.unusedVariables false
set_option maxRecDepth 100000
set_option maxHeartbeats 16000000
def LineAt(w:World)(T:Tg)(t b:Nat)(l:List UInt8):Prop:=∃ A c,Has w T t b [.slice A l.length c]∧Row w T (t+1) 5 1 A l.length c (bcs l)
section
variable {w w':World} {T T':Tg} {t b:Nat} {l:List UInt8}
theorem LineAt.turn{S:Nat→Prop}(h:LineAt w T t b l)(hT:Turn S w T w' T')(h0:¬ S t)(h1:¬ S (t+1)):LineAt w' T' t b l:=by
 obtain⟨A,c,h2,h3⟩:=h;exact⟨A,c,h2.turn hT h0,h3.turn hT h1⟩
theorem LineAt.ext(h:LineAt w T t b l)(e:Ext w w'):LineAt w' T t b l:=by
 obtain⟨A,c,h2,h3⟩:=h;exact⟨A,c,h2.ext e,h3.ext e⟩
theorem line_len(h:LineAt w T t b l):Calls prog 192 #[.pointer (some ⟨b,0,none⟩)] w fun e w'=>e = .returned (.int .i64 (l.length:Nat))∧w'=w:=by
 obtain⟨A,c,h2,h3⟩:=h;have c0:=h2.cell (i:=0) rfl;clear h2 h3;go_enter func192,ntmps192;go_wp2_with fail;go_ret;exact⟨rfl,rfl⟩
theorem line_at(h:LineAt w T t b l){f:Nat}(hf:f<l.length):Calls prog 193 #[.pointer (some ⟨b,0,none⟩),.int .i64 (f:Nat)] w fun e w'=>e = .returned (.tuple #[.int .u8 ((l[f]).toNat:Nat),.bool true])∧w'=w:=by
 have H:=hqd (line_len h);obtain⟨A,c,h2,h3⟩:=h;have c0:=h2.cell (i:=0) rfl;have hb:=h3.rb;have hmx:=hb.max;obtain⟨g,o,rfl,hc⟩:=hb.at_ hf;unfold maxLen at hmx;have hd:decide (l.length≤f)=false:=decide_eq_false (by omega);have hd':decide ((l.length:Int)≤(f:Int))=false:=decide_eq_false (by omega);generalize (l[f]).toNat=x at *;clear h2 h3 hb;go_enter func193,ntmps193;go_wp2_with fail;refine H.out.mono ?_;rintro e w1 ⟨rfl,rfl⟩;go_wp2_with fail;go_ret2
 exact⟨rfl,rfl⟩
theorem line_at_no(h:LineAt w T t b l){f:Nat}(hf:l.length≤f):Calls prog 193 #[.pointer (some ⟨b,0,none⟩),.int .i64 (f:Nat)] w fun e w'=>e = .returned (.tuple #[.int .u8 0,.bool false])∧w'=w:=by
 have H:=hqd (line_len h);obtain⟨A,c,h2,h3⟩:=h;have hd:decide (l.length≤f)=true:=decide_eq_true (by omega);have hd':decide ((l.length:Int)≤(f:Int))=true:=decide_eq_true (by omega);clear h2 h3;go_enter func193,ntmps193;go_wp2_with fail;refine H.out.mono ?_;rintro e w1 ⟨rfl,rfl⟩;go_wp2_with fail;go_ret2
 exact⟨rfl,rfl⟩
theorem line_add(h:LineAt w T t b l)(hu:Unborn w T)(x:UInt8)(hl:l.length<1000) :
  Calls prog 304 #[.pointer (some ⟨b,0,none⟩),.int .u8 (x.toNat:Nat)] w (Does (In t 2) w T (.int .i64 0) fun w' T'=>LineAt w' T' t b (l++[x])):=by
 obtain⟨i0,hi,hz0,hz1,hz2⟩:=info_parts info_u8;obtain⟨A,c,h2,h3⟩:=h;have c0:=h2.cell (i:=0) rfl;have f0:=h2.free 0;have ho:=h3.1;have hne:=h2.ne_row h3 (by omega);have H2:=hqd h2;have H3:=hqd h3;have hd:decide (1000≤l.length)=false:=decide_eq_false (by omega);have hd':decide ((1000:Int)≤(l.length:Int))=false:=decide_eq_false (by omega);clear h2 h3;go_enter func304,ntmps304;go_wp2_with (at_builtin;refine wpList_append_new _ rfl _ _ 30 rfl 0 5 i0 (.int .u8 0) 1 1 underlying30 hi hz0 hz1 hz2 rfl (by decide) A l.length c _ rfl ho 1 _ rfl rfl (by simp[Value.oneCell']) (by unfold maxLen;omega) (by omega) (Nat.zero_le _) ?_;intro E Ed wy hoE hgE hwE;obtain⟨c0,f0⟩:=H2.out.cell_by hgE hne 0 rfl);go_ret;obtain⟨hT,hR⟩:=H3.out.append hu hoE hgE hwE;have hH:=H2.out.turn hT (by omega);obtain⟨hT2,hH2⟩:=hH.put (S:=(· = t)) hT.unborn 0 (.slice E (l.length+1) Ed) rfl;refine⟨rfl,_,(hT.mono fun k hk=>?_).trans (hT2.mono fun k hk=>?_),E,Ed,?_,?_⟩
 ·subst hk;unfold In;omega
 ·subst hk;unfold In;omega
 ·rw[List.length_append];exact hH2
 ·rw[List.length_append,bcs_append]
  exact hR.turn hT2 (by omega)
end
theorem sl_nil_no(a:Addr)(n c:Nat)(w:World):(binOp BinOp.eql 30 (.slice (some a) n c) (.slice none 0 0)).run prog w = .ok (.bool false) w:=by kernel_rfl
theorem sl_nil_yes(n c:Nat)(w:World):(binOp BinOp.eql 30 (.slice none n c) (.slice none 0 0)).run prog w = .ok (.bool true) w:=by kernel_rfl
theorem clone_any(w:World)(A:Option Addr)(n c:Nat)(l:List UInt8)(hb:Rb w A n c l)(hs:l.length≤1000000) :
  Calls prog 144 #[.slice A n c] w (Made w 5 1 (bcs l)):=by
 obtain⟨i0,hi,hz0,hz1,hz2⟩:=info_parts info_u8;have hn:=hb.len;have hmx:=hb.max;cases A with
 | none =>
  have hl:l=[]:=by
   rcases Nat.eq_zero_or_pos n with h0|h0
   ·exact List.eq_nil_of_length_eq_zero (by omega)
   ·obtain⟨b,o,e,_⟩:=hb.2.2.2 (by omega)
    cases e
  subst hl;subst hn;clear hb hmx;have hnil:=sl_nil_yes 0 c w;go_enter func144,ntmps144;go_wp2_with fail;go_ret;exact⟨none,0,0,rfl,Own.nil_ _ _ _ _,Ext.refl _⟩
 | some a =>
  subst hn;have Hb:=hqd hb;clear hb;have hnil:=sl_nil_no a l.length c w;go_enter func144,ntmps144;go_wp2_with (at_builtin;refine wpList_append_to _ rfl _ _ 30 rfl w.heap.size 5 i0 (.int .u8 0) 1 1 underlying30 hi hz0 hz1 hz2 rfl (by decide) (some ⟨w.heap.size,0,none⟩) 0 0 [] rfl (Own.made w w.heap.size 5 1 [] 0 (Nat.le_refl _) (by decide) rfl) (some a) l.length c _ rfl (Rd.ext Hb.out (Ext.alloc _ _)) (bcs_one l) (by unfold maxLen;omega) (by omega) (by simp) ?_;intro E Ed wy hoE hgE hwE);go_ret;rw[Nat.zero_add]at hoE;exact⟨E,_,Ed,rfl,hoE,Below.trans (Ext.alloc _ _) (below_of_grown hgE (by simp) (by intro k hk;cases hk;exact Nat.le_refl _))⟩
section
variable {w w':World} {T T':Tg} {t b:Nat} {l:List UInt8}
theorem line_from(h:LineAt w T t b l)(hl:l.length≤1000)(f n:Nat)(hn:1≤n)(hn2:n≤1000)(hf:f≤1000):Calls prog 299 #[.pointer (some ⟨b,0,none⟩),.int .i64 (f:Nat),.int .i64 (n:Nat)] w (Made w 5 1 (bcs ((l.drop f).take n))):=by
 have H:=hqd (line_len h);obtain⟨A,c,h2,h3⟩:=h;have c0:=h2.cell (i:=0) rfl;have hb:=h3.rb;have hmx:=hb.max;unfold maxLen at hmx;have hn1:decide ((n:Int)<1)=false:=decide_eq_false (by omega);have hn1':decide (n<1)=false:=decide_eq_false (by omega);by_cases hf:f<l.length
 ·have hd:decide (l.length≤f)=false:=decide_eq_false (by omega)
  have hd':decide ((l.length:Int)≤(f:Int))=false:=decide_eq_false (by omega);have hw:IntKind.i64.wrap ((f:Int)+(n:Int))=(f:Int)+(n:Int):=IntWalk.i64_in _ (by omega);obtain⟨m,hm⟩:∃ m,min l.length (f+n)=m:=⟨_,rfl⟩;have hm3:f≤m∧m≤l.length:=by omega
  obtain⟨g,rfl,_,_,_⟩:=h3.at_ (i:=f) (bcs_get hf);have hcut:=Rb.from_ (hb.take (k:=m) (by omega)) (k:=f) (by omega);have he:(l.take m).drop f=(l.drop f).take n:=by
   rw[List.drop_take];rcases Nat.lt_or_ge (f+n) l.length with h1|h1
   ·rw[show m-f=n by omega]
   ·rw[List.take_of_length_le (by rw[List.length_drop];omega),List.take_of_length_le (by rw[List.length_drop];omega)]
  have hcl:=fun W (e:Ext w W)=>clone_any W _ _ _ _ (Rb.ext (he▸hcut) e) (by simp;omega);rw[Nat.zero_add]at hcl;obtain⟨q,hq⟩:∃ q,m-f=q:=⟨_,rfl⟩;rw[hq]at hcl;have Hcl:=hqd hcl;clear h2 h3 hb hcut hcl he;by_cases hfn:l.length≤f+n
  ·obtain rfl:q=l.length-f:=by omega
   go_enter func299,ntmps299;go_wp2_with fail;refine H.out.mono ?_;rintro e w1 ⟨rfl,rfl⟩;go_wp2_with fail;apply wrN 15;simp only[tk];repeat apply lxA (fun _ h _=>h.cell c0)
   refine lex_nil ?_;intro Wx hWx hΦ;clear hΦ;simp only[dk];go_wp2_with fail;refine(Hcl.out _ hWx).mono ?_;rintro e w2 ⟨B,k,d,rfl,ho,hx⟩;go_wp2_with fail;go_ret;exact⟨B,k,d,rfl,ho.mono hWx.size,hWx.trans hx⟩
  ·obtain rfl:q=n:=by omega
   go_enter func299,ntmps299;go_wp2_with fail;refine H.out.mono ?_;rintro e w1 ⟨rfl,rfl⟩;go_wp2_with fail;apply wrN 15;simp only[tk];repeat apply lxA (fun _ h _=>h.cell c0)
   refine lex_nil ?_;intro Wx hWx hΦ;clear hΦ;simp only[dk];go_wp2_with fail;refine(Hcl.out _ hWx).mono ?_;rintro e w2 ⟨B,k,d,rfl,ho,hx⟩;go_wp2_with fail;go_ret;exact⟨B,k,d,rfl,ho.mono hWx.size,hWx.trans hx⟩
 ·have hd:decide (l.length≤f)=true:=decide_eq_true (by omega)
  have hd':decide ((l.length:Int)≤(f:Int))=true:=decide_eq_true (by omega);have he:(l.drop f).take n=[]:=by rw[List.drop_eq_nil_of_le (by omega)];exact List.take_nil
  rw[he];clear h2 h3 hb;go_enter func299,ntmps299;go_wp2_with fail;refine H.out.mono ?_;rintro e w1 ⟨rfl,rfl⟩;go_wp2_with fail;go_ret;exact⟨none,0,0,rfl,Own.nil_ _ _ _ _,Ext.refl _⟩
theorem line_all(h:LineAt w T t b l)(hl:l.length≤1000):Calls prog 283 #[.pointer (some ⟨b,0,none⟩)] w (Made w 5 1 (bcs l)):=by
 have H:=line_from h hl 0 1000 (by decide) (by decide) (by decide);rw[List.drop_zero,List.take_of_length_le hl]at H;have H:=hqd H;clear h;go_enter func283,ntmps283;go_wp2_with fail;refine H.out.mono ?_;rintro e w2 ⟨B,k,d,rfl,ho,hx⟩;go_wp2_with fail;go_ret;exact⟨B,k,d,rfl,ho,hx⟩
def putRel(w:World)(T:Tg)(t b:Nat)(l bs:List UInt8)(k0:Nat)(nv iv:Value)(wr:World):Prop:=∃(j q:Nat) (T':Tg),nv = .int .i64 (j:Nat)∧iv = .int .i64 (q:Nat)∧q=k0+j∧j≤bs.length-k0∧Turn (In t 2) w T wr T'∧LineAt wr T' t b (l++(bs.drop k0).take j)
theorem line_put(h:LineAt w T t b l)(hu:Unborn w T)(ht:0<t){first:Nat}{A:Option Addr}{n c:Nat}{bs:List UInt8}(hb:Sb w T A n c bs)(hf:first≤l.length)(h1:first+bs.length≤1000)(hl:l.length≤1000) :
  Calls prog 308 #[.pointer (some ⟨b,0,none⟩),.int .i64 (first:Nat),.slice A n c] w fun e w'=>(∃ k:Nat,e = .returned (.tuple #[.int .i64 (k:Nat),.int .i64 0]))∧∃ T',Turn (In t 2) w T w' T'∧LineAt w' T' t b (l++bs.drop (l.length-first)):=by
 have hn:=hb.rb.len;subst hn;have hmx:=hb.rb.max;unfold maxLen at hmx;have Hl:=hqd h;have Hb:=hqd hb;obtain⟨A0,c9,h2,h3⟩:=h;have c0:=h2.cell (i:=0) rfl;have hm0:=h3.rb.max;unfold maxLen at hm0;have hd:decide ((l.length:Int)<(first:Int))=false:=decide_eq_false (by omega);have hd':decide (l.length<first)=false:=decide_eq_false (by omega);obtain⟨k0,hk0⟩:∃ k0,l.length-first=k0:=⟨_,rfl⟩;have hw:IntKind.i64.wrap ((l.length:Int)-(first:Int))=(k0:Nat):=by rw[IntWalk.i64_in _ (by omega)];omega
 have Hk0:=hqd hk0;clear h2 h3 hb;go_enter func308,ntmps308;go_wp2_with fail;go_loopw [8,9] (fun nv iv wr=>putRel w T t b l bs k0 nv iv wr) (fun nv _ _=>bs.length-(intOf nv).toNat)
 case atStart=>exact⟨0,k0,T,rfl,rfl,rfl,Nat.zero_le _,Turn.refl _ hu,by rw[List.take_zero,List.append_nil];exact Hl.out⟩
 case round =>
  obtain⟨j,q,T',rfl,rfl,hq,hj,hT,hL⟩:=hrel;have Hq:=hqd hq;by_cases hjn:q<bs.length
  ·obtain⟨g,o,rfl,hc⟩:=(Hb.out.turn hT (by unfold In;omega)).rb.at_ hjn
   have hadd:=line_add hL hT.unborn bs[q] (by rw[List.length_append,List.length_take,List.length_drop];have:=Hk0.out;omega);have hsn:l++(bs.drop k0).take j++[bs[q]]=l++(bs.drop k0).take (j+1):=by
    rw[List.append_assoc,List.take_add_one,List.getElem?_drop,List.getElem?_eq_getElem (by omega)];simp only[hq];rfl
   rw[hsn]at hadd;have Hadd:=hqd hadd;have hd1:decide (q<bs.length)=true:=decide_eq_true (by omega);have HT:=hqd hT;generalize bs[q].toNat=y at *;clear hadd hsn hL hq hT;go_wp2_with fail;refine Hadd.out.mono ?_;rintro e w2 ⟨rfl,T2,hT2,hL2⟩;go_wp2_with fail;go_roundw
   case rel=>exact⟨j+1,q+1,T2,by go_num,by go_num,by have:=Hq.out;omega,by have:=Hq.out;omega,HT.out.trans hT2,hL2⟩
   case measure=>simp[intOf];have:=Hq.out;omega
  ·have hd1:decide (q<bs.length)=false:=decide_eq_false hjn
   have HT:=hqd hT;have hfin:(bs.drop k0).take j=bs.drop k0:=List.take_of_length_le (by rw[List.length_drop];omega);rw[hfin]at hL;have HL:=hqd hL;clear hT hL hfin hq;go_wp2_with fail;go_ret2
   exact⟨⟨j,rfl⟩,T',HT.out,by rw[Hk0.out];exact HL.out⟩
end
theorem line_new(w:World)(T:Tg)(hu:Unborn w T)(d:Nat)(hd:d≤8)(t:Nat):Calls prog 190 #[.int .i64 (d:Nat)] w (Gives (fun _=>False) w T fun v w' T'=>∃ b,v = .pointer (some ⟨b,0,none⟩)∧LineAt w' T' t b (List.replicate d 0)):=by
 obtain⟨i,hi,hz0,hz1,hz2⟩:=info_parts info_u8;have hmk:∀ W:World,(Instr.makeSlice 30 (.int .i64 (d:Nat)) (.int .i64 (d:Nat))).run prog W = .ok (.slice (some ⟨W.heap.size,0,none⟩) d d) (W.alloc (.cells (List.replicate d (Value.int .u8 0)).toArray 5)):=by
  intro W;have h:=run_make (P:=prog) W 30 5 i _ underlying30 hi hz0 .i64 .i64 (d:Nat) (d:Nat) (by omega) (Int.le_refl _) (by rw[hz2];omega) (by omega);rw[hz1,Nat.mul_one]at h;rw[← made_one];exact h
 have hbc:bcs (List.replicate d 0)=List.replicate d (Value.int .u8 0):=by simp[bcs]
 have hmm:max (d:Int) 0=(d:Int):=by omega
 have hmn:min (d:Int) 8=(d:Int):=by omega
 clear hi hz0 hz1 hz2;go_enter func190,ntmps190;go_wp2_with fail;go_ret;rw[show(Array.replicate d (Value.int .u8 0))=(List.replicate d (Value.int .u8 0)).toArray from by simp];obtain⟨hT1,hR1⟩:=Row.fresh hu (Own.made w w.heap.size 5 1 (List.replicate d (Value.int .u8 0)) d (Nat.le_refl _) (by unfold maxLen;omega) (by simp)) (Ext.alloc _ _) (t+1);generalize hW:w.alloc _=W1 at *;have hsz:W1.heap.size=w.heap.size+1:=by subst hW;simp
 rw[← hsz];obtain⟨hT2,hH2⟩:=Has.fresh hT1.unborn [.slice (some ⟨w.heap.size,0,none⟩) d d] 344 t;refine⟨_,rfl,_,hT1.trans hT2,_,rfl,some ⟨w.heap.size,0,none⟩,d,?_,?_⟩
 ·rw[List.length_replicate];exact hH2
 ·rw[List.length_replicate,hbc];exact hR1.turn hT2 (fun h=>h)
def blkOf:Value→Option Nat
 | .pointer (some a)=>some a.block
 | _=>none
def Fresh(F1 F2 i:Nat)(v:Value)(w w':World):Prop:=i=F1∨i=F2→∃ b,blkOf v=some b∧w.heap.size≤b∧b<w'.heap.size
def apart2(F1 F2 n:Nat)(u1 u2:Value):Prop:=F1<n→F2<n→F1≠F2→blkOf u1≠blkOf u2
section
variable (P:Program) (R:World→World→Prop) (w0:World) (Rs:Nat→World→World→Prop) (J:Nat→World→Prop) (F1 F2:Nat) (l:List Oper) (Q:Act→World→Prop)
def StepG(i:Nat)(o:Oper)(a:Act)(G:World→Prop)(q:Post):Prop :=
 ∀ w,R w0 w→J i w→G w→yieldsW P (fun v w'=>(R w w'∧Rs i w w'∧Fresh F1 F2 i v w w')∧okPost q v w') ((execOp a.eval o).run P w)
def lexG:List Post→List Oper→Nat→Act→Value→Value→((Nat→Bool)→World→Prop)→Prop
 | [],[],i,a,u1,u2,Φ=>∀ w,R w0 w→apart2 F1 F2 i u1 u2→Φ (fun _=>true) w→Q a w
 | q::qs,o::os,i,a,u1,u2,Φ =>
  (if Region.wanted o (yielded l.toArray a.tmps) then StepG P R w0 Rs J F1 F2 i o a (Φ (bef l i)) q else q = .inl undef∧i≠F1∧i≠F2) ∧
  (match q with
   | .inl u=>lexG qs os (i+1) (a.put o.dst u) (if i=F1 then u else u1) (if i=F2 then u else u2) Φ
   | .inr p=>(∀ j,j≠i→bef l i j=false→∀ v w w',p v w→Rs j w w'→p v w')∧∀ v,lexG qs os (i+1) (a.put o.dst v) (if i=F1 then v else u1) (if i=F2 then v else u2) (fun d w=>(d i=true→p v w)∧Φ d w))
 | _,_,_,_,_,_,_=>False
end
section
variable {P:Program} {R:World→World→Prop} {w0:World} {Rs:Nat→World→World→Prop} {J:Nat→World→Prop} {F1 F2:Nat} {l:List Oper} {Q:Act→World→Prop}
theorem lexG_at(hst:stat l=true){a0:Act}{σ:Nat→Value}(n0:Nat)(hn0:n0≤l.length)(allq:List Post)(hlq:allq.length=n0)(hfit:∀ i q,allq[i]?=some q→fits q (σ i)) :
  ∀(qs:List Post) (os:List Oper) (i:Nat) (a:Act) (u1 u2:Value) (Φ:(Nat→Bool)→World→Prop),i+os.length=n0→(∀ k,k<os.length→os[k]?=l[i+k]?)→(∀ k,qs[k]?=allq[i+k]?)→lexG P R w0 Rs J F1 F2 l Q qs os i a u1 u2 Φ→Frm l a0 (· < i) σ a→(F1<i→u1=σ F1)→(F2<i→u2=σ F2) →
   (∀ d w,(∀ j q,j<i→allq[j]?=some q→d j=true→okPost q (σ j) w)→Φ d w) →
   (∀ j o,i≤j→j<n0→l[j]?=some o→∃ a q,allq[j]?=some q∧Frm l a0 (· < j) σ a ∧
    (if Region.wanted o (yielded l.toArray a.tmps) then StepG P R w0 Rs J F1 F2 j o a (fun w=>∀ k q,k<j→allq[k]?=some q→bef l j k=true→okPost q (σ k) w) q else q = .inl undef∧j≠F1∧j≠F2)) ∧
   (∃ a,Frm l a0 (· < n0) σ a∧∀ w,R w0 w→apart2 F1 F2 n0 (σ F1) (σ F2)→(∀ j q,allq[j]?=some q→j<n0→okPost q (σ j) w)→Q a w)
 | [],[],i,a,u1,u2,Φ,hin,hl,hq,h,hf,hu1,hu2,hΦ=>by
  have hi:i=n0:=by simpa using hin
  subst hi;refine⟨fun j o hj hj2 ho=>by omega,a,hf,fun w hw hap hall=>h w hw (fun h1 h2 h3=>by rw[hu1 h1,hu2 h2];exact hap h1 h2 h3) (hΦ _ _ fun j q hj hq2 _=>hall j q hq2 hj)⟩
 | [],_::_,_,_,_,_,_,_,_,_,h,_,_,_,_=>h.elim
 | _::_,[],_,_,_,_,_,_,_,_,h,_,_,_,_=>h.elim
 | q::qs,o::os,i,a,u1,u2,Φ,hin,hl,hq,h,hf,hu1,hu2,hΦ=>by
  simp only[List.length_cons]at hin hl;have ho:l[i]?=some o:=by simpa using (hl 0 (by omega)).symm
  have hq0:allq[i]?=some q:=by simpa using (hq 0).symm
  have hl':∀ k,k<os.length→os[k]?=l[i+1+k]?:=fun k hk=>by have:=hl (k+1) (by omega);simp only[List.getElem?_cons_succ]at this;rw[this];congr 1;omega
  have hq':∀ k,qs[k]?=allq[i+1+k]?:=fun k=>by have:=hq (k+1);simp only[List.getElem?_cons_succ]at this;rw[this];congr 1;omega
  have hput:∀ v,σ i=v→Frm l a0 (· < i+1) σ (a.put o.dst v):=fun v hv=>hf.put hst ho v (fun _ _ _=>rfl) hv (fun j=>by omega);obtain⟨hstep,hrest⟩:=h;have hfq:=hfit i q hq0;have hv1:∀ v,σ i=v→F1<i+1→(if i=F1 then v else u1)=σ F1:=fun v hv hlt=>by
   by_cases e:i=F1
   ·rw[if_pos e,← hv,e]
   ·rw[if_neg e];exact hu1 (by omega)
  have hv2:∀ v,σ i=v→F2<i+1→(if i=F2 then v else u2)=σ F2:=fun v hv hlt=>by
   by_cases e:i=F2
   ·rw[if_pos e,← hv,e]
   ·rw[if_neg e];exact hu2 (by omega)
  have key:(∀ j o,i+1≤j→j<n0→l[j]?=some o→∃ a q,allq[j]?=some q∧Frm l a0 (· < j) σ a ∧
    (if Region.wanted o (yielded l.toArray a.tmps) then StepG P R w0 Rs J F1 F2 j o a (fun w=>∀ k q,k<j→allq[k]?=some q→bef l j k=true→okPost q (σ k) w) q else q = .inl undef∧j≠F1∧j≠F2)) ∧
   (∃ a,Frm l a0 (· < n0) σ a∧∀ w,R w0 w→apart2 F1 F2 n0 (σ F1) (σ F2)→(∀ j q,allq[j]?=some q→j<n0→okPost q (σ j) w)→Q a w):=by
   cases q with
   | inl u=>exact lexG_at hst n0 hn0 allq hlq hfit qs os (i+1) _ _ _ Φ (by omega) hl' hq' hrest (hput u hfq) (hv1 u hfq) (hv2 u hfq) fun d w hall=>hΦ d w fun j q hj hq2 hd=>hall j q (by omega) hq2 hd
   | inr p =>
    refine lexG_at hst n0 hn0 allq hlq hfit qs os (i+1) _ _ _ _ (by omega) hl' hq' (hrest.2 (σ i)) (hput _ rfl) (hv1 _ rfl) (hv2 _ rfl) fun d w hall=>⟨fun hd=>?_,hΦ d w fun j q hj hq2 hd=>hall j q (by omega) hq2 hd⟩;exact hall i _ (by omega) hq0 hd
  refine⟨fun j x hj hj2 hx=>?_,key.2⟩;rcases Nat.lt_or_ge i j with hlt|hge
  ·exact key.1 j x hlt hj2 hx
  ·obtain rfl:j=i:=by omega
   rw[ho]at hx;cases hx
   refine⟨a,q,hq0,hf,?_⟩;by_cases hw:Region.wanted o (yielded l.toArray a.tmps)=true
   ·rw[if_pos hw]at hstep ⊢
    intro w hR hJ hG;exact hstep w hR hJ (hΦ _ _ fun k q hk hq2 hb=>hG k q hk hq2 hb)
   ·rw[if_neg hw]at hstep ⊢
    exact hstep
theorem lexG_len:∀(qs:List Post) (os:List Oper) (i:Nat) (a:Act) (u1 u2:Value) (Φ:(Nat→Bool)→World→Prop),lexG P R w0 Rs J F1 F2 l Q qs os i a u1 u2 Φ→qs.length=os.length
 | [],[],_,_,_,_,_,_=>rfl
 | [],_::_,_,_,_,_,_,h=>h.elim
 | _::_,[],_,_,_,_,_,h=>h.elim
 | q::qs,o::os,i,a,u1,u2,Φ,h=>by
  have:=h.2;simp only[List.length_cons];cases q with
  | inl u=>rw[lexG_len qs os _ _ _ _ _ this]
  | inr p=>rw[lexG_len qs os _ _ _ _ _ (this.2 undef)]
theorem lexG_stab:∀(qs:List Post) (os:List Oper) (i:Nat) (a:Act) (u1 u2:Value) (Φ:(Nat→Bool)→World→Prop),lexG P R w0 Rs J F1 F2 l Q qs os i a u1 u2 Φ→∀ k p,qs[k]?=some (.inr p)→∀ j,j≠i+k→bef l (i+k) j=false→∀ v w w',p v w→Rs j w w'→p v w'
 | [],_,_,_,_,_,_,_,k,p,hp=>by simp at hp
 | _::_,[],_,_,_,_,_,h,_,_,_=>h.elim
 | q::qs,o::os,i,a,u1,u2,Φ,h,0,p,hp=>by
  have:=h.2;simp at hp
  subst hp;exact this.1
 | q::qs,o::os,i,a,u1,u2,Φ,h,k+1,p,hp=>by
  have:=h.2;simp only[List.getElem?_cons_succ]at hp;intro j hj hb;rw[show i+(k+1)=i+1+k by omega]at hb;cases q with
  | inl u=>exact lexG_stab qs os _ _ _ _ _ this k p hp j (by omega) hb
  | inr p'=>exact lexG_stab qs os _ _ _ _ _ (this.2 undef) k p hp j (by omega) hb
theorem wpOp_of_stepG{Q':Exit→Act→World→Prop}{i:Nat}{o:Oper}{a b:Act}{w:World}{K:Act→World→Prop}{G:World→Prop}{q:Post}(ho:l[i]?=some o)(hs:∀ cs b,o.op≠.select cs b)
  (hag:∀ t∈o.looksAt l.toArray,a.tmps[t]?=b.tmps[t]?)
  (h:if Region.wanted o (yielded l.toArray a.tmps) then StepG P R w0 Rs J F1 F2 i o a G q else q = .inl undef∧i≠F1∧i≠F2) (hR:R w0 w) (hJ:J i w) (hG:G w) (hrefl:R w w) (hreflS:Rs i w w)
  (hK:∀ v w',R w w'→Rs i w w'→Fresh F1 F2 i v w w'→okPost q v w'→K (b.put o.dst v) w'):wpOp P l.toArray Q' i K b w:=by
 unfold wpOp;rw[show l.toArray[i]?=some o from by simpa using ho];simp only;rw[← wanted_same hag];split
 ·rename_i hw
  rw[if_pos hw]at h;have h1:=h w hR hJ hG;rw[execOp_same hs hag]at h1;exact .inl (wp_of_yields (fun v w' hv=>hK v w' hv.1.1 hv.1.2.1 hv.1.2.2 hv.2) h1)
 ·rename_i hw
  rw[if_neg (by simpa using hw)]at h;obtain⟨rfl,hf1,hf2⟩:=h;exact hK _ _ hrefl hreflS (fun e=>by rcases e with e|e;exact absurd e hf1;exact absurd e hf2) rfl
def restW(P:Program)(l:List Oper)(Q':Exit→Act→World→Prop)(n0:Nat)(a:Act)(w:World):Prop :=
 ∀(fuel:Nat) (listed:Array Bool),listed.size=l.length→unlisted l listed≤fuel→Shut l (fun i=>listed.getD i false=true)→(∀ j,listed.getD j false=true↔j<n0)→wpAny P .any l.toArray Q' fuel listed a w
def EndsG(P:Program)(l:List Oper)(Q:Act→World→Prop)(Q':Exit→Act→World→Prop)(n0:Nat):Prop :=
 (n0=l.length∧∀ a w,Q a w→Q' .normal a w) ∨
 (n0<l.length∧(∀ i,n0≤i→i<l.length→∀ j,j<n0→bef l i j=true)∧∀ a w,Q a w→restW P l Q' n0 a w)
theorem wpAny_lexG{Q':Exit→Act→World→Prop}(hst:stat l=true)(hrefl:∀ w,R w w)(hreflS:∀ i w,Rs i w w)(hsize:∀ a b,R a b→a.heap.size≤b.heap.size)(hJst:∀ j i,i≠j→∀ w w',J j w→Rs i w w'→J j w')(htrans:∀ a b c,R a b→R b c→R a c)(n0:Nat)(hends:EndsG P l Q Q' n0)(allq:List Post)(hlq:allq.length=n0)
  (hstab:∀ k p,allq[k]?=some (.inr p)→∀ j,j≠k→bef l k j=false→∀ v w w',p v w→Rs j w w'→p v w') {a0:Act} {os0:List Oper} (hos:os0.length=n0) (hosl:∀ k,k<os0.length→os0[k]?=l[k]?) (hlex:lexG P R w0 Rs J F1 F2 l Q allq os0 0 a0 undef undef (fun _ _=>True)) :
  ∀(fuel:Nat) (listed:Array Bool) (a:Act) (w:World) (σ:Nat→Value),listed.size=l.length→unlisted l listed≤fuel→R w0 w→(∀ i,¬ listed.getD i false=true→J i w)→((∀ i,i=F1∨i=F2→listed.getD i false=true→∃ b,blkOf (σ i)=some b∧b<w.heap.size)∧(F1≠F2→listed.getD F1 false=true→listed.getD F2 false=true→blkOf (σ F1)≠blkOf (σ F2)))→Shut l (fun i=>listed.getD i false=true)→(∀ i,n0≤i→¬ listed.getD i false=true) →
   (∀ i q,allq[i]?=some q→fits q (σ i))→(∀ i q,allq[i]?=some q→listed.getD i false=true→okPost q (σ i) w)→Frm l a0 (fun i=>listed.getD i false=true) σ a →
   wpAny P .any l.toArray Q' fuel listed a w:=by
 have hn0:n0≤l.length:=by rcases hends with h|h<;>omega
 intro fuel;induction fuel with
 | zero =>
  intro listed a w σ hsz hun hR hJ hF hsh hend0 hfit hok hf;have hz:unlisted l listed=0:=by omega
  have hall:∀ i,i<l.length→listed.getD i false=true:=by
   intro i hi;unfold unlisted at hz;rw[List.countP_eq_zero]at hz;have:=hz i (by simpa using hi);rw[← getD_tf (by omega)];simpa using this
  rcases hends with ⟨hn,hQ⟩|⟨hn,_,_⟩
  ·obtain⟨_,b,hb,hend⟩:=lexG_at hst n0 hn0 allq hlq hfit allq os0 0 a0 _ _ _ (by omega) (by simpa using hosl) (by simp) hlex (Frm.start a0 σ (by simp)) (fun h=>by omega) (fun h=>by omega) (fun _ _ _=>trivial)
   have hab:b=a:=by
    refine Frm.ext_ (S:=fun i=>listed.getD i false=true) (σ:=σ) ⟨hb.1,hb.2.1,fun t hx=>hb.2.2.1 t fun i o ho hi=>hx i o ho (hall i (by omega)),fun i o t ho hi hd hlt=>hb.2.2.2 i o t ho (by have:=(List.getElem?_eq_some_iff.1 ho).1;show i<n0;omega) hd hlt⟩ hf
   subst hab;exact⟨ready_nil hsz hall,hQ _ _ (hend w hR (fun h1 h2 h3=>hF.2 h3 (hall _ (by omega)) (hall _ (by omega))) fun j q hq hj=>hok j q hq (hall j (by omega)))⟩
  ·exact absurd (hall n0 (by omega)) (hend0 n0 (Nat.le_refl _))
 | succ fuel ih =>
  intro listed a w σ hsz hun hR hJ hF hsh hend0 hfit hok hf;obtain⟨hsteps,b,hb,hend⟩:=lexG_at hst n0 hn0 allq hlq hfit allq os0 0 a0 _ _ _ (by omega) (by simpa using hosl) (by simp) hlex (Frm.start a0 σ (by simp)) (fun h=>by omega) (fun h=>by omega) (fun _ _ _=>trivial);have hfin:(∀ i,i<n0→listed.getD i false=true)→Q a w:=by
   intro hall;have hab:b=a:=by
    refine Frm.ext_ (S:=fun i=>listed.getD i false=true) (σ:=σ) ⟨hb.1,hb.2.1,fun t hx=>hb.2.2.1 t fun i o ho hi=>hx i o ho (hall i hi),fun i o t ho hi hd hlt=>hb.2.2.2 i o t ho ?_ hd hlt⟩ hf;show i<n0
    rcases Nat.lt_or_ge i n0 with h|h
    ·exact h
    ·exact absurd hi (hend0 i h)
   subst hab;exact hend w hR (fun h1 h2 h3=>hF.2 h3 (hall _ h1) (hall _ h2)) fun j q hq hj=>hok j q hq (hall j hj)
  refine⟨fun hr=>?_,fun i hi=>?_⟩
  ·have hall:∀ i,i<l.length→listed.getD i false=true:=fun i hi=>all_listed hst hsz hr (i+1) i (by omega) hi
   rcases hends with ⟨hn,hQ⟩|⟨hn,_,_⟩
   ·exact hQ _ _ (hfin fun i hi=>hall i (by omega))
   ·exact absurd (hall n0 (by omega)) (hend0 n0 (Nat.le_refl _))
  ·obtain⟨h1,o,h2,hpre⟩:=mem_ready.1 hi
   have ho:l[i]?=some o:=by simpa using h2
   have hlt:i<l.length:=(List.getElem?_eq_some_iff.1 ho).1;have hni:¬ listed.getD i false=true:=by rw[← getD_tf (by omega),h1];simp
   have hbef:∀ j,bef l i j=true→j≠i→listed.getD j false=true:=fun j hj hne=>bef_of_ready hsh ho hpre hj hne;have hset:=getD_set (listed:=listed) (i:=i) (by omega);have hnew:∀(i:Nat) (v:Value) (w':World),¬ listed.getD i false=true→(∀ j,(listed.setIfInBounds i true).getD j false=true↔listed.getD j false=true∨j=i)→w.heap.size≤w'.heap.size→Fresh F1 F2 i v w w' →
     ((∀ k,k=F1∨k=F2→(listed.setIfInBounds i true).getD k false=true→∃ b,blkOf (if k=i then v else σ k)=some b∧b<w'.heap.size)∧(F1≠F2→(listed.setIfInBounds i true).getD F1 false=true→(listed.setIfInBounds i true).getD F2 false=true→blkOf (if F1=i then v else σ F1)≠blkOf (if F2=i then v else σ F2))):=by
    intro i v w' hni hset hsz' hfr;refine⟨fun k hk hl'=>?_,fun h12 hl1 hl2=>?_⟩
    ·by_cases e:k=i
     ·rw[if_pos e]
      obtain⟨b,hb1,_,hb3⟩:=hfr (e▸hk);exact⟨b,hb1,hb3⟩
     ·rw[if_neg e]
      obtain⟨b,hb1,hb2⟩:=hF.1 k hk (((hset k).1 hl').resolve_right e);exact⟨b,hb1,by omega⟩
    ·by_cases e1:F1=i
     ·have e2:¬ F2=i:=fun e2=>h12 (e1.trans e2.symm)
      rw[if_pos e1,if_neg e2];obtain⟨b,hb1,hb2,_⟩:=hfr (.inl e1.symm);obtain⟨b',hb1',hb2'⟩:=hF.1 F2 (.inr rfl) (((hset F2).1 hl2).resolve_right e2);rw[hb1,hb1'];intro e;have:=Option.some.inj e;omega
     ·rw[if_neg e1]
      have h1:=((hset F1).1 hl1).resolve_right e1;by_cases e2:F2=i
      ·rw[if_pos e2]
       obtain⟨b,hb1,hb2,_⟩:=hfr (.inr e2.symm);obtain⟨b',hb1',hb2'⟩:=hF.1 F1 (.inl rfl) h1;rw[hb1,hb1'];intro e;have:=Option.some.inj e;omega
      ·rw[if_neg e2]
       exact hF.2 h12 h1 (((hset F2).1 hl2).resolve_right e2)
   by_cases hin:i<n0
   ·obtain⟨c,q,hq,hc,hstep⟩:=hsteps i o (Nat.zero_le _) hin ho
    have hag:∀ t∈o.looksAt l.toArray,c.tmps[t]?=a.tmps[t]?:=by
     refine hc.agree hf fun t ht j x hx hd=>?_;rcases stat_look hst ho hx ht hd with rfl|⟨hj,hbj⟩|⟨hj,hbj⟩
     ·exact⟨fun h=>absurd h (Nat.lt_irrefl _),fun h=>absurd h hni⟩
     ·exact⟨fun _=>hbef j hbj (by omega),fun _=>hj⟩
     ·exact⟨fun h=>absurd h hj,fun h=>absurd (bef_in hsh h hbj) hni⟩
    refine wpOp_of_stepG ho (stat_sel hst ho) hag hstep hR (hJ i hni) (fun k q' hk hq' hb'=>hok k q' hq' (hbef k hb' (by omega))) (hrefl w) (hreflS i w) fun v w' hRw hRs hfr hokv=>?_;refine ih _ _ w' (fun j=>if j=i then v else σ j) (by simpa using hsz) ?_ (htrans _ _ _ hR hRw) (fun j hj=>hJst j i (fun e=>hj ((hset j).2 (.inr e.symm))) _ _ (hJ j (fun h=>hj ((hset j).2 (.inl h)))) hRs) (hnew i v w' hni hset (hsize _ _ hRw) hfr) ?_ ?_ ?_ ?_ ?_
    ·have hcl:unlisted l (listed.setIfInBounds i true)<unlisted l listed:=by
      refine count_lt (i:=i) (fun x hx=>?_) ?_ ?_ _ (by simpa using hlt)
      ·by_cases hxi:x=i
       ·subst hxi
        rw[h1];rfl
       ·have:i≠x:=fun e=>hxi e.symm
        rw[Array.getD_eq_getD_getElem?,Array.getElem?_setIfInBounds_ne this,← Array.getD_eq_getD_getElem?]at hx;exact hx
      ·rw[h1];rfl
      ·simp[Array.getD,hsz,hlt]
     omega
    ·intro j x hx hj e he hb'
     refine(hset _).2 (.inl ?_);rcases(hset j).1 hj with hj|rfl
     ·exact hsh j x hx hj e he hb'
     ·rw[ho]at hx
      cases hx
      exact hpre e he hb'
    ·intro j hj hjs
     rcases(hset j).1 hjs with hjs|rfl
     ·exact hend0 j hj hjs
     ·omega
    ·intro j q' hq'
     show fits q' (if j=i then v else σ j)
     split
     ·rename_i hj
      subst hj;rw[hq]at hq';cases hq'
      cases q with
      | inl u=>exact hokv
      | inr p=>trivial
     ·exact hfit j q' hq'
    ·intro j q' hq' hj
     show okPost q' (if j=i then v else σ j) w'
     split
     ·rename_i hji
      subst hji;rw[hq]at hq';cases hq'
      exact hokv
     ·rename_i hji
      have hold:=hok j q' hq' (((hset j).1 hj).resolve_right hji);cases q' with
      | inl u=>exact hold
      | inr p=>exact hstab j p hq' i (fun e=>hji e.symm) (by
        cases hb:bef l j i with
        | false=>rfl
        | true=>exact absurd (bef_in hsh (((hset j).1 hj).resolve_right hji) hb) hni) _ _ _ hold hRs
    ·exact hf.put hst ho v (fun j _ hne=>by simp[hne]) (by simp) hset
   ·rcases hends with ⟨hn,_⟩|⟨hn,hall,hT⟩
    ·omega
    ·have hal:∀ j,j<n0→listed.getD j false=true:=fun j hj=>hbef j (hall i (by omega) hlt j hj) (by omega)
     refine(hT _ _ (hfin hal) (fuel+1) listed hsz hun hsh (fun j=>⟨fun h=>?_,hal j⟩)).2 i hi;rcases Nat.lt_or_ge j n0 with h3|h3
     ·exact h3
     ·exact absurd h (hend0 j h3)
theorem wp_region_lexG_n{id:Nat}{Q':Exit→Act→World→Prop}{a:Act}(hm:P.follows .mixedOrders=true)(hst:stat l=true)(hrefl:∀ w,R w w)(hreflS:∀ i w,Rs i w w)(hsize:∀ a b,R a b→a.heap.size≤b.heap.size)(hJst:∀ j i,i≠j→∀ w w',J j w→Rs i w w'→J j w')(htrans:∀ a b c,R a b→R b c→R a c)(hdrew:R w0 w0.drew)(hJ0:∀ i,J i w0.drew)
  (qs:List Post) (n0:Nat) (hends:EndsG P l Q Q' n0) {os0:List Oper} (hos:os0.length=n0) (hosl:∀ k,k<os0.length→os0[k]?=l[k]?) (h:lexG P R w0 Rs J F1 F2 l Q qs os0 0 a undef undef (fun _ _=>True)) :
  (Code.region id l.toArray true).wp P Q' a w0:=by
 refine wp_region_any hm ?_;refine wpAny_lexG hst hrefl hreflS hsize hJst htrans n0 hends qs ((lexG_len _ _ _ _ _ _ _ h).trans hos) (fun k p hp j hj hb=>lexG_stab _ _ _ _ _ _ _ h k p hp j (by rw[Nat.zero_add];exact hj) (by rw[Nat.zero_add];exact hb)) hos hosl h _ _ _ _ (fun i=>match qs[i]? with|some (.inl u)=>u|_=>undef) (by simp) ?_ hdrew (fun i _=>hJ0 i) ⟨fun i _ hi=>by simp[Array.getD]at hi,fun _ hi=>by simp[Array.getD]at hi⟩ ?_ ?_ ?_ ?_ (Frm.start _ _ ?_)
 ·refine Nat.le_trans List.countP_le_length ?_
  simp
 ·intro i o ho hi
  simp[Array.getD]at hi
 ·intro i _ hi
  simp[Array.getD]at hi
 ·intro i q hq
  simp only[hq];cases q<;>simp[fits]
 ·intro i q hq hi
  simp[Array.getD]at hi
 ·intro i hi
  simp[Array.getD]at hi
theorem wp_region_lexG{id:Nat}{Q':Exit→Act→World→Prop}{a:Act}(hm:P.follows .mixedOrders=true)(hst:stat l=true)(hrefl:∀ w,R w w)(hreflS:∀ i w,Rs i w w)(hsize:∀ a b,R a b→a.heap.size≤b.heap.size)(hJst:∀ j i,i≠j→∀ w w',J j w→Rs i w w'→J j w')(htrans:∀ a b c,R a b→R b c→R a c)(hdrew:R w0 w0.drew)(hJ0:∀ i,J i w0.drew)
  (qs:List Post) (h:lexG P R w0 Rs J F1 F2 l (fun a w=>Q' .normal a w) qs l 0 a undef undef (fun _ _=>True)) :
  (Code.region id l.toArray true).wp P Q' a w0 :=
 wp_region_lexG_n hm hst hrefl hreflS hsize hJst htrans hdrew hJ0 qs l.length (.inl ⟨rfl,fun _ _ h=>h⟩) rfl (fun _ _=>rfl) h
theorem wp_region_lexG_tails{id:Nat}{Q':Exit→Act→World→Prop}{a:Act}(n:Nat)(hlen:n<l.length)(hall:((List.range l.length).all fun i=>decide (i<n) || (List.range i).all (fun j=>bef l i j))=true)(hm:P.follows .mixedOrders=true)(hst:stat l=true)(hrefl:∀ w,R w w)(hreflS:∀ i w,Rs i w w)(hsize:∀ a b,R a b→a.heap.size≤b.heap.size)(hJst:∀ j i,i≠j→∀ w w',J j w→Rs i w w'→J j w')(htrans:∀ a b c,R a b→R b c→R a c)(hdrew:R w0 w0.drew)(hJ0:∀ i,J i w0.drew)
  (qs:List Post) (h:lexG P R w0 Rs J F1 F2 l (fun a w=>wpList P l.toArray Q' (l.drop n) a w) qs (l.take n) 0 a undef undef (fun _ _=>True)) :
  (Code.region id l.toArray true).wp P Q' a w0:=by
 have hbf:∀ i,n≤i→i<l.length→∀ j,j<i→bef l i j=true:=fun i hi hl j hj=>by
  rw[List.all_eq_true]at hall;have:=hall i (by simpa using hl);rw[Bool.or_eq_true]at this;rcases this with h|h
  ·have:=of_decide_eq_true h;omega
  ·rw[List.all_eq_true]at h
   exact h j (by simpa using hj)
 refine wp_region_lexG_n hm hst hrefl hreflS hsize hJst htrans hdrew hJ0 qs n (.inr ⟨hlen,fun i hi hl j hj=>hbf i hi hl j (by omega),fun a w h fuel listed hsz hun hsh hls=>wpAny_tail hst fuel n listed a w (by omega) hbf hsz hun hsh hls (wpList_W _ n a w rfl h)⟩) (by simp;omega) (fun k hk=>?_) h;rw[List.getElem?_take,if_pos (by simp at hk;omega)]
end
section
variable {P:Program} {R:World→World→Prop} {w0:World} {Rs:Nat→World→World→Prop} {J:Nat→World→Prop} {F1 F2:Nat} {l:List Oper} {Q:Act→World→Prop}
variable {o:Oper} {os:List Oper} {qs:List Post} {i:Nat} {a:Act} {u1 u2:Value} {Φ:(Nat→Bool)→World→Prop}
theorem lexG_nil(h:∀ w,R w0 w→apart2 F1 F2 i u1 u2→Φ (fun _=>true) w→Q a w):lexG P R w0 Rs J F1 F2 l Q [] [] i a u1 u2 Φ:=h
theorem lexG_ex{u:Value}(hF1:i≠F1)(hF2:i≠F2)(hrefl:∀ w,R w w)(hreflS:∀ i w,Rs i w w)(hw:Region.wanted o (yielded l.toArray a.tmps)=true)(hrun:∀ w,R w0 w→J i w→Φ (bef l i) w→(execOp a.eval o).run P w = .ok (.value u) w)
  (h:lexG P R w0 Rs J F1 F2 l Q qs os (i+1) (a.put o.dst u) (if i=F1 then u else u1) (if i=F2 then u else u2) Φ):lexG P R w0 Rs J F1 F2 l Q (.inl u::qs) (o::os) i a u1 u2 Φ:=by
 refine⟨?_,h⟩;rw[if_pos hw];intro w hR hJ hΦ;rw[hrun w hR hJ hΦ];exact⟨⟨hrefl w,hreflS i w,fun e=>by rcases e with e|e;exact absurd e hF1;exact absurd e hF2⟩,rfl⟩
theorem lexG_skip(hF1:i≠F1)(hF2:i≠F2)(hw:Region.wanted o (yielded l.toArray a.tmps)=false)(h:lexG P R w0 Rs J F1 F2 l Q qs os (i+1) (a.put o.dst undef) (if i=F1 then undef else u1) (if i=F2 then undef else u2) Φ):lexG P R w0 Rs J F1 F2 l Q (.inl undef::qs) (o::os) i a u1 u2 Φ:=by
 refine⟨?_,h⟩;rw[if_neg (by rw[hw];simp)]
 exact⟨rfl,hF1,hF2⟩
theorem lexG_new{p:Value→World→Prop}(hF1:i≠F1)(hF2:i≠F2)(hst:∀ j,j≠i→∀ v w w',p v w→Rs j w w'→p v w')(hw:Region.wanted o (yielded l.toArray a.tmps)=true)(hrun:∀ w,R w0 w→J i w→Φ (bef l i) w→∃ u w',(execOp a.eval o).run P w = .ok (.value u) w'∧R w w'∧Rs i w w'∧p u w')
  (h:∀ v,lexG P R w0 Rs J F1 F2 l Q qs os (i+1) (a.put o.dst v) (if i=F1 then v else u1) (if i=F2 then v else u2) (fun d w=>(d i=true→p v w)∧Φ d w)):lexG P R w0 Rs J F1 F2 l Q (.inr p::qs) (o::os) i a u1 u2 Φ:=by
 refine⟨?_,fun j hj _=>hst j hj,h⟩;rw[if_pos hw];intro w hR hJ hΦ;obtain⟨u,w',hu,hRw,hRs,hp⟩:=hrun w hR hJ hΦ;rw[hu];exact⟨⟨hRw,hRs,fun e=>by rcases e with e|e;exact absurd e hF1;exact absurd e hF2⟩,hp⟩
theorem lexG_newO{p:Value→World→Prop}(hF1:i≠F1)(hF2:i≠F2)(hst:∀ j,j≠i→bef l i j=false→∀ v w w',p v w→Rs j w w'→p v w')(hw:Region.wanted o (yielded l.toArray a.tmps)=true)(hrun:∀ w,R w0 w→J i w→Φ (bef l i) w→∃ u w',(execOp a.eval o).run P w = .ok (.value u) w'∧R w w'∧Rs i w w'∧p u w')
  (h:∀ v,lexG P R w0 Rs J F1 F2 l Q qs os (i+1) (a.put o.dst v) (if i=F1 then v else u1) (if i=F2 then v else u2) (fun d w=>(d i=true→p v w)∧Φ d w)):lexG P R w0 Rs J F1 F2 l Q (.inr p::qs) (o::os) i a u1 u2 Φ:=by
 refine⟨?_,hst,h⟩;rw[if_pos hw];intro w hR hJ hΦ;obtain⟨u,w',hu,hRw,hRs,hp⟩:=hrun w hR hJ hΦ;rw[hu];exact⟨⟨hRw,hRs,fun e=>by rcases e with e|e;exact absurd e hF1;exact absurd e hF2⟩,hp⟩
theorem lexG_call{p:Value→World→Prop}(hF1:i≠F1)(hF2:i≠F2){f:FuncId}{args:Array Value}(hst:∀ j,j≠i→∀ v w w',p v w→Rs j w w'→p v w')(hw:Region.wanted o (yielded l.toArray a.tmps)=true)
  (hrun:∀ w,(execOp a.eval o).run P w = .ok (.enter f args) w) (hcall:∀ w,R w0 w→J i w→Φ (bef l i) w→Calls P f args w fun e w'=>∃ v,e = .returned v∧R w w'∧Rs i w w'∧p v w')
  (h:∀ v,lexG P R w0 Rs J F1 F2 l Q qs os (i+1) (a.put o.dst v) (if i=F1 then v else u1) (if i=F2 then v else u2) (fun d w=>(d i=true→p v w)∧Φ d w)):lexG P R w0 Rs J F1 F2 l Q (.inr p::qs) (o::os) i a u1 u2 Φ:=by
 refine⟨?_,fun j hj _=>hst j hj,h⟩;rw[if_pos hw];intro w hR hJ hΦ;rw[hrun w];exact(hcall w hR hJ hΦ).mono fun e w' ⟨v,hv,h1,h2,h3⟩=>⟨v,hv,⟨h1,h2,fun e=>by rcases e with e|e;exact absurd e hF1;exact absurd e hF2⟩,h3⟩
theorem lexG_callx{u:Value}(hF1:i≠F1)(hF2:i≠F2){f:FuncId}{args:Array Value}(hw:Region.wanted o (yielded l.toArray a.tmps)=true)
  (hrun:∀ w,(execOp a.eval o).run P w = .ok (.enter f args) w) (hcall:∀ w,R w0 w→J i w→Φ (bef l i) w→Calls P f args w fun e w'=>e = .returned u∧R w w'∧Rs i w w')
  (h:lexG P R w0 Rs J F1 F2 l Q qs os (i+1) (a.put o.dst u) (if i=F1 then u else u1) (if i=F2 then u else u2) Φ):lexG P R w0 Rs J F1 F2 l Q (.inl u::qs) (o::os) i a u1 u2 Φ:=by
 refine⟨?_,h⟩;rw[if_pos hw];intro w hR hJ hΦ;rw[hrun w];exact(hcall w hR hJ hΦ).mono fun e w' h=>⟨u,h.1,⟨h.2.1,h.2.2,fun e=>by rcases e with e|e;exact absurd e hF1;exact absurd e hF2⟩,rfl⟩
end
section
variable {P:Program} {R:World→World→Prop} {w0:World} {Rs:Nat→World→World→Prop} {J:Nat→World→Prop} {F1 F2:Nat} {l:List Oper} {Q:Act→World→Prop} {o:Oper} {os:List Oper} {qs:List Post} {i:Nat} {a a2:Act} {u1 u2:Value} {Φ:(Nat→Bool)→World→Prop}
theorem lxG{F:World→Prop}{u:Value}(f:∀ w,R w0 w→J i w→Φ (bef l i) w→F w)(h:lexG P R w0 Rs J F1 F2 l Q qs os (i+1) a2 (if i=F1 then u else u1) (if i=F2 then u else u2) Φ)(h1:i≠F1:=by decide)(h2:i≠F2:=by decide)(hr:∀ w,R w w:=by first|exact oR.refl _ _|exact gR.refl _|exact zR.refl|exact yR.refl _ _ _|exact fun w=>mC.of_ext _ _ _ _ (Ext.refl w))(hs:∀ i w,Rs i w w:=by first|exact oRs.refl _ _ _|exact gRs.refl _ _|exact fun _=>zR.refl|exact yRs.refl _ _ _|exact fun _ w=>mC.of_ext _ _ _ _ (Ext.refl w))(hw:Region.wanted o (yielded l.toArray a.tmps)=true:=by rfl)
 (hrun:(∀ w,R w0 w→J i w→Φ (bef l i) w→F w)→∀ w,R w0 w→J i w→Φ (bef l i) w→(execOp a.eval o).run P w = .ok (.value u) w:=by intro F W hR hJ hΦ;have dd:=F W hR hJ hΦ;clear F;go_simp;first|done|with_reducible rfl) (ha:a.put o.dst u=a2:=by simp only[pu];rfl):lexG P R w0 Rs J F1 F2 l Q (.inl u::qs) (o::os) i a u1 u2 Φ:=lexG_ex h1 h2 hr hs hw (hrun f) (ha▸h)
theorem wrG{id:Nat}{Q':Exit→Act→World→Prop}{a:Act}(R:World→World→Prop)(Rs:Nat→World→World→Prop)(J:Nat→World→Prop)(hJ0:∀ i,J i w0.drew)(qs:List Post)(h:lexG P R w0 Rs J 99 99 l (fun a w=>Q' .normal a w) qs l 0 a undef undef (fun _ _=>True))(hm:P.follows .mixedOrders=true:=by kernel_rfl)(hst:stat l=true:=by kernel_rfl)(hrefl:∀ w,R w w:=by first|exact oR.refl _ _|exact gR.refl _|exact zR.refl|exact yR.refl _ _ _|exact fun w=>mC.of_ext _ _ _ _ (Ext.refl w))(hreflS:∀ i w,Rs i w w:=by first|exact oRs.refl _ _ _|exact gRs.refl _ _|exact fun _=>zR.refl|exact yRs.refl _ _ _|exact fun _ w=>mC.of_ext _ _ _ _ (Ext.refl w))(hsize:∀ a b,R a b→a.heap.size≤b.heap.size:=by first|exact oR.sz _ _|exact gR.sz _|exact yR.sz _ _ _|exact fun _ _ h=>h.1.size)(hJst:∀ j i,i≠j→∀ w w',J j w→Rs i w w'→J j w':=by first|exact oJ.stab|exact gJs.stab|exact gJ.stab _ _ _ _ _ _ _|exact gJj.stab|exact yJ.stab|exact fun _ _ _ _ _ _ _=>trivial)(htrans:∀ a b c,R a b→R b c→R a c:=by first|exact oR.trans _ _|exact gR.trans _|exact yR.trans _ _ _|exact fun _ _ _=>zR.trans|exact fun _ _ _=>mC.trans)(hdrew:R w0 w0.drew:=by first|exact oR.drew _ _ _|exact gR.drew _ _|exact yR.drew _ _ _ _|exact zR.of_ext (Ext.drew _)|exact mC.of_ext _ _ _ _ (Ext.drew _)):(Code.region id l.toArray true).wp P Q' a w0:=wp_region_lexG hm hst hrefl hreflS hsize hJst htrans hdrew hJ0 qs h
theorem wrH{id:Nat}{Q':Exit→Act→World→Prop}{a:Act}(n:Nat)(R:World→World→Prop)(Rs:Nat→World→World→Prop)(J:Nat→World→Prop)(hJ0:∀ i,J i w0.drew)(qs:List Post)(h:lexG P R w0 Rs J 99 99 l (fun a w=>wpList P l.toArray Q' (l.drop n) a w) qs (l.take n) 0 a undef undef (fun _ _=>True))(hlen:n<l.length:=by decide)(hall:((List.range l.length).all fun i=>decide (i<n) || (List.range i).all (fun j=>bef l i j))=true:=by kernel_rfl)(hm:P.follows .mixedOrders=true:=by kernel_rfl)(hst:stat l=true:=by kernel_rfl)(hrefl:∀ w,R w w:=by first|exact oR.refl _ _|exact gR.refl _|exact zR.refl|exact yR.refl _ _ _|exact fun w=>mC.of_ext _ _ _ _ (Ext.refl w))(hreflS:∀ i w,Rs i w w:=by first|exact oRs.refl _ _ _|exact gRs.refl _ _|exact fun _=>zR.refl|exact yRs.refl _ _ _|exact fun _ w=>mC.of_ext _ _ _ _ (Ext.refl w))(hsize:∀ a b,R a b→a.heap.size≤b.heap.size:=by first|exact oR.sz _ _|exact gR.sz _|exact yR.sz _ _ _|exact fun _ _ h=>h.1.size)(hJst:∀ j i,i≠j→∀ w w',J j w→Rs i w w'→J j w':=by first|exact oJ.stab|exact gJs.stab|exact gJ.stab _ _ _ _ _ _ _|exact gJj.stab|exact yJ.stab|exact fun _ _ _ _ _ _ _=>trivial)(htrans:∀ a b c,R a b→R b c→R a c:=by first|exact oR.trans _ _|exact gR.trans _|exact yR.trans _ _ _|exact fun _ _ _=>zR.trans|exact fun _ _ _=>mC.trans)(hdrew:R w0 w0.drew:=by first|exact oR.drew _ _ _|exact gR.drew _ _|exact yR.drew _ _ _ _|exact zR.of_ext (Ext.drew _)|exact mC.of_ext _ _ _ _ (Ext.drew _)):(Code.region id l.toArray true).wp P Q' a w0:=wp_region_lexG_tails n hlen hall hm hst hrefl hreflS hsize hJst htrans hdrew hJ0 qs h
end
theorem exec_append_to{P:Program}(w:World){o:Oper}{a:Act}(s x:Operand)(t:TypeId)
  (ho:o.op = .call {callee:=.builtin .append,args:=#[s,x],argTypes:=#[t,t]})
  (base:Nat) (e:TypeId) (i:TypeInfo) (z:Value) (size bytes:Nat) (ht:P.underlying t=some (.slice e)) (hi:P.info? e=some i) (hz:i.zero=some z)
  (hsize:i.size=size) (hby:i.bytes=bytes) (hzs:z.cells.size=size) (hsz:0<size)
  (A:Option Addr) (n c:Nat) (xs:List Value) (hs:a.eval s = .slice A n c) (hown:Own w base e size A n c xs)
  (A':Option Addr) (m c':Nat) (news:List Value) (hx:a.eval x = .slice A' m c') (hr:Rd w size A' m c' news) (h1:∀ u∈news,u.oneCell'=true)
  (h63:n+m≤maxLen) (hbytes:(n+m)*bytes≤140737488355328) (hbase:base≤w.heap.size) :
  ∃ u w',(execOp a.eval o).run P w = .ok (.value u) w'∧w.grownBy w' (blk A)∧∃ B d,u = .slice B (n+m) d∧Own w' base e size B (n+m) d (xs++news)∧(blk B=blk A∨blk B=some w.heap.size):=by
 obtain⟨B,d,w',hr2,h2,h3,h4⟩:=run_append_to (P:=P) w base t o.type e i z size bytes ht hi hz hsize hby hzs hsz A n c xs hown A' m c' news hr h1 h63 hbytes hbase;refine⟨.slice B (n+m) d,w',?_,h3,B,d,rfl,h2,h4⟩;unfold execOp;simp only[ho,resolve,invoke,builtin,Sem.run_bind,Sem.run_pure,Result.andThen_ok,List.map_toArray,List.map_cons,List.map_nil,hs,hx,hr2]
def gR(C:Option Addr)(w w':World):Prop:=w.grownBy w' (blk C)
def gRs(k:Nat)(C:Option Addr)(j:Nat)(w w':World):Prop:=(j=k∧w.grownBy w' (blk C))∨Ext w w'
def gJ(k base:Nat)(e:TypeId)(C:Option Addr)(n c:Nat)(xs:List Value)(j:Nat)(w:World):Prop:=j=k→Own w base e 1 C n c xs
theorem gR.refl(C:Option Addr):∀ w,gR C w w:=fun w=>World.grownBy.refl w _
theorem gR.trans(C:Option Addr):∀ a b c,gR C a b→gR C b c→gR C a c:=fun _ _ _=>grown_trans
theorem gR.sz(C:Option Addr):∀ a b,gR C a b→a.heap.size≤b.heap.size:=fun _ _ h=>World.grownBy.size h
theorem gR.size{C:Option Addr}{w w':World}(h:gR C w w'):w.heap.size≤w'.heap.size:=World.grownBy.size h
theorem gR.cell{C:Option Addr}{w w':World}(h:gR C w w'){p:Addr}{v:Value}(hc:w.cell? p=some v)(hne:blk C≠some p.block):w'.cell? p=some v:=World.grownBy.cell h hc hne.symm
theorem gR.drew(C:Option Addr)(w:World):gR C w w.drew:=(Ext.drew w).grownBy _
theorem gRs.refl(k:Nat)(C:Option Addr):∀ i w,gRs k C i w w:=fun _ w=>.inr (Ext.refl w)
theorem gJ.stab(k base:Nat)(e:TypeId)(C:Option Addr)(n c:Nat)(xs:List Value):∀ j i,i≠j→∀ w w',gJ k base e C n c xs j w→gRs k C i w w'→gJ k base e C n c xs j w':=by
 intro j i hij w w' hJ hR hjk;rcases hR with ⟨h,_⟩|h
 ·exact absurd (h.trans hjk.symm) hij
 ·exact(hJ hjk).ext h
theorem gJ.start{k base:Nat}{e:TypeId}{C:Option Addr}{n c:Nat}{xs:List Value}{w:World}(h:Own w base e 1 C n c xs):∀ i,gJ k base e C n c xs i w.drew:=fun _ _=>h.ext (Ext.drew w)
def SlP(base:Nat)(e:TypeId)(xs:List Value)(v:Value)(w:World):Prop:=∃ B m d,v = .slice B m d∧Own w base e 1 B m d xs
theorem SlP.stab{base:Nat}{e:TypeId}{xs:List Value}{k i:Nat}{C:Option Addr}(hC:∀ g,blk C=some g→g<base):∀ j,j≠i→∀ v w w',SlP base e xs v w→gRs k C j w w'→SlP base e xs v w':=by
 rintro j _ v w w' ⟨B,m,d,hv,h⟩ hR;refine⟨B,m,d,hv,?_⟩;rcases hR with ⟨_,hg⟩|hg
 ·refine h.kept hg ?_
  rcases hb:blk B with _|g
  ·exact .inl rfl
  ·refine .inr fun e=>?_
   have h1:=h.blk_ge g hb;have h2:=hC g e.symm;omega
 ·exact h.ext hg
def Stab(tC:Nat)(P:Value→World→Tg→Prop):Prop:=∀ v w T w' T',P v w T→Turn (· = tC) w T w' T'→P v w' T'
def FrP(T:Tg)(m:Nat)(P:Value→World→Tg→Prop)(v:Value)(w:World):Prop:=∃ T',(∀ k,k<m→T' k=T k)∧Unborn w T'∧P v w T'
def gJs(k:Nat)(e:TypeId)(size:Nat)(C:Option Addr)(n c:Nat)(xs:List Value)(j:Nat)(w:World):Prop:=j=k→Own w 0 e size C n c xs
theorem gJs.stab{k:Nat}{e:TypeId}{size:Nat}{C:Option Addr}{n c:Nat}{xs:List Value}:∀ j i,i≠j→∀ w w',gJs k e size C n c xs j w→gRs k C i w w'→gJs k e size C n c xs j w':=by
 intro j i hij w w' hJ hR hjk;rcases hR with ⟨h,_⟩|h
 ·exact absurd (h.trans hjk.symm) hij
 ·exact(hJ hjk).ext h
theorem gJs.start{k:Nat}{e:TypeId}{size:Nat}{C:Option Addr}{n c:Nat}{xs:List Value}{w:World}(h:Own w 0 e size C n c xs):∀ i,gJs k e size C n c xs i w.drew:=fun _ _=>h.ext (Ext.drew w)
def BuiltP(T:Tg)(m:Nat)(P:Value→World→Tg→Prop)(e:TypeId)(v:Value)(w:World):Prop:=∃ u g,v = .slice (some ⟨g,0,none⟩) 1 1∧m≤g∧w.heap[g]?=some (.cells u.cells e (0,0))∧FrP T m P u w
def AppP(T:Tg)(m:Nat)(P:Value→World→Tg→Prop)(tC:Nat)(C:Option Addr)(e:TypeId)(size n:Nat)(xs:List Value)(v:Value)(w:World):Prop :=
 ∃ u T' B d,v = .slice B n d∧(∀ k,k<m→T' k=T k)∧Unborn w T'∧P u w T'∧Row w T' tC e size B n d (xs++u.cells.toList)∧(blk B=blk C∨∀ k,blk B=some k→m≤k)
section
variable {T:Tg} {m:Nat} {P:Value→World→Tg→Prop} {k tC:Nat} {C:Option Addr} {e:TypeId} {size n c:Nat} {xs:List Value} {u v:Value} {w w' w0:World}
theorem FrP.stab(hP:Stab tC P)(hC:∀ g,blk C=some g→g<m∧T g=tC)(i:Nat):∀ j,j≠i→∀ v w w',FrP T m P v w→gRs k C j w w'→FrP T m P v w':=by
 rintro j _ v w w' ⟨T',h1,h2,h3⟩ hR;rcases hR with ⟨_,hg⟩|hg
 ·have hT:Turn (· = tC) w T' w' T':=Turn.of_grown h2 hg fun g hg=>by rw[h1 g (hC g hg).1];exact(hC g hg).2
  exact⟨T',h1,hT.unborn,hP _ _ _ _ _ h3 hT⟩
 ·have hT:Turn (· = tC) w T' w' T':=Turn.of_ext _ h2 hg
  exact⟨T',h1,hT.unborn,hP _ _ _ _ _ h3 hT⟩
theorem BuiltP.stab(hP:Stab tC P)(hC:∀ g,blk C=some g→g<m∧T g=tC)(i:Nat):∀ j,j≠i→∀ v w w',BuiltP T m P e v w→gRs k C j w w'→BuiltP T m P e v w':=by
 rintro j hj v w w' ⟨u,g,h1,h2,h3,h4⟩ hR;refine⟨u,g,h1,h2,?_,FrP.stab hP hC i j hj u w w' h4 hR⟩;have hlt:=(Array.getElem?_eq_some_iff.1 h3).1;rcases hR with ⟨_,hg⟩|hg
 ·rw[hg.block g hlt (fun e=>by have:=(hC g e.symm).1;omega)];exact h3
 ·rw[hg.block g hlt];exact h3
theorem BuiltP.made(hP:Stab tC P)(hm:m≤w.heap.size)(h:FrP T m P u w):BuiltP T m P e (.slice (some ⟨w.heap.size,0,none⟩) 1 1) (w.alloc (.cells u.cells e)):=by
 obtain⟨T',h1,h2,h3⟩:=h;have hT:Turn (· = tC) w T' (w.alloc (.cells u.cells e)) T':=Turn.of_ext _ h2 (Ext.alloc _ _);exact⟨u,_,rfl,hm,heap_alloc_new w _,T',h1,hT.unborn,hP _ _ _ _ _ h3 hT⟩
theorem AppP.stab:∀ j,j≠k→∀ v w w',AppP T m P tC C e size n xs v w→Stab tC P→gRs k C j w w'→AppP T m P tC C e size n xs v w':=by
 rintro j hj v w w' ⟨u,T',B,d,h0,h1,h2,h3,h4,h5⟩ hP hR;rcases hR with ⟨h,_⟩|hg
 ·exact absurd h hj
 ·have hT:Turn (· = tC) w T' w' T':=Turn.of_ext _ h2 hg
  exact⟨u,T',B,d,h0,h1,hT.unborn,hP _ _ _ _ _ h3 hT,h4.ext hg,h5⟩
theorem FrP.call{Pr:Program}{f:FuncId}{args:Array Value}(hu:Unborn w T)(hm:m≤w.heap.size)(h:Calls Pr f args w (Gives (fun _=>False) w T P)) :
  Calls Pr f args w fun e w'=>∃ v,e = .returned v∧gR C w w'∧gRs k C n w w'∧FrP T m P v w':=by
 refine h.mono ?_;rintro e w' ⟨v,rfl,T',hT,hP⟩;have he:Ext w w':=⟨hT.os,hT.tape,hT.output,hT.size,fun k hk=>hT.block k hk (fun h=>h)⟩;exact⟨v,rfl,he.grownBy _,.inr he,T',fun k hk=>hT.tag k (Nat.lt_of_lt_of_le hk hm),hT.unborn,hP⟩
theorem exec_append_call{Pr:Program}(w:World){o:Oper}{a:Act}(s x:Operand)(t:TypeId)
  (ho:o.op = .call {callee:=.builtin .append,args:=#[s,x],argTypes:=#[t,t]})
  (e:TypeId) (i:TypeInfo) (z:Value) (size bytes:Nat) (ht:Pr.underlying t=some (.slice e)) (hi:Pr.info? e=some i) (hz:i.zero=some z)
  (hsize:i.size=size) (hby:i.bytes=bytes) (hzs:z.cells.size=size) (hsz:0<size)
  (C:Option Addr) (n c:Nat) (xs:List Value) (hs:a.eval s = .slice C n c) (hown:Own w 0 e size C n c xs) (xv:Value)
  (hx:a.eval x=xv) (hb:BuiltP T m P e xv w) (hone:∀ u w T,P u w T→u.cells.toList.length=size∧∀ y∈u.cells.toList,y.oneCell'=true)
  (h63:n+1≤maxLen) (hbytes:(n+1)*bytes≤140737488355328) (hC:∀ g,blk C=some g→g<m∧T g=tC) (hP:Stab tC P) (hm:m≤w.heap.size) :
  ∃ v w',(execOp a.eval o).run Pr w = .ok (.value v) w'∧gR C w w'∧gRs k C k w w'∧AppP T m P tC C e size (n+1) xs v w':=by
 obtain⟨u,g,rfl,hg1,hg2,hF⟩:=hb;obtain⟨T',h2,h3,h4⟩:=hF;obtain⟨hcs,h1⟩:=hone _ _ _ h4;have hr:Rd w size (some ⟨g,0,none⟩) 1 1 u.cells.toList:=⟨by rw[hcs,Nat.one_mul],Nat.le_refl _,by unfold maxLen;omega,fun _=>⟨g,0,rfl,fun j y hy=>by rw[cell_of_row _ _ _ _ _ _ hg2];simpa using hy⟩⟩
 obtain⟨v,w',hrun,hgr,B,d,hv,ho',hw'⟩:=exec_append_to (P:=Pr) w s x t ho 0 e i z size bytes ht hi hz hsize hby hzs hsz C n c xs hs hown _ 1 1 u.cells.toList hx hr h1 h63 hbytes (Nat.zero_le _);have hRow:Row w T' tC e size C n c xs:=⟨hown,fun k hk=>by rw[h2 k (hC k hk).1];exact(hC k hk).2⟩;obtain⟨hT,hR⟩:=hRow.append h3 ho' hgr (Went.of hw');refine⟨v,w',hrun,hgr,.inl ⟨rfl,hgr⟩,u,_,B,d,hv,fun k hk=>?_,hT.unborn,hP _ _ _ _ _ h4 hT,hR,?_⟩;rotate_left
 ·rcases hw' with h|h
  ·exact .inl h
  ·exact .inr fun k hk=>by rw[h]at hk;cases hk;exact hm
 rw[hT.tag k (Nat.lt_of_lt_of_le hk hm)];exact h2 k hk
theorem AppP.fin(h:AppP T w0.heap.size P tC C e size n xs v w)(hR:gR C w0 w)(hC:∀ g,blk C=some g→g<w0.heap.size∧T g=tC):∃ u T' B d,v = .slice B n d∧Turn (· = tC) w0 T w T'∧P u w T'∧Row w T' tC e size B n d (xs++u.cells.toList)∧Went w0 C B:=by
 obtain⟨u,T',B,d,h0,h1,h2,h3,h4,h5⟩:=h;refine⟨u,T',B,d,h0,⟨hR.os,hR.tape,hR.output,hR.size,fun k hk hn=>hR.block k hk (fun e=>?_),h1,h2⟩,h3,h4,h5⟩;exact hn (hC k e.symm).2
theorem Turn.after{S S':Nat→Prop}{T T1 T2:Tg}{a b c:World}{row:Option Nat}(h:Turn S a T b T1)(hT:Turn S' b T1 c T2)(hg:b.grownBy c row)(hs:∀ g,row=some g→S (T1 g)∨a.heap.size≤g):Turn S a T c T2 :=
 have h1:=h.grown hg hs
 ⟨h1.os,h1.tape,h1.output,h1.size,h1.block,fun k hk=>(hT.tag k (Nat.lt_of_lt_of_le hk h.size)).trans (h.tag k hk),hT.unborn⟩
theorem Row.cond{A:Option Addr}(h:Row w T tC e size A n c xs):∀ g,blk A=some g→g<w.heap.size∧T g=tC:=fun g hg=>⟨h.lt hg,h.2 g hg⟩
end
def ptrV(b:Nat):Value:=.pointer (some ⟨b,0,none⟩)
structure QueueAt(w:World)(T:Tg)(t b:Nat)(ps:Nat→Nat)(ls:Lines):Prop where
 row:∃ A c,Has w T t b [.slice A ls.length c]∧Row w T (t+1) 319 1 A ls.length c ((List.range ls.length).map fun p=>ptrV (ps p))
 line:∀ p (h:p<ls.length),LineAt w T (t+2+2*p) (ps p) ls[p]
section
variable {w w':World} {T T':Tg} {t b:Nat} {ps:Nat→Nat} {ls:Lines}
theorem QueueAt.turn{S:Nat→Prop}(h:QueueAt w T t b ps ls)(hT:Turn S w T w' T')(h0:∀ k,k<2+2*ls.length→¬ S (t+k)):QueueAt w' T' t b ps ls:=by
 obtain⟨⟨A,c,h1,h2⟩,h3⟩:=h;refine⟨⟨A,c,h1.turn hT (h0 0 (by omega)),h2.turn hT (h0 1 (by omega))⟩,fun p hp=>(h3 p hp).turn hT ?_ ?_⟩
 ·have:=h0 (2+2*p) (by omega);rwa[← Nat.add_assoc]at this
 ·have:=h0 (2+2*p+1) (by omega);rwa[← Nat.add_assoc,← Nat.add_assoc]at this
theorem QueueAt.ext(h:QueueAt w T t b ps ls)(e:Ext w w'):QueueAt w' T t b ps ls:=by
 obtain⟨⟨A,c,h1,h2⟩,h3⟩:=h;exact⟨⟨A,c,h1.ext e,h2.ext e⟩,fun p hp=>(h3 p hp).ext e⟩
theorem range_map_get{α:Type}(n:Nat)(f:Nat→α){p:Nat}(h:p<n):((List.range n).map f)[p]?=some (f p):=by simp[h]
theorem QueueAt.at_(h:QueueAt w T t b ps ls):∃ A c,w.cell? ⟨b,0,none⟩=some (.slice A ls.length c)∧ls.length≤c∧c≤maxLen∧∀ p,p<ls.length→∃ g,A=some ⟨g,0,none⟩∧w.cell? ⟨g,p,none⟩=some (ptrV (ps p)):=by
 obtain⟨⟨A,c,h1,h2⟩,h3⟩:=h;refine⟨A,c,h1.cell rfl,h2.rd.2.1,h2.rd.2.2.1,fun p hp=>?_⟩;obtain⟨g,e,hc,_⟩:=h2.at_ (range_map_get ls.length (fun p=>ptrV (ps p)) hp);exact⟨g,e,hc⟩
theorem QueueAt.put(h:QueueAt w T t b ps ls){p:Nat}(hp:p<ls.length){l:List UInt8}(hT:Turn (In (t+2+2*p) 2) w T w' T')(hl:LineAt w' T' (t+2+2*p) (ps p) l):QueueAt w' T' t b ps (ls.set p l):=by
 obtain⟨⟨A,c,h1,h2⟩,h3⟩:=h;refine⟨⟨A,c,?_,?_⟩,fun q hq=>?_⟩
 ·rw[List.length_set];exact h1.turn hT (by unfold In;omega)
 ·rw[List.length_set];exact h2.turn hT (by unfold In;omega)
 ·rw[List.length_set]at hq
  rw[List.getElem_set];by_cases e:p=q
  ·subst e;rw[if_pos rfl];exact hl
  ·rw[if_neg e];exact(h3 q hq).turn hT (by unfold In;omega) (by unfold In;omega)
theorem queue_n(h:QueueAt w T t b ps ls):Calls prog 191 #[ptrV b] w fun e w'=>e = .returned (.int .i64 (ls.length:Nat))∧w'=w:=by
 obtain⟨A,c,c0,_,_,_⟩:=h.at_;clear h;unfold ptrV;go_enter func191,ntmps191;go_wp2_with fail;go_ret;exact⟨rfl,rfl⟩
theorem queue_line(h:QueueAt w T t b ps ls)(h8:ls.length≤8){p:Nat}(hp:p<ls.length):Calls prog 281 #[ptrV b,.int .i64 (p:Nat)] w fun e w'=>e = .returned (ptrV (ps p))∧w'=w:=by
 have H:=hqd (queue_n h);obtain⟨A,c,c0,hn,hm,hl⟩:=h.at_;obtain⟨g,rfl,c1⟩:=hl p hp;have hd:decide (ls.length≤p)=false:=decide_eq_false (by omega);have hd':decide ((ls.length:Int)≤(p:Int))=false:=decide_eq_false (by omega);clear h hl;unfold ptrV at *;go_enter func281,ntmps281;go_wp2_with fail;refine H.out.mono ?_;rintro e w1 ⟨rfl,rfl⟩;go_wp2_with fail;go_ret;exact⟨rfl,rfl⟩
def minTo(ls:Lines)(k:Nat):Nat:=(ls.take k).foldl (fun n x=>min n x.length) (ls.getD 0 []).length
theorem minTo_succ{k:Nat}(hk:k<ls.length):minTo ls (k+1)=min (minTo ls k) ls[k].length:=by
 unfold minTo;rw[List.take_add_one,List.getElem?_eq_getElem hk,List.foldl_append];rfl
theorem minTo_all(h0:0<ls.length):minTo ls ls.length=frontL ls:=by
 unfold minTo;rw[List.take_length];cases ls with
 | nil=>cases h0
 | cons x r=>simp[frontL]
theorem queue_front(h:QueueAt w T t b ps ls)(h8:ls.length≤8)(h0:0<ls.length)(hl:∀ l∈ls,l.length≤1000):Calls prog 170 #[ptrV b] w fun e w'=>e = .returned (.int .i64 (frontL ls:Nat))∧w'=w:=by
 have H:=hqd (queue_n h);obtain⟨A,c,c0,hn,hm,hat⟩:=h.at_;obtain⟨g,rfl,_⟩:=hat 0 h0;have hat':∀ p,p<ls.length→w.cell? ⟨g,p,none⟩=some (ptrV (ps p)):=fun p hp=>by
  obtain⟨g',e,hc⟩:=hat p hp;cases e
  exact hc
 have c1:=hat' 0 h0;have Hat:=hqd hat';have L0:=hqd (line_len (h.line 0 h0));have HL:=hqd fun p hp=>line_len (h.line p hp);have hall:=fun p (hp:p<ls.length)=>hl _ (List.getElem_mem hp);have Hall:=hqd hall;have hg0:(ls.getD 0 []).length=ls[0].length:=by simp[List.getD_eq_getElem?_getD,h0]
 have hl0:=hall 0 h0;have hz:(ls.length==0)=false:=by rw[beq_eq_false_iff_ne];omega
 have hz':((ls.length:Int)==0)=false:=by rw[beq_eq_false_iff_ne];omega
 clear h hl hat hat' hall;unfold ptrV at *;go_enter func170,ntmps170;go_wp2_with fail;refine H.out.mono ?_;rintro e w1 ⟨rfl,rfl⟩;go_wp2_with fail;refine L0.out.mono ?_;rintro e w1 ⟨rfl,rfl⟩;go_wp2_with fail;go_loop [3,21] (fun nv iv=>∃ k:Nat,nv = .int .i64 (minTo ls k:Nat)∧iv = .int .i64 (k:Nat)∧k≤ls.length) (fun _ iv=>ls.length-(intOf iv).toNat)
 case atStart=>exact⟨0,by rw[← hg0];rfl,rfl,Nat.zero_le _⟩
 case round =>
  obtain⟨k,rfl,rfl,hk⟩:=hrel;by_cases hkn:k<ls.length
  ·have c2:=Hat.out k hkn
   have hm:=minTo_succ hkn;obtain⟨a',ha'⟩:∃ a',minTo ls (k+1)=a':=⟨_,rfl⟩;rw[ha']at hm;have Ha':=hqd ha';have Hk:=hqd (HL.out k hkn);have hlk:=Hall.out k hkn;generalize minTo ls k=a at *;generalize ls[k].length=lk at *;have hd1:decide (k<ls.length)=true:=decide_eq_true hkn;clear ha';have hcase:(a≤lk∧a'=a)∨(lk<a∧a'=lk):=by omega
   clear hm;rcases hcase with ⟨hle,rfl⟩|⟨hle,rfl⟩
   all_goals
    go_wp2_with fail;refine Hk.out.mono ?_;rintro e w1 ⟨rfl,rfl⟩;go_wp2_with fail;go_round
    case rel=>exact⟨k+1,by rw[Ha'.out],by go_num,by omega⟩
    case measure=>simp[intOf];omega
  ·obtain rfl:k=ls.length:=by omega
   rw[minTo_all h0];go_wp2_with fail;go_ret;exact⟨rfl,rfl⟩
theorem queue_joint(h:QueueAt w T t b ps ls)(h8:ls.length≤8)(h0:0<ls.length)(hl:∀ l∈ls,l.length≤1000){f:Nat}(hf:f<frontL ls):Calls prog 171 #[ptrV b,.int .i64 (f:Nat)] w fun e w'=>∃ B d,e = .returned (.tuple #[.slice B ls.length d,.bool true])∧Own w' w.heap.size 5 1 B ls.length d (bcs (jointL ls f))∧Ext w w':=by
 obtain⟨i0,hi,hz0,hz1,hz2⟩:=info_parts info_u8;have H:=hqd (queue_front h h8 h0 hl);obtain⟨A,c,c0,hn,hm,hat⟩:=h.at_;obtain⟨g,rfl,_⟩:=hat 0 h0;have hat':∀ p,p<ls.length→w.cell? ⟨g,p,none⟩=some (ptrV (ps p)):=fun p hp=>by
  obtain⟨g',e,hc⟩:=hat p hp;cases e
  exact hc
 have Hat:=hqd hat';have HL:=hqd fun p (hp:p<ls.length) (W:World) (e:Ext w W)=>line_at ((h.line p hp).ext e) (f:=f) (Nat.lt_of_lt_of_le hf (frontL_le _ _ (List.getElem_mem hp)));have hd:decide (frontL ls≤f)=false:=decide_eq_false (by omega);have hd':decide ((frontL ls:Int)≤(f:Int))=false:=decide_eq_false (by omega);clear h hl hat hat';have Hf:=hqd hf;unfold ptrV at *;go_enter func171,ntmps171;go_wp2_with fail;refine H.out.mono ?_;rintro e w1 ⟨rfl,rfl⟩;go_wp2_with fail;go_loopw [6,24] (fun v iv wr=>∃(k:Nat) (B:Option Addr) (d:Nat),v = .slice B k d∧iv = .int .i64 (k:Nat)∧k≤ls.length∧Own wr w1.heap.size 5 1 B k d (bcs ((jointL ls f).take k))∧Ext w1 wr) (fun _ iv _=>ls.length-(intOf iv).toNat)
 case atStart=>exact⟨0,none,0,rfl,rfl,Nat.zero_le _,Own.nil_ _ _ _ _,Ext.refl _⟩
 case round =>
  obtain⟨k,B,d,rfl,rfl,hk,hO,hE⟩:=hrel;by_cases hkn:k<ls.length
  ·have c2:=hE.cell (Hat.out k hkn)
   have c1:=hE.cell c0;have Hk:=hqd (HL.out k hkn wr hE);have hd1:decide (k<ls.length)=true:=decide_eq_true hkn;have hfk:f<ls[k].length:=Nat.lt_of_lt_of_le hf (frontL_le _ _ (List.getElem_mem hkn));have hsn:(jointL ls f).take k++[ls[k][f]]=(jointL ls f).take (k+1):=by
    unfold jointL;rw[List.take_add_one,List.getElem?_map,List.getElem?_eq_getElem hkn];simp[List.getD_eq_getElem?_getD,hfk]
   have Hsn:=hqd hsn;clear hsn;generalize hy:ls[k][f]=y at *;have hsz:=hE.size;go_wp2_with fail;refine Hk.out.mono ?_;rintro e w2 ⟨rfl,rfl⟩;go_wp2_with (at_builtin;refine wpList_append_new _ rfl _ _ 30 rfl w1.heap.size 5 i0 (.int .u8 0) 1 1 underlying30 hi hz0 hz1 hz2 rfl (by decide) B k d _ rfl hO 1 _ rfl rfl (by simp[Value.oneCell']) (by unfold maxLen;omega) (by omega) hE.size ?_;intro E Ed wy hoE hgE hwE);go_roundw
   case rel=>exact⟨k+1,E,Ed,by go_num,by go_num,by omega,by rw[← Hsn.out,bcs_append];exact hoE,Ext.own hE hgE hO.blk_ge⟩
   case measure=>simp[intOf];omega
  ·obtain rfl:k=ls.length:=by omega
   rw[List.take_of_length_le (by simp[jointL])]at hO;go_wp2_with fail;go_ret2
   exact⟨B,d,rfl,hO,hE⟩
end
theorem info_line:(prog.info? 319).map (fun i=>(i.zero,i.size,i.bytes))=some (some (.pointer none),1,8):=by kernel_rfl
theorem QueueAt.push{w w1:World}{T T1:Tg}{t b:Nat}{ps:Nat→Nat}{ls:Lines}{lb:Nat}{l:List UInt8}{E:Option Addr}{Ed:Nat}{A:Option Addr}{c:Nat}(hH:Has w T t b [.slice A ls.length c])(hL:∀ p (h:p<ls.length),LineAt w T (t+2+2*p) (ps p) ls[p])(hT1:Turn (· = t+1) w T w1 T1)(hl:LineAt w1 T1 (t+2+2*ls.length) lb l)
  (hRow:Row w1 T1 (t+1) 319 1 E (ls.length+1) Ed (((List.range ls.length).map fun p=>ptrV (ps p))++[ptrV lb])) :
  Has (w1.setCell ⟨b,0,none⟩ (.slice E (ls.length+1) Ed)) T1 t b [.slice E (ls.length+1) Ed]∧Row (w1.setCell ⟨b,0,none⟩ (.slice E (ls.length+1) Ed)) T1 (t+1) 319 1 E (ls.length+1) Ed ((List.range (ls.length+1)).map fun p=>ptrV (updF ps ls.length lb p))∧∀ p (h:p<(ls++[l]).length),LineAt (w1.setCell ⟨b,0,none⟩ (.slice E (ls.length+1) Ed)) T1 (t+2+2*p) (updF ps ls.length lb p) (ls++[l])[p]:=by
 have hH1:=hH.turn hT1 (by omega);obtain⟨hT2,hH2⟩:=hH1.put (S:=(· = t)) hT1.unborn 0 (.slice E (ls.length+1) Ed) rfl;refine⟨hH2,?_,fun p hp=>?_⟩
 ·refine(hRow.turn hT2 (by omega)).to ?_
  rw[List.range_succ,List.map_append,List.map_cons,List.map_nil,updF_same];congr 1
  apply List.map_congr_left;intro p hp;rw[updF_other];have:=List.mem_range.1 hp;omega
 ·rw[List.length_append,List.length_singleton]at hp
  by_cases e:p=ls.length
  ·subst e
   rw[updF_same,List.getElem_append_right (Nat.le_refl _)];simp only[Nat.sub_self,List.getElem_cons_zero];exact hl.turn hT2 (by omega) (by omega)
  ·rw[updF_other _ _ e,List.getElem_append_left (by omega)]
   exact((hL p (by omega)).turn hT1 (by omega) (by omega)).turn hT2 (by omega) (by omega)
def qnRel(w:World)(T:Tg)(t b d n:Nat)(iv:Value)(wr:World):Prop:=∃(k:Nat) (T':Tg) (ps:Nat→Nat) (A:Option Addr) (c:Nat) (ls:Lines),iv = .int .i64 (k:Nat)∧k≤n∧ls.length=k∧ls=List.replicate k (List.replicate d 0)∧Has wr T' t b [.slice A ls.length c]∧Row wr T' (t+1) 319 1 A ls.length c ((List.range ls.length).map fun p=>ptrV (ps p))∧(∀ p (h:p<ls.length),LineAt wr T' (t+2+2*p) (ps p) ls[p]) ∧
 Turn (fun _=>False) w T wr T'∧w.heap.size≤b∧(∀ g,blk A=some g→w.heap.size≤g)
theorem queue_new(w:World)(T:Tg)(hu:Unborn w T)(n d:Nat)(h2:2≤n)(h8:n≤8)(hd:d≤8)(t:Nat)(ht:0<t):Calls prog 167 #[.int .i64 (n:Nat),.int .i64 (d:Nat)] w (Gives (fun _=>False) w T fun v w' T'=>∃ b ps,v=ptrV b∧QueueAt w' T' t b ps (List.replicate n (List.replicate d 0))):=by
 obtain⟨i0,hi,hz0,hz1,hz2⟩:=info_parts info_line;obtain⟨hT0,hH0⟩:=Has.fresh hu [.slice none 0 0] 318 t;have HT0:=hqd hT0;have HH0:=hqd hH0;clear hT0 hH0;go_enter func167,ntmps167;go_wp2_with fail;go_loopw [11] (fun iv wr=>qnRel w T t w.heap.size d n iv wr) (fun iv _=>n-(intOf iv).toNat)
 case atStart=>exact⟨0,_,fun _=>0,none,0,[],rfl,Nat.zero_le _,rfl,rfl,HH0.out,Row.nil_ _ _ _ _ _,fun p h=>absurd h (by simp),HT0.out,Nat.le_refl _,fun g h=>by cases h⟩
 case round =>
  obtain⟨k,T0,ps,A,c,ls,rfl,hk,hlk,hls,hH,hRw,hL,hT,hwb,hwA⟩:=hrel;have hu0:=hT.unborn;by_cases hkn:k<n
  ·have hd1:decide (k<n)=true:=decide_eq_true hkn
   have hd1':decide ((k:Int)<(n:Int))=true:=decide_eq_true (by omega);have hlk8:ls.length≤7:=by omega
   have c0:=hH.cell (i:=0) rfl;have hne:=hH.ne_row hRw (by omega);have hPs:Stab (t+1) (fun v w T=>∃ lb,v = .pointer (some ⟨lb,0,none⟩)∧LineAt w T (t+2+2*ls.length) lb (List.replicate d 0)):=by
    rintro v w T w' T' ⟨lb,rfl,h⟩ hT;exact⟨lb,rfl,h.turn hT (by omega) (by omega)⟩
   have hone:∀(v:Value) (w:World) (T:Tg),(∃ lb,v = .pointer (some ⟨lb,0,none⟩)∧LineAt w T (t+2+2*ls.length) lb (List.replicate d 0))→v.cells.toList.length=1∧∀ y∈v.cells.toList,y.oneCell'=true:=by
    rintro v w T ⟨lb,rfl,_⟩;exact⟨rfl,by simp[Value.cells,Value.oneCell']⟩
   have HC:=fun W (hR:gR A wr W)=>line_new W T0 (fun k hk=>hu0 k (Nat.le_trans hR.size hk)) d hd (t+2+2*ls.length);have HH:=hqd hH;have HL:=hqd hL;have HT:=hqd hT;have Hlk:=hqd hlk;have Hls:=hqd hls;clear hH hL hT hlk hls;go_wp2_with fail;generalize hw0:wr=w0 at *;have hRowOwn:=(hRw).1;have hRowC:=(hRw).cond;apply wrH 11 (gR A) (gRs 8 A) (gJs 8 319 1 A ls.length c ((List.range ls.length).map fun p=>ptrV (ps p))) (gJs.start hRowOwn);simp only[tk];repeat apply lxG (fun _ h _ _=>h.cell c0 hne)
   apply lexG_call (p:=FrP T0 w0.heap.size (fun v w T=>∃ lb,v = .pointer (some ⟨lb,0,none⟩)∧LineAt w T (t+2+2*ls.length) lb (List.replicate d 0))) (by decide) (by decide) (FrP.stab hPs hRowC _)
   ·rfl
   ·intro W
    go_simp;exact⟨rfl,rfl⟩
   ·intro W hR hJ hΦ
    exact FrP.call (fun k hk=>hu0 k (Nat.le_trans hR.size hk)) hR.size (HC W hR)
   intro v1;simp only[pu];try ((repeat (apply lexG_ex (by decide) (by decide) (gR.refl _) (gRs.refl _ _);(· rfl);(· intro W hR hJ hΦ;go_simp;first|done|with_reducible rfl);simp only[pu])))
   apply lexG_new (p:=BuiltP T0 w0.heap.size (fun v w T=>∃ lb,v = .pointer (some ⟨lb,0,none⟩)∧LineAt w T (t+2+2*ls.length) lb (List.replicate d 0)) 319) (by decide) (by decide) (BuiltP.stab hPs hRowC _)
   ·rfl
   ·intro W hR hJ hΦ
    have hF:=hΦ.1 rfl;have hB:=BuiltP.made (e:=319) hPs hR.size hF;obtain⟨T9,hk9,hu9,hp9⟩:=hF;obtain⟨lb,rfl,hlb⟩:=hp9;refine⟨_,_,?_,(Ext.alloc _ _).grownBy _,.inr (Ext.alloc _ _),hB⟩;go_simp;first|done|rfl
   intro v2;simp only[pu];apply lexG_new (p:=AppP T0 w0.heap.size (fun v w T=>∃ lb,v = .pointer (some ⟨lb,0,none⟩)∧LineAt w T (t+2+2*ls.length) lb (List.replicate d 0)) (t+1) A 319 1 (ls.length+1) ((List.range ls.length).map fun p=>ptrV (ps p))) (by decide) (by decide) (fun j hj v w w9 h hR=>AppP.stab j hj v w w9 h hPs hR)
   ·rfl
   ·intro W hR hJ hΦ
    exact exec_append_call W _ _ 316 rfl 319 i0 (.pointer none) 1 8 underlying316 hi hz0 hz1 hz2 rfl (by decide) A ls.length c (((List.range ls.length).map fun p=>ptrV (ps p))) rfl (hJ rfl) v2 rfl (hΦ.1 rfl) hone (by unfold maxLen;omega) (by omega) hRowC hPs hR.size
   intro v3;simp only[pu];repeat apply lxG (fun _ h _ _=>h.cell c0 hne)
   refine lexG_nil ?_;intro W hR hap hΦ;obtain⟨u1,T1,E,Ed,rfl,hT1,hP1,hRow1,hWent⟩:=(hΦ.1 rfl).fin hR hRowC;clear hΦ hap;simp only[dk];have hH1:=HH.out.turn hT1 (by omega);have c0:=hH1.cell (i:=0) rfl;have f0:=hH1.free 0;obtain⟨lb,rfl,hlb⟩:=hP1;have hpush:=QueueAt.push HH.out HL.out hT1 hlb hRow1;have Hpush:=hqd hpush;have HT1:=hqd hT1;clear hpush hH1 hlb hRow1 hT1;go_wp2_with fail;go_roundw
   case rel =>
    obtain⟨p1,p2,p3⟩:=Hpush.out;have q1:=Turn.after HT.out HT1.out hR (fun g hg=>.inr (hwA g hg));have hl2:(ls++[List.replicate d 0]).length=ls.length+1:=by simp
    refine⟨k+1,T1,_,E,Ed,ls++[List.replicate d 0],by go_num,by omega,by rw[hl2,Hlk.out],?_,by rw[hl2];exact p1,by rw[hl2];exact p2,p3,q1.set _ _ (.inr hwb),hwb,fun g hg=>?_⟩
    ·rw[Hls.out];simp[List.replicate_succ']
    ·rcases hWent with h|h
     ·exact hwA g (h▸hg)
     ·have:=h g hg;have:=HT.out.size;omega
   case measure=>simp[intOf];omega
  ·obtain rfl:k=n:=by omega
   subst hls;simp only[List.length_replicate]at hH hRw;go_wp2_with fail;go_ret;exact⟨_,rfl,T0,hT,_,ps,rfl,⟨A,c,by rw[List.length_replicate];exact hH,by rw[List.length_replicate];exact hRw⟩,hL⟩
abbrev PostS:=Value ⊕ ((Nat→Value)→World→Prop)
def upd(σ:Nat→Value)(i:Nat)(v:Value):Nat→Value:=fun j=>if j=i then v else σ j
def okS(q:PostS)(σ:Nat→Value)(i:Nat)(w:World):Prop:=match q with|.inl u=>σ i=u|.inr p=>p σ w
def fitS(q:PostS)(v:Value):Prop:=match q with|.inl u=>v=u|.inr _=>True
theorem upd_ne{σ:Nat→Value}{i j:Nat}{v:Value}(h:j≠i):upd σ i v j=σ j:=if_neg h
theorem upd_eq{σ:Nat→Value}{i:Nat}{v:Value}:upd σ i v i=v:=if_pos rfl
def apS(F1 F2:Nat)(l:List Oper)(k j:Nat)(σ:Nat→Value):Prop :=
 F1≠F2→(F1=k∨bef l k F1=true∨(bef l j F1=true∧F1≠j))→(F2=k∨bef l k F2=true∨(bef l j F2=true∧F2≠j))→blkOf (σ F1)≠blkOf (σ F2)
def Keeps(Rs:Nat→(Nat→Value)→World→World→Prop)(F1 F2:Nat)(l:List Oper)(i:Nat)(p:(Nat→Value)→World→Prop):Prop :=
 (∀ j σ v w,j≠i→bef l i j=false→p σ w→p (upd σ j v) w) ∧
 ∀ j,j≠i→bef l i j=false→∀ σ w w',apS F1 F2 l i j σ→p σ w→Rs j σ w w'→p σ w'
section
variable (P:Program) (R:World→World→Prop) (w0:World) (Rs:Nat→(Nat→Value)→World→World→Prop) (J:Nat→World→Prop) (F1 F2:Nat) (l:List Oper) (Q:Act→World→Prop)
def StepS(σ:Nat→Value)(i:Nat)(o:Oper)(a:Act)(G:World→Prop)(q:PostS):Prop :=
 ∀ w,R w0 w→J i w→G w→yieldsW P (fun v w'=>(R w w'∧Rs i σ w w'∧Fresh F1 F2 i v w w')∧okS q (upd σ i v) i w') ((execOp a.eval o).run P w)
def lexS(σ:Nat→Value):List PostS→List Oper→Nat→Act→((Nat→Bool)→World→Prop)→Prop
 | [],[],i,a,Φ=>∀ w,R w0 w→apart2 F1 F2 i (σ F1) (σ F2)→Φ (fun _=>true) w→Q a w
 | q::qs,o::os,i,a,Φ =>
  (if Region.wanted o (yielded l.toArray a.tmps) then StepS P R w0 Rs J F1 F2 σ i o a (Φ (bef l i)) q else q = .inl undef∧i≠F1∧i≠F2) ∧
  (match q with
   | .inl u=>lexS σ qs os (i+1) (a.put o.dst u) Φ
   | .inr p=>Keeps Rs F1 F2 l i p∧lexS σ qs os (i+1) (a.put o.dst (σ i)) (fun d w=>(d i=true→p σ w)∧Φ d w))
 | _,_,_,_,_=>False
end
section
variable {P:Program} {R:World→World→Prop} {w0:World} {Rs:Nat→(Nat→Value)→World→World→Prop} {J:Nat→World→Prop} {F1 F2:Nat} {l:List Oper} {Q:Act→World→Prop}
theorem lexS_at(hst:stat l=true){a0:Act}{σ:Nat→Value}(n0:Nat)(hn0:n0≤l.length)(allq:List PostS)(hlq:allq.length=n0)(hfit:∀ i q,allq[i]?=some q→fitS q (σ i)) :
  ∀(qs:List PostS) (os:List Oper) (i:Nat) (a:Act) (Φ:(Nat→Bool)→World→Prop),i+os.length=n0→(∀ k,k<os.length→os[k]?=l[i+k]?)→(∀ k,qs[k]?=allq[i+k]?)→lexS P R w0 Rs J F1 F2 l Q σ qs os i a Φ→Frm l a0 (· < i) σ a →
   (∀ d w,(∀ j q,j<i→allq[j]?=some q→d j=true→okS q σ j w)→Φ d w) →
   (∀ j o,i≤j→j<n0→l[j]?=some o→∃ a q,allq[j]?=some q∧Frm l a0 (· < j) σ a ∧
    (if Region.wanted o (yielded l.toArray a.tmps) then StepS P R w0 Rs J F1 F2 σ j o a (fun w=>∀ k q,k<j→allq[k]?=some q→bef l j k=true→okS q σ k w) q else q = .inl undef∧j≠F1∧j≠F2)) ∧
   (∃ a,Frm l a0 (· < n0) σ a∧∀ w,R w0 w→apart2 F1 F2 n0 (σ F1) (σ F2)→(∀ j q,allq[j]?=some q→j<n0→okS q σ j w)→Q a w)
 | [],[],i,a,Φ,hin,hl,hq,h,hf,hΦ=>by
  have hi:i=n0:=by simpa using hin
  subst hi;refine⟨fun j o hj hj2 ho=>by omega,a,hf,fun w hw hap hall=>h w hw hap (hΦ _ _ fun j q hj hq2 _=>hall j q hq2 hj)⟩
 | [],_::_,_,_,_,_,_,_,h,_,_=>h.elim
 | _::_,[],_,_,_,_,_,_,h,_,_=>h.elim
 | q::qs,o::os,i,a,Φ,hin,hl,hq,h,hf,hΦ=>by
  simp only[List.length_cons]at hin hl;have ho:l[i]?=some o:=by simpa using (hl 0 (by omega)).symm
  have hq0:allq[i]?=some q:=by simpa using (hq 0).symm
  have hl':∀ k,k<os.length→os[k]?=l[i+1+k]?:=fun k hk=>by have:=hl (k+1) (by omega);simp only[List.getElem?_cons_succ]at this;rw[this];congr 1;omega
  have hq':∀ k,qs[k]?=allq[i+1+k]?:=fun k=>by have:=hq (k+1);simp only[List.getElem?_cons_succ]at this;rw[this];congr 1;omega
  have hput:∀ v,σ i=v→Frm l a0 (· < i+1) σ (a.put o.dst v):=fun v hv=>hf.put hst ho v (fun _ _ _=>rfl) hv (fun j=>by omega);obtain⟨hstep,hrest⟩:=h;have hfq:=hfit i q hq0;have key:(∀ j o,i+1≤j→j<n0→l[j]?=some o→∃ a q,allq[j]?=some q∧Frm l a0 (· < j) σ a ∧
    (if Region.wanted o (yielded l.toArray a.tmps) then StepS P R w0 Rs J F1 F2 σ j o a (fun w=>∀ k q,k<j→allq[k]?=some q→bef l j k=true→okS q σ k w) q else q = .inl undef∧j≠F1∧j≠F2)) ∧
   (∃ a,Frm l a0 (· < n0) σ a∧∀ w,R w0 w→apart2 F1 F2 n0 (σ F1) (σ F2)→(∀ j q,allq[j]?=some q→j<n0→okS q σ j w)→Q a w):=by
   cases q with
   | inl u=>exact lexS_at hst n0 hn0 allq hlq hfit qs os (i+1) _ Φ (by omega) hl' hq' hrest (hput u hfq) fun d w hall=>hΦ d w fun j q hj hq2 hd=>hall j q (by omega) hq2 hd
   | inr p =>
    refine lexS_at hst n0 hn0 allq hlq hfit qs os (i+1) _ _ (by omega) hl' hq' hrest.2 (hput _ rfl) fun d w hall=>⟨fun hd=>?_,hΦ d w fun j q hj hq2 hd=>hall j q (by omega) hq2 hd⟩;exact hall i _ (by omega) hq0 hd
  refine⟨fun j x hj hj2 hx=>?_,key.2⟩;rcases Nat.lt_or_ge i j with hlt|hge
  ·exact key.1 j x hlt hj2 hx
  ·obtain rfl:j=i:=by omega
   rw[ho]at hx;cases hx
   refine⟨a,q,hq0,hf,?_⟩;by_cases hw:Region.wanted o (yielded l.toArray a.tmps)=true
   ·rw[if_pos hw]at hstep ⊢
    intro w hR hJ hG;exact hstep w hR hJ (hΦ _ _ fun k q hk hq2 hb=>hG k q hk hq2 hb)
   ·rw[if_neg hw]at hstep ⊢
    exact hstep
theorem lexS_len{σ:Nat→Value}:∀(qs:List PostS) (os:List Oper) (i:Nat) (a:Act) (Φ:(Nat→Bool)→World→Prop),lexS P R w0 Rs J F1 F2 l Q σ qs os i a Φ→qs.length=os.length
 | [],[],_,_,_,_=>rfl
 | [],_::_,_,_,_,h=>h.elim
 | _::_,[],_,_,_,h=>h.elim
 | q::qs,o::os,i,a,Φ,h=>by
  have:=h.2;simp only[List.length_cons];cases q with
  | inl u=>rw[lexS_len qs os _ _ _ this]
  | inr p=>rw[lexS_len qs os _ _ _ this.2]
theorem lexS_stab{σ:Nat→Value}:∀(qs:List PostS) (os:List Oper) (i:Nat) (a:Act) (Φ:(Nat→Bool)→World→Prop),lexS P R w0 Rs J F1 F2 l Q σ qs os i a Φ→∀ k p,qs[k]?=some (.inr p)→Keeps Rs F1 F2 l (i+k) p
 | [],_,_,_,_,_,k,p,hp=>by simp at hp
 | _::_,[],_,_,_,h,_,_,_=>h.elim
 | q::qs,o::os,i,a,Φ,h,0,p,hp=>by
  have:=h.2;simp at hp
  subst hp;exact this.1
 | q::qs,o::os,i,a,Φ,h,k+1,p,hp=>by
  have:=h.2;simp only[List.getElem?_cons_succ]at hp;rw[show i+(k+1)=i+1+k by omega];cases q with
  | inl u=>exact lexS_stab qs os _ _ _ this k p hp
  | inr p'=>exact lexS_stab qs os _ _ _ this.2 k p hp
theorem wpOp_of_stepS{Q':Exit→Act→World→Prop}{σ:Nat→Value}{i:Nat}{o:Oper}{a b:Act}{w:World}{K:Act→World→Prop}{G:World→Prop}{q:PostS}(ho:l[i]?=some o)(hs:∀ cs b,o.op≠.select cs b)
  (hag:∀ t∈o.looksAt l.toArray,a.tmps[t]?=b.tmps[t]?)
  (h:if Region.wanted o (yielded l.toArray a.tmps) then StepS P R w0 Rs J F1 F2 σ i o a G q else q = .inl undef∧i≠F1∧i≠F2) (hR:R w0 w) (hJ:J i w) (hG:G w) (hrefl:R w w) (hreflS:Rs i σ w w)
  (hK:∀ v w',R w w'→Rs i σ w w'→Fresh F1 F2 i v w w'→okS q (upd σ i v) i w'→K (b.put o.dst v) w'):wpOp P l.toArray Q' i K b w:=by
 unfold wpOp;rw[show l.toArray[i]?=some o from by simpa using ho];simp only;rw[← wanted_same hag];split
 ·rename_i hw
  rw[if_pos hw]at h;have h1:=h w hR hJ hG;rw[execOp_same hs hag]at h1;exact .inl (wp_of_yields (fun v w' hv=>hK v w' hv.1.1 hv.1.2.1 hv.1.2.2 hv.2) h1)
 ·rename_i hw
  rw[if_neg (by simpa using hw)]at h;obtain⟨rfl,hf1,hf2⟩:=h;exact hK _ _ hrefl hreflS (fun e=>by rcases e with e|e;exact absurd e hf1;exact absurd e hf2) (upd_eq)
theorem wpAny_lexS{Q':Exit→Act→World→Prop}(hst:stat l=true)(hrefl:∀ w,R w w)(hreflS:∀ i σ w,Rs i σ w w)(hsize:∀ a b,R a b→a.heap.size≤b.heap.size)(hJst:∀ j i σ,i≠j→bef l i j=false→∀ w w',J j w→Rs i σ w w'→J j w')(htrans:∀ a b c,R a b→R b c→R a c)(n0:Nat)(hends:EndsG P l Q Q' n0)(allq:List PostS)(hlq:allq.length=n0)
  (hstab:∀ k p,allq[k]?=some (.inr p)→Keeps Rs F1 F2 l k p) {a0:Act} {os0:List Oper} (hos:os0.length=n0) (hosl:∀ k,k<os0.length→os0[k]?=l[k]?) (hlex:∀ σ,lexS P R w0 Rs J F1 F2 l Q σ allq os0 0 a0 (fun _ _=>True)) :
  ∀(fuel:Nat) (listed:Array Bool) (a:Act) (w:World) (σ:Nat→Value),listed.size=l.length→unlisted l listed≤fuel→R w0 w→(∀ i,¬ listed.getD i false=true→J i w)→((∀ i,i=F1∨i=F2→listed.getD i false=true→∃ b,blkOf (σ i)=some b∧b<w.heap.size)∧(F1≠F2→listed.getD F1 false=true→listed.getD F2 false=true→blkOf (σ F1)≠blkOf (σ F2)))→Shut l (fun i=>listed.getD i false=true)→(∀ i,n0≤i→¬ listed.getD i false=true) →
   (∀ i q,allq[i]?=some q→fitS q (σ i))→(∀ i q,allq[i]?=some q→listed.getD i false=true→okS q σ i w)→Frm l a0 (fun i=>listed.getD i false=true) σ a →
   wpAny P .any l.toArray Q' fuel listed a w:=by
 have hn0:n0≤l.length:=by rcases hends with h|h<;>omega
 intro fuel;induction fuel with
 | zero =>
  intro listed a w σ hsz hun hR hJ hF hsh hend0 hfit hok hf;have hz:unlisted l listed=0:=by omega
  have hall:∀ i,i<l.length→listed.getD i false=true:=by
   intro i hi;unfold unlisted at hz;rw[List.countP_eq_zero]at hz;have:=hz i (by simpa using hi);rw[← getD_tf (by omega)];simpa using this
  rcases hends with ⟨hn,hQ⟩|⟨hn,_,_⟩
  ·obtain⟨_,b,hb,hend⟩:=lexS_at hst n0 hn0 allq hlq hfit allq os0 0 a0 _ (by omega) (by simpa using hosl) (by simp) (hlex σ) (Frm.start a0 σ (by simp)) (fun _ _ _=>trivial)
   have hab:b=a:=by
    refine Frm.ext_ (S:=fun i=>listed.getD i false=true) (σ:=σ) ⟨hb.1,hb.2.1,fun t hx=>hb.2.2.1 t fun i o ho hi=>hx i o ho (hall i (by omega)),fun i o t ho hi hd hlt=>hb.2.2.2 i o t ho (by have:=(List.getElem?_eq_some_iff.1 ho).1;show i<n0;omega) hd hlt⟩ hf
   subst hab;exact⟨ready_nil hsz hall,hQ _ _ (hend w hR (fun h1 h2 h3=>hF.2 h3 (hall _ (by omega)) (hall _ (by omega))) fun j q hq hj=>hok j q hq (hall j (by omega)))⟩
  ·exact absurd (hall n0 (by omega)) (hend0 n0 (Nat.le_refl _))
 | succ fuel ih =>
  intro listed a w σ hsz hun hR hJ hF hsh hend0 hfit hok hf;obtain⟨hsteps,b,hb,hend⟩:=lexS_at hst n0 hn0 allq hlq hfit allq os0 0 a0 _ (by omega) (by simpa using hosl) (by simp) (hlex σ) (Frm.start a0 σ (by simp)) (fun _ _ _=>trivial);have hfin:(∀ i,i<n0→listed.getD i false=true)→Q a w:=by
   intro hall;have hab:b=a:=by
    refine Frm.ext_ (S:=fun i=>listed.getD i false=true) (σ:=σ) ⟨hb.1,hb.2.1,fun t hx=>hb.2.2.1 t fun i o ho hi=>hx i o ho (hall i hi),fun i o t ho hi hd hlt=>hb.2.2.2 i o t ho ?_ hd hlt⟩ hf;show i<n0
    rcases Nat.lt_or_ge i n0 with h|h
    ·exact h
    ·exact absurd hi (hend0 i h)
   subst hab;exact hend w hR (fun h1 h2 h3=>hF.2 h3 (hall _ h1) (hall _ h2)) fun j q hq hj=>hok j q hq (hall j hj)
  refine⟨fun hr=>?_,fun i hi=>?_⟩
  ·have hall:∀ i,i<l.length→listed.getD i false=true:=fun i hi=>all_listed hst hsz hr (i+1) i (by omega) hi
   rcases hends with ⟨hn,hQ⟩|⟨hn,_,_⟩
   ·exact hQ _ _ (hfin fun i hi=>hall i (by omega))
   ·exact absurd (hall n0 (by omega)) (hend0 n0 (Nat.le_refl _))
  ·obtain⟨h1,o,h2,hpre⟩:=mem_ready.1 hi
   have ho:l[i]?=some o:=by simpa using h2
   have hlt:i<l.length:=(List.getElem?_eq_some_iff.1 ho).1;have hni:¬ listed.getD i false=true:=by rw[← getD_tf (by omega),h1];simp
   have hbef:∀ j,bef l i j=true→j≠i→listed.getD j false=true:=fun j hj hne=>bef_of_ready hsh ho hpre hj hne;have hset:=getD_set (listed:=listed) (i:=i) (by omega);have hnew:∀(i:Nat) (v:Value) (w':World),¬ listed.getD i false=true→(∀ j,(listed.setIfInBounds i true).getD j false=true↔listed.getD j false=true∨j=i)→w.heap.size≤w'.heap.size→Fresh F1 F2 i v w w' →
     ((∀ k,k=F1∨k=F2→(listed.setIfInBounds i true).getD k false=true→∃ b,blkOf (if k=i then v else σ k)=some b∧b<w'.heap.size)∧(F1≠F2→(listed.setIfInBounds i true).getD F1 false=true→(listed.setIfInBounds i true).getD F2 false=true→blkOf (if F1=i then v else σ F1)≠blkOf (if F2=i then v else σ F2))):=by
    intro i v w' hni hset hsz' hfr;refine⟨fun k hk hl'=>?_,fun h12 hl1 hl2=>?_⟩
    ·by_cases e:k=i
     ·rw[if_pos e]
      obtain⟨b,hb1,_,hb3⟩:=hfr (e▸hk);exact⟨b,hb1,hb3⟩
     ·rw[if_neg e]
      obtain⟨b,hb1,hb2⟩:=hF.1 k hk (((hset k).1 hl').resolve_right e);exact⟨b,hb1,by omega⟩
    ·by_cases e1:F1=i
     ·have e2:¬ F2=i:=fun e2=>h12 (e1.trans e2.symm)
      rw[if_pos e1,if_neg e2];obtain⟨b,hb1,hb2,_⟩:=hfr (.inl e1.symm);obtain⟨b',hb1',hb2'⟩:=hF.1 F2 (.inr rfl) (((hset F2).1 hl2).resolve_right e2);rw[hb1,hb1'];intro e;have:=Option.some.inj e;omega
     ·rw[if_neg e1]
      have h1:=((hset F1).1 hl1).resolve_right e1;by_cases e2:F2=i
      ·rw[if_pos e2]
       obtain⟨b,hb1,hb2,_⟩:=hfr (.inr e2.symm);obtain⟨b',hb1',hb2'⟩:=hF.1 F1 (.inl rfl) h1;rw[hb1,hb1'];intro e;have:=Option.some.inj e;omega
      ·rw[if_neg e2]
       exact hF.2 h12 h1 (((hset F2).1 hl2).resolve_right e2)
   by_cases hin:i<n0
   ·obtain⟨c,q,hq,hc,hstep⟩:=hsteps i o (Nat.zero_le _) hin ho
    have hag:∀ t∈o.looksAt l.toArray,c.tmps[t]?=a.tmps[t]?:=by
     refine hc.agree hf fun t ht j x hx hd=>?_;rcases stat_look hst ho hx ht hd with rfl|⟨hj,hbj⟩|⟨hj,hbj⟩
     ·exact⟨fun h=>absurd h (Nat.lt_irrefl _),fun h=>absurd h hni⟩
     ·exact⟨fun _=>hbef j hbj (by omega),fun _=>hj⟩
     ·exact⟨fun h=>absurd h hj,fun h=>absurd (bef_in hsh h hbj) hni⟩
    refine wpOp_of_stepS ho (stat_sel hst ho) hag hstep hR (hJ i hni) (fun k q' hk hq' hb'=>hok k q' hq' (hbef k hb' (by omega))) (hrefl w) (hreflS i σ w) fun v w' hRw hRs hfr hokv=>?_;refine ih _ _ w' (upd σ i v) (by simpa using hsz) ?_ (htrans _ _ _ hR hRw) (fun j hj=>hJst j i σ (fun e=>hj ((hset j).2 (.inr e.symm))) (by cases hb:bef l i j with|false=>rfl|true=>exact absurd ((hset j).2 (.inl (hbef j hb (fun e=>hj ((hset j).2 (.inr e)))))) hj) _ _ (hJ j (fun h=>hj ((hset j).2 (.inl h)))) hRs) (hnew i v w' hni hset (hsize _ _ hRw) hfr) ?_ ?_ ?_ ?_ ?_
    ·have hcl:unlisted l (listed.setIfInBounds i true)<unlisted l listed:=by
      refine count_lt (i:=i) (fun x hx=>?_) ?_ ?_ _ (by simpa using hlt)
      ·by_cases hxi:x=i
       ·subst hxi
        rw[h1];rfl
       ·have:i≠x:=fun e=>hxi e.symm
        rw[Array.getD_eq_getD_getElem?,Array.getElem?_setIfInBounds_ne this,← Array.getD_eq_getD_getElem?]at hx;exact hx
      ·rw[h1];rfl
      ·simp[Array.getD,hsz,hlt]
     omega
    ·intro j x hx hj e he hb'
     refine(hset _).2 (.inl ?_);rcases(hset j).1 hj with hj|rfl
     ·exact hsh j x hx hj e he hb'
     ·rw[ho]at hx
      cases hx
      exact hpre e he hb'
    ·intro j hj hjs
     rcases(hset j).1 hjs with hjs|rfl
     ·exact hend0 j hj hjs
     ·omega
    ·intro j q' hq'
     show fitS q' (if j=i then v else σ j)
     split
     ·rename_i hj
      subst hj;rw[hq]at hq';cases hq'
      cases q with
      | inl u=>exact upd_eq.symm.trans hokv
      | inr p=>trivial
     ·exact hfit j q' hq'
    ·intro j q' hq' hj
     by_cases hji:j=i
     ·subst hji
      rw[hq]at hq';cases hq'
      exact hokv
     ·have hjl:=((hset j).1 hj).resolve_right hji
      have hold:=hok j q' hq' hjl;cases q' with
      | inl u=>exact(upd_ne hji).trans hold
      | inr p =>
       have hbf:bef l j i=false:=by
        cases hb:bef l j i with
        | false=>rfl
        | true=>exact absurd (bef_in hsh hjl hb) hni
       have hk:=hstab j p hq';refine hk.1 i σ v w' (fun e=>hji e.symm) hbf (hk.2 i (fun e=>hji e.symm) hbf σ w w' (fun h12 h1 h2=>hF.2 h12 ?_ ?_) hold hRs)
       ·rcases h1 with e|e|⟨e,e'⟩
        ·exact e▸hjl
        ·exact bef_in hsh hjl e
        ·exact hbef _ e e'
       ·rcases h2 with e|e|⟨e,e'⟩
        ·exact e▸hjl
        ·exact bef_in hsh hjl e
        ·exact hbef _ e e'
    ·exact hf.put hst ho v (fun j _ hne=>by simp[upd,hne]) (by simp[upd]) hset
   ·rcases hends with ⟨hn,_⟩|⟨hn,hall,hT⟩
    ·omega
    ·have hal:∀ j,j<n0→listed.getD j false=true:=fun j hj=>hbef j (hall i (by omega) hlt j hj) (by omega)
     refine(hT _ _ (hfin hal) (fuel+1) listed hsz hun hsh (fun j=>⟨fun h=>?_,hal j⟩)).2 i hi;rcases Nat.lt_or_ge j n0 with h3|h3
     ·exact h3
     ·exact absurd h (hend0 j h3)
theorem wp_region_lexS{id:Nat}{Q':Exit→Act→World→Prop}{a:Act}(hm:P.follows .mixedOrders=true)(hst:stat l=true)(hrefl:∀ w,R w w)(hreflS:∀ i σ w,Rs i σ w w)(hsize:∀ a b,R a b→a.heap.size≤b.heap.size)(hJst:∀ j i σ,i≠j→bef l i j=false→∀ w w',J j w→Rs i σ w w'→J j w')(htrans:∀ a b c,R a b→R b c→R a c)(hdrew:R w0 w0.drew)(hJ0:∀ i,J i w0.drew)
  (qs:List PostS) (h:∀ σ,lexS P R w0 Rs J F1 F2 l (fun a w=>Q' .normal a w) σ qs l 0 a (fun _ _=>True)) :
  (Code.region id l.toArray true).wp P Q' a w0:=by
 refine wp_region_any hm ?_;refine wpAny_lexS hst hrefl hreflS hsize hJst htrans l.length (.inl ⟨rfl,fun _ _ h=>h⟩) qs (lexS_len _ _ _ _ _ (h fun _=>undef)) (fun k p hp=>by have:=lexS_stab _ _ _ _ _ (h fun _=>undef) k p hp;rwa[Nat.zero_add]at this) rfl (fun _ _=>rfl) h _ _ _ _ (fun i=>match qs[i]? with|some (.inl u)=>u|_=>undef) (by simp) ?_ hdrew (fun i _=>hJ0 i) ⟨fun i _ hi=>by simp[Array.getD]at hi,fun _ hi=>by simp[Array.getD]at hi⟩ ?_ ?_ ?_ ?_ (Frm.start _ _ ?_)
 ·refine Nat.le_trans List.countP_le_length ?_
  simp
 ·intro i o ho hi
  simp[Array.getD]at hi
 ·intro i _ hi
  simp[Array.getD]at hi
 ·intro i q hq
  simp only[hq];cases q<;>simp[fitS]
 ·intro i q hq hi
  simp[Array.getD]at hi
 ·intro i hi
  simp[Array.getD]at hi
end
section
variable {P:Program} {R:World→World→Prop} {w0:World} {Rs:Nat→(Nat→Value)→World→World→Prop} {J:Nat→World→Prop} {F1 F2:Nat} {l:List Oper} {Q:Act→World→Prop} {σ:Nat→Value}
variable {o:Oper} {os:List Oper} {qs:List PostS} {i:Nat} {a:Act} {Φ:(Nat→Bool)→World→Prop}
theorem lexS_nil(h:∀ w,R w0 w→apart2 F1 F2 i (σ F1) (σ F2)→Φ (fun _=>true) w→Q a w):lexS P R w0 Rs J F1 F2 l Q σ [] [] i a Φ:=h
theorem lexS_ex{u:Value}(hF1:i≠F1)(hF2:i≠F2)(hrefl:∀ w,R w w)(hreflS:∀ i σ w,Rs i σ w w)(hw:Region.wanted o (yielded l.toArray a.tmps)=true)(hrun:∀ w,R w0 w→J i w→Φ (bef l i) w→(execOp a.eval o).run P w = .ok (.value u) w)
  (h:lexS P R w0 Rs J F1 F2 l Q σ qs os (i+1) (a.put o.dst u) Φ):lexS P R w0 Rs J F1 F2 l Q σ (.inl u::qs) (o::os) i a Φ:=by
 refine⟨?_,h⟩;rw[if_pos hw];intro w hR hJ hΦ;rw[hrun w hR hJ hΦ];exact⟨⟨hrefl w,hreflS i σ w,fun e=>by rcases e with e|e;exact absurd e hF1;exact absurd e hF2⟩,upd_eq⟩
theorem lexS_new{p:(Nat→Value)→World→Prop}(hF1:i≠F1)(hF2:i≠F2)(hk:Keeps Rs F1 F2 l i p)(hw:Region.wanted o (yielded l.toArray a.tmps)=true)(hrun:∀ w,R w0 w→J i w→Φ (bef l i) w→∃ u w',(execOp a.eval o).run P w = .ok (.value u) w'∧R w w'∧Rs i σ w w'∧p (upd σ i u) w')
  (h:lexS P R w0 Rs J F1 F2 l Q σ qs os (i+1) (a.put o.dst (σ i)) (fun d w=>(d i=true→p σ w)∧Φ d w)):lexS P R w0 Rs J F1 F2 l Q σ (.inr p::qs) (o::os) i a Φ:=by
 refine⟨?_,hk,h⟩;rw[if_pos hw];intro w hR hJ hΦ;obtain⟨u,w',hu,hRw,hRs,hp⟩:=hrun w hR hJ hΦ;rw[hu];exact⟨⟨hRw,hRs,fun e=>by rcases e with e|e;exact absurd e hF1;exact absurd e hF2⟩,hp⟩
theorem lexS_store{p:(Nat→Value)→World→Prop}(hF1:i≠F1)(hF2:i≠F2)(hk:Keeps Rs F1 F2 l i p)(hw:Region.wanted o (yielded l.toArray a.tmps)=true)(hrun:∀ w,R w0 w→J i w→Φ (bef l i) w→∃ w',(execOp a.eval o).run P w = .ok .skip w'∧R w w'∧Rs i σ w w'∧p (upd σ i undef) w')
  (h:lexS P R w0 Rs J F1 F2 l Q σ qs os (i+1) (a.put o.dst (σ i)) (fun d w=>(d i=true→p σ w)∧Φ d w)):lexS P R w0 Rs J F1 F2 l Q σ (.inr p::qs) (o::os) i a Φ:=by
 refine⟨?_,hk,h⟩;rw[if_pos hw];intro w hR hJ hΦ;obtain⟨w',hu,hRw,hRs,hp⟩:=hrun w hR hJ hΦ;rw[hu];exact⟨⟨hRw,hRs,fun e=>by rcases e with e|e;exact absurd e hF1;exact absurd e hF2⟩,hp⟩
theorem lexS_call{p:(Nat→Value)→World→Prop}(hF1:i≠F1)(hF2:i≠F2){f:FuncId}{args:Array Value}(hk:Keeps Rs F1 F2 l i p)(hw:Region.wanted o (yielded l.toArray a.tmps)=true)
  (hrun:∀ w,(execOp a.eval o).run P w = .ok (.enter f args) w) (hcall:∀ w,R w0 w→J i w→Φ (bef l i) w→Calls P f args w fun e w'=>∃ v,e = .returned v∧R w w'∧Rs i σ w w'∧p (upd σ i v) w')
  (h:lexS P R w0 Rs J F1 F2 l Q σ qs os (i+1) (a.put o.dst (σ i)) (fun d w=>(d i=true→p σ w)∧Φ d w)):lexS P R w0 Rs J F1 F2 l Q σ (.inr p::qs) (o::os) i a Φ:=by
 refine⟨?_,hk,h⟩;rw[if_pos hw];intro w hR hJ hΦ;rw[hrun w];exact(hcall w hR hJ hΦ).mono fun e w' ⟨v,hv,h1,h2,h3⟩=>⟨v,hv,⟨h1,h2,fun e=>by rcases e with e|e;exact absurd e hF1;exact absurd e hF2⟩,h3⟩
end
section
variable {P:Program} {R:World→World→Prop} {w0:World} {Rs:Nat→(Nat→Value)→World→World→Prop} {J:Nat→World→Prop} {F1 F2:Nat} {l:List Oper} {Q:Act→World→Prop} {σ:Nat→Value} {o:Oper} {os:List Oper} {qs:List PostS} {i:Nat} {a a2:Act} {Φ:(Nat→Bool)→World→Prop}
theorem lxS{F:World→Prop}{u:Value}(f:∀ w,R w0 w→J i w→Φ (bef l i) w→F w)(h:lexS P R w0 Rs J F1 F2 l Q σ qs os (i+1) a2 Φ)(h1:i≠F1:=by decide)(h2:i≠F2:=by decide)(hr:∀ w,R w w:=by exact Below.refl _)(hs:∀ i σ w,Rs i σ w w:=by exact fun _ _ W=>.inl (Ext.refl W))(hw:Region.wanted o (yielded l.toArray a.tmps)=true:=by rfl)
 (hrun:(∀ w,R w0 w→J i w→Φ (bef l i) w→F w)→∀ w,R w0 w→J i w→Φ (bef l i) w→(execOp a.eval o).run P w = .ok (.value u) w:=by intro F W hR hJ hΦ;have dd:=F W hR hJ hΦ;clear F;go_simp;first|done|with_reducible rfl) (ha:a.put o.dst u=a2:=by simp only[pu];rfl):lexS P R w0 Rs J F1 F2 l Q σ (.inl u::qs) (o::os) i a Φ:=lexS_ex h1 h2 hr hs hw (hrun f) (ha▸h)
end
end Go.Proofs.YtffcefoadaogbaaGreat
