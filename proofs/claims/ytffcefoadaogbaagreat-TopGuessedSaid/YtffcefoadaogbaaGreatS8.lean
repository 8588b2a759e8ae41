/- A part of the proof: texts put together and cut down by a program of mine (wip/gen/mini.py). -/
import Derived.Test.YtffcefoadaogbaaGreatS7
namespace Go.Proofs.YtffcefoadaogbaaGreat
open Go.RowKit
open Go.Proofs.Tryz
set_option linter.unusedVariables false
set_option maxRecDepth 100000
set_option maxHeartbeats 16000000


def foldN(t:List UInt8)(l:List OpT):Int→List Int→List (List UInt8)→List Int
 | _,g,[]=>g
 | f,g,p::ps=>foldN t l (f+1) (stepN t p f l g).1 ps
theorem foldN_ok(t:List UInt8)(l:List OpT):∀(ps:List (List UInt8)) (f:Int) {g:List Int},okG g→okG (foldN t l f g ps)
 | [],_,_,h=>h
 | p::ps,f,_,h=>foldN_ok t l ps (f+1) (stepN_ok t p f l h)
theorem foldN_app(t:List UInt8)(l:List OpT):∀(a b:List (List UInt8)) (f:Int) (g:List Int),foldN t l f g (a++b)=foldN t l (f+a.length) (foldN t l f g a) b
 | [],b,f,g=>by simp[foldN]
 | p::a,b,f,g=>by
  rw[List.cons_append,foldN,foldN_app t l a b (f+1),foldN,List.length_cons];congr 1
  omega
theorem foldN_snoc(t:List UInt8)(l:List OpT)(f:Int)(g:List Int){ps:List (List UInt8)}{k:Nat}(h:k<ps.length):foldN t l f g (ps.take (k+1))=(stepN t ps[k] (f+k) l (foldN t l f g (ps.take k))).1:=by
 have e:(ps.take k).length=k:=by simp;omega
 rw[List.take_succ_eq_append_getElem h,foldN_app,e];rfl
def hdr(h:Option Addr×Nat×Nat):Value:=.slice h.1 h.2.1 h.2.2
def Rp(w:World)(A:Option Addr)(n c:Nat)(ps:List (List UInt8)):Prop :=
 ∃ hs:List (Option Addr×Nat×Nat),Rd w 1 A n c (hs.map hdr)∧hs.length=ps.length∧∀(i:Nat) h p,hs[i]?=some h→ps[i]?=some p→Rb w h.1 h.2.1 h.2.2 p
section
variable {w w':World} {A:Option Addr} {n c:Nat} {ps:List (List UInt8)}
theorem Rp.ext(h:Rp w A n c ps)(e:Ext w w'):Rp w' A n c ps:=by
 obtain⟨hs,h1,h2,h3⟩:=h;exact⟨hs,h1.ext e,h2,fun i a p ha hp=>(h3 i a p ha hp).ext e⟩
theorem Rp.len(h:Rp w A n c ps):n=ps.length:=by
 obtain⟨hs,h1,h2,_⟩:=h;have:=h1.1;simp at this
 omega
theorem Rp.max(h:Rp w A n c ps):n≤c∧c≤maxLen:=by
 obtain⟨hs,h1,_⟩:=h;exact⟨h1.2.1,h1.2.2.1⟩
theorem Rp.at_(h:Rp w A n c ps){k:Nat}(hk:k<ps.length):∃ b o Ai ni ci,A=some ⟨b,o,none⟩∧w.cell? ⟨b,o+k,none⟩=some (.slice Ai ni ci)∧Rb w Ai ni ci ps[k]:=by
 have hn:=h.len;obtain⟨hs,h1,h2,h3⟩:=h;obtain⟨b,o,e,u,hu,hc⟩:=h1.at_ (k:=k) (by omega);have hk2:k<hs.length:=by omega
 rw[List.getElem?_map,List.getElem?_eq_getElem hk2]at hu;refine⟨b,o,hs[k].1,hs[k].2.1,hs[k].2.2,e,?_,h3 k _ _ (List.getElem?_eq_getElem hk2) (List.getElem?_eq_getElem hk)⟩;rw[hc,← hu];rfl
theorem Rp.take(h:Rp w A n c ps){k:Nat}(hk:k≤n):Rp w A k c (ps.take k):=by
 obtain⟨hs,h1,h2,h3⟩:=h;have h4:=h1.take hk;rw[Nat.mul_one,← List.map_take]at h4;refine⟨hs.take k,h4,by simp;omega,fun i a p ha hp=>?_⟩;rw[List.getElem?_take]at ha hp;split at ha
 ·rw[if_pos (by assumption)]at hp
  exact h3 i a p ha hp
 ·cases ha
theorem Rp.drop(h:Rp w A n c ps){k:Nat}(hk:k≤n):Rp w (if c=k then A else A.map (·.add k)) (n-k) (c-k) (ps.drop k):=by
 obtain⟨hs,h1,h2,h3⟩:=h;have h4:=h1.drop hk;rw[Nat.mul_one,← List.map_drop]at h4;refine⟨hs.drop k,h4,by simp;omega,fun i a p ha hp=>?_⟩;rw[List.getElem?_drop]at ha hp;exact h3 _ a p ha hp
end
theorem Rp.keep{w0 w w':World}{A:Option Addr}{n c:Nat}{ps:List (List UInt8)}{b:Nat}(h:Rp w0 A n c ps)(e:Ext w0 w)(hb:w0.heap.size≤b)(hg:w.grownBy w' (some b)):Rp w' A n c ps:=by
 obtain⟨hs,h1,h2,h3⟩:=h;refine⟨hs,Rd.grownP (h1.ext e) hg (fun h0 a ha=>?_),h2,fun i a p ha hp=>Rd.grownP ((h3 i a p ha hp).ext e) hg (fun h0 a' ha'=>?_)⟩
 ·have:=h1.lt (by omega) a ha
  intro e2;have:=Option.some.inj e2;omega
 ·have:=Rd.lt (h3 i a p ha hp) (by omega) a' ha'
  intro e2;have:=Option.some.inj e2;omega
theorem info_bytes:(prog.info? 30).map (fun i=>(i.zero,i.size,i.bytes))=some (some (.slice none 0 0),1,24):=by kernel_rfl
def frRel(t:List UInt8)(l:List OpT)(f:Int)(g:List Int)(ps:List (List UInt8))(w1:World)(b:Nat)(iv:Value)(wr:World):Prop :=
 ∃ k:Nat,iv = .int .i64 (k:Nat)∧k≤ps.length∧Blk wr b 205 (foldN t l f g (ps.take k))∧w1.grownBy wr (some b)
theorem from_any(w:World)(t:List UInt8)(A:Option Addr)(n c:Nat)(l:List OpT)(frame:Int)(PA:Option Addr)(pn pc:Nat)(ps:List (List UInt8))(g:List Int)
  (ht:t.length≤1099511627776) (hl:Ro w A n c l) (hp:Rp w PA pn pc ps) (hok:okG g) (h0:0≤frame) (h1:frame≤1000000) (hps:ps.length≤1000) :
  Calls prog 270 #[pAgg t A n c,.agg (gcs g),.int .i64 frame,.slice PA pn pc] w fun e w'=>e = .returned (.agg (gcs (foldN t l frame g ps)))∧Ext w w':=by
 have hg32:=hok.1;have hmx:=hp.max;have hpn:=hp.len;unfold maxLen at hmx;unfold pAgg;have Hpn:=hqd hpn;obtain⟨G,hG⟩:∃ x,foldN t l frame g ps=x:=⟨_,rfl⟩;have hG32:G.length=32:=by rw[← hG];exact(foldN_ok t l ps frame hok).1
 rw[hG];have HG:=hqd hG;have HG32:=hqd hG32;clear hpn hG hG32;go_enter func270,ntmps270;go_wp2_with fail;generalize hV:World.alloc (World.alloc (World.alloc w _) _) _=V;have eV:Ext w V:=by subst hV;exact((Ext.alloc _ _).trans (Ext.alloc _ _)).trans (Ext.alloc _ _)
 have bR:Blk V (w.heap.size+1+1) 205 zeroG:=by subst hV;exact Blk.new' _ _ (g:=zeroG) rfl (by simp)
 have bS:Blk V (w.heap.size+1) 205 g:=by subst hV;exact(Blk.new' _ _ hg32 (by simp)).ext (Ext.alloc _ _)
 have c0:V.cell? ⟨w.heap.size,0,none⟩=some (.string (bs t)):=by subst hV;go_simp
 have c1:V.cell? ⟨w.heap.size,1,none⟩=some (.slice A n c):=by subst hV;go_simp
 clear hV;obtain⟨b,hb⟩:∃ b,w.heap.size+1=b:=⟨_,rfl⟩;rw[hb]at bS bR;have hb2:w.heap.size<b:=by omega
 have Hb:=hqd hb;clear hb;rw[Hb.out];go_loopw [13] (fun iv wr=>frRel t l frame g ps V b iv wr) (fun iv _=>ps.length-(intOf iv).toNat)
 case atStart=>exact⟨0,rfl,by omega,bS,World.grownBy.refl _ _⟩
 case round =>
  obtain⟨k,rfl,hk,hbk,hch⟩:=hrel;have d0:wr.cell? ⟨w.heap.size,0,none⟩=some (.string (bs t)):=hch.cell c0 (by simp;omega);have d1:wr.cell? ⟨w.heap.size,1,none⟩=some (.slice A n c):=hch.cell c1 (by simp;omega);have rR:=bR.grown hch (by simp);have xR:=ext_of_grown_new eV hch (by omega);by_cases hlt:k<pn
  ·have hd:decide (k<pn)=true:=decide_eq_true hlt
   have hkl:k<ps.length:=by have:=Hpn.out;omega
   have lW:Ro wr A n c l:=Rd.grownP (Rd.ext hl eV) hch (fun h a ha=>by have:=Rd.lt hl (by omega) a ha;simp;omega);obtain⟨pb,po,Ai,ni,ci,rfl,hc0,hr0⟩:=hp.at_ hkl;have hpb:pb<w.heap.size:=World.block_lt_of_cell? w _ hc0;have hc:wr.cell? ⟨pb,po+k,none⟩=some (.slice Ai ni ci):=hch.cell (eV.cell hc0) (by simp;omega);have hr:Rb wr Ai ni ci ps[k]:=Rd.grownP (Rd.ext hr0 eV) hch (fun h a ha=>by have:=Rd.lt hr0 (by omega) a ha;simp;omega);have hgo:=foldN_ok t l (ps.take k) frame hok;have hsn:=foldN_snoc t l frame g hkl;have hst:=step_any wr t A n c l (frame+k) Ai ni ci ps[k] (foldN t l frame g (ps.take k)) ht lW hr hgo;rw[← hsn]at hst;unfold pAgg at hst;have Hst:=hqd hst;have Hg2:=hqd (foldN_ok t l (ps.take (k+1)) frame hok).1;clear hst hsn hgo hr lW hr0 hc0;obtain⟨G2,hG2⟩:∃ x,foldN t l frame g (ps.take (k+1))=x:=⟨_,rfl⟩;have HG2:=hqd hG2;rw[hG2]at Hst Hg2;clear hG2;generalize foldN t l frame g (ps.take k)=G1 at *;go_wp2_with (with_reducible refine wpList_load_gm rfl 205 (.tmp 5) rfl rfl underlying205 size_state hbk.gm ?_)
   refine Calls.mono Hst.out ?_;rintro e w2 ⟨rfl,e2⟩;have hb3:=hbk.ext e2;go_wp2_with ((with_reducible refine wpList_put_game rfl 205 (.tmp 5) (.tmp 24) rfl rfl rfl hb3 Hg2.out size_state ?_);intro W3 b4 _ y3 _);go_roundw
   case rel=>exact⟨k+1,by go_num,hkl,by rw[HG2.out];exact b4,(hch.trans (e2.grownBy _)).trans y3⟩
   case measure=>simp[intOf];omega
  ·have hd:decide (k<pn)=false:=decide_eq_false hlt
   have hkl:k=ps.length:=by have:=Hpn.out;omega
   subst hkl;have hfin:foldN t l frame g (ps.take ps.length)=G:=by rw[List.take_length];exact HG.out
   rw[hfin]at hbk;clear hfin;go_wp2_with (first
    | (with_reducible refine wpList_load_gm rfl 205 (.tmp 5) rfl rfl underlying205 size_state hbk.gm ?_)
    | (with_reducible refine wpList_store_blk rfl 205 (.tmp 8) (.tmp 26) rfl rfl rfl rR HG32.out size_state ?_))
   exact bodyPost_ret (v:=.agg (gcs G)) (result_gm rfl _ rfl (rR.setRow HG32.out).gm underlying205 size_state) rfl ⟨rfl,xR.setRow (by omega) _⟩


def uns(x:Int):Nat:=(x % 4294967296).toNat
theorem uns_lt(x:Int):uns x<4294967296:=by unfold uns;omega
theorem uns_conv(x:Int):IntKind.u32.wrap x=(uns x:Nat):=by
 have:IntKind.u32.wrap x=x % 4294967296:=by rfl
 rw[this];unfold uns;omega
theorem four_cells(n:Nat)(h:n<4294967296):bcs (fourL n)=[.int .u8 (↑n / 16777216),.int .u8 (↑n / 65536 % 256),.int .u8 (↑n / 256 % 256),.int .u8 (↑n % 256)]:=by
 simp only[bcs,fourL,List.map_cons,List.map_nil];rw[toNat_ofNat8 (by omega),toNat_ofNat8 (by omega),toNat_ofNat8 (by omega),toNat_ofNat8 (by omega)];simp
theorem rfour_any(n:Nat)(w:World)(h:n<4294967296) :
  Calls prog 31 #[.int .u32 (n:Nat)] w (Made w 5 1 (bcs (fourL n))):=by
 go_enter func31,ntmps31;go_wp2_with fail;go_ret;refine⟨_,_,_,rfl,?_,Ext.alloc _ _⟩;rw[four_cells n h];exact Own.made w _ _ 1 _ 4 (Nat.le_refl _) (by decide) rfl
theorem put32_any(x:Int)(w:World)(hx:ok32 x) :
  Calls prog 217 #[.int .i32 x] w (Made w 5 1 (bcs (fourL (uns x)))):=by
 have hu:=uns_conv x;have h:=uns_lt x;generalize uns x=n at *;go_enter func217,ntmps217;go_wp2_with fail;go_ret;refine⟨_,_,_,rfl,?_,Ext.alloc _ _⟩;rw[four_cells n h];exact Own.made w _ _ 1 _ 4 (Nat.le_refl _) (by decide) rfl
def gameL(g:List Int):List UInt8:=g.flatMap fun x=>fourL (uns x)
theorem bytes_eq(w:World)(A:Option Addr)(n c:Nat)(a:List UInt8)(B:Option Addr)(m d:Nat)(b:List UInt8)(ha:Rb w A n c a)(hb:Rb w B m d b) :
  Calls prog 303 #[.slice A n c,.slice B m d] w fun e w'=>e = .returned (.bool (a==b))∧w'=w:=by
 have h1:=fun W=>run_string_of (P:=prog) W 30 9 5 underlying30 underlying5 underlying9 A n c a;have h2:=fun W=>run_string_of (P:=prog) W 30 9 5 underlying30 underlying5 underlying9 B m d b;have k1:=h1 w ha;have k2:=h2 w hb;clear h1 h2;go_enter func303,ntmps303;go_wp2_with fail;go_ret;exact⟨rfl,rfl⟩
theorem gameL_take{g:List Int}{k:Nat}(h:k<g.length):gameL (g.take (k+1))=gameL (g.take k)++fourL (uns (g.getD k 0)):=by
 unfold gameL;rw[List.take_succ_eq_append_getElem h,List.flatMap_append];simp[List.getD,List.getElem?_eq_getElem h]
def GOf(w:World)(g:List Int)(e:Ending)(w':World):Prop:=∃ B d,e = .returned (.slice B 128 d)∧Rb w' B 128 d (gameL g)∧Ext w w'
def gbRel(w:World)(T:TypeId)(g:List Int)(v iv:Value)(wr:World):Prop :=
 ∃(k:Nat) (B:Option Addr) (d:Nat),v = .slice B (4*k) d∧iv = .int .i64 (k:Nat)∧k≤32∧Own wr (w.heap.size+1) 5 1 B (4*k) d (bcs (gameL (g.take k)))∧Blk wr w.heap.size T g∧Ext w wr
theorem index_game(W:World){g:List Int}(hg:g.length=32){k:Nat}(hk:k<32):(Instr.index 205 (.agg (gcs g)) (.int .i64 (k:Nat))).run prog W = .ok (.int .i32 (g.getD k 0)) W:=by
 have hc:(gcs g)[k]?=some (.int .i32 (g.getD k 0)):=gcs_at (by omega);have hs:(sizeOf 21).run prog W = .ok 1 W:=by kernel_rfl
 unfold Instr.index;simp[asIntOf,Sem.run_bind,run_underlying underlying205,hs,part,hc]
 intro h;omega
theorem sencode_any(w:World)(g:List Int)(hok:okG g):Calls prog 196 #[.agg (gcs g)] w (GOf w g):=by
 have hg:=hok.1;obtain⟨i0,hi,hz0,hz1,hz2⟩:=info_parts info_u8;have hidx:=fun W k h=>index_game W hg (k:=k) h;have Hidx:=hqd hidx;clear hidx;go_enter func196,ntmps196;go_wp2_with ((with_reducible refine wpList_load_gm rfl 205 (.tmp 1) rfl rfl underlying205 size_state (g:=g) ?hg ?_);case hg=>exact(Blk.new' _ _ hg (by simp)).gm)
 go_loopw [3,7] (fun v iv wr=>gbRel w 205 g v iv wr) (fun _ iv _=>32-(intOf iv).toNat)
 case atStart=>exact⟨0,none,0,rfl,rfl,by omega,Own.nil_ _ _ _ _,Blk.new' _ _ hg (by simp),Ext.alloc _ _⟩
 case round =>
  obtain⟨k,B,d,rfl,rfl,hk,ho,hb,he⟩:=hrel;by_cases hlt:k<32
  ·have hd:decide (k<32)=true:=decide_eq_true hlt
   have hd2:decide ((k:Int)<32)=true:=decide_eq_true (by omega);have hix:=fun W=>Hidx.out W k hlt;have htk:=gameL_take (g:=g) (k:=k) (by omega);have hxk:ok32 (g.getD k 0):=by
    rw[List.getD_eq_getElem?_getD,List.getElem?_eq_getElem (by omega)];exact hok.2 _ (List.getElem_mem (by omega))
   have hul:=uns_lt (g.getD k 0);generalize g.getD k 0=x at *;have Htk:=hqd htk;clear htk;go_wp2_with fail;refine(put32_any x wr hxk).mono ?_;rintro e w2 ⟨B2,m2,d2,rfl,ho2,e2⟩;have hm2:m2=4:=by have:=ho2.len;simp at this;rw[bcs_length]at this;simp[fourL]at this;omega
   subst hm2;have hoo:=ho.ext e2;have hbb:=hb.ext e2;have hsz:=he.size;have hsz2:=e2.size;have hbl:=hb.lt;clear ho hb;go_wp2_with (at_builtin;refine wpList_append_to _ rfl _ _ 30 rfl (w.heap.size+1) 5 i0 (.int .u8 0) 1 1 underlying30 hi hz0 hz1 hz2 rfl (by decide) B (4*k) d _ rfl hoo B2 4 d2 _ rfl ho2.rd (bcs_one _) (by unfold maxLen;omega) (by omega) (by omega) ?_;intro B' d' w' ho' hg' hw');have hne:blk B≠some w.heap.size:=fun e=>by have:=hoo.blk_ge _ e;omega
   go_roundw
   case rel =>
    refine⟨k+1,B',d',by rw[Nat.mul_add],by go_num,hlt,?_,hbb.grown hg' hne,Ext.own (he.trans e2) hg' (fun j hj=>by have:=hoo.blk_ge j hj;omega)⟩;rw[Htk.out,bcs_append,Nat.mul_add];exact ho'
   case measure=>simp[intOf];omega
  ·have hd:decide (k<32)=false:=decide_eq_false hlt
   have hd2:decide ((k:Int)<32)=false:=decide_eq_false (by omega);obtain rfl:k=32:=by omega
   rw[List.take_of_length_le (by omega)]at ho;have Ho:=hqd ho;clear ho;go_wp2_with fail;go_ret;exact⟨B,d,rfl,Rb.of Ho.out.rd rfl,he⟩
def efRel(w:World)(a b:List (List UInt8))(iv:Value)(wr:World):Prop:=∃ k:Nat,iv = .int .i64 (k:Nat)∧k≤a.length∧a.take k=b.take k∧wr=w
theorem equalfunc_any(w:World)(A:Option Addr)(n c:Nat)(a:List (List UInt8))(B:Option Addr)(m d:Nat)(b:List (List UInt8))(ha:Rp w A n c a)(hb:Rp w B m d b) :
  Calls prog 302 #[.slice A n c,.slice B m d,.func (.func 303) #[] #[]] w fun e w'=>e = .returned (.bool (a==b))∧w'=w:=by
 have hn:=ha.len;have hm:=hb.len;have hmx:=ha.max;have hmx2:=hb.max;unfold maxLen at hmx hmx2;by_cases hnm:n=m
 ·have hq:((n:Int) != (m:Int))=false:=by rw[hnm];simp
  have Hn:=hqd hn;have Hm:=hqd hm;have Hnm:=hqd hnm;clear hn hm hnm;go_enter func302,ntmps302;go_wp2_with fail;go_loopw [17] (fun iv wr=>efRel w a b iv wr) (fun iv _=>a.length-(intOf iv).toNat)
  case atStart=>exact⟨0,rfl,by omega,by simp,rfl⟩
  case round =>
   obtain⟨k,rfl,hk,htk,rfl⟩:=hrel;have h1:=Hn.out;have h2:=Hm.out;have h3:=Hnm.out;by_cases hlt:k<n
   ·have hd:decide (k<n)=true:=decide_eq_true hlt
    have hka:k<a.length:=by omega
    have hkb:k<b.length:=by omega
    obtain⟨ba,oa,Ai,ni,ci,rfl,hca,hra⟩:=ha.at_ hka;obtain⟨bb,ob,Bi,mi,di,rfl,hcb,hrb⟩:=hb.at_ hkb;have hlt2:k<m:=by omega
    have hix2:(0:Int)≤(k:Int)∧(k:Int)<(m:Int):=by omega
    have htake:a[k]=b[k]→a.take (k+1)=b.take (k+1):=fun e=>by rw[List.take_succ_eq_append_getElem hka,List.take_succ_eq_append_getElem hkb,htk,e]
    have hne:a[k]≠b[k]→(a==b)=false:=fun e=>beq_eq_false_iff_ne.2 (fun e2=>e (by subst e2;rfl));have Htake:=hqd htake;have Hne:=hqd hne;have hbe:=fun W h1 h2=>bytes_eq W Ai ni ci (a[k]'hka) Bi mi di (b[k]'hkb) h1 h2;have Hbe:=hqd hbe;clear htake hne hbe htk h1 h2 h3;generalize a[k]=x at *;generalize b[k]=y at *;go_wp2_with fail;refine(Hbe.out _ hra hrb).mono ?_;rintro e w1 ⟨rfl,rfl⟩;cases hxy:x==y
    ·have hf:=Hne.out (beq_eq_false_iff_ne.1 hxy)
     have Hf:=hqd hf;clear hf;go_wp2_with fail;go_ret;exact⟨by rw[Hf.out];rfl,rfl⟩
    ·have ht:=Htake.out (beq_iff_eq.1 hxy)
     have Ht:=hqd ht;clear ht;go_wp2_with fail;go_roundw
     case rel=>exact⟨k+1,by go_num,hka,Ht.out,rfl⟩
     case measure=>simp[intOf];omega
   ·have hd:decide (k<n)=false:=decide_eq_false hlt
    have hab:(a==b)=true:=by
     rw[beq_iff_eq];rw[List.take_of_length_le (by omega),List.take_of_length_le (by omega)]at htk;exact htk
    have Hab:=hqd hab;clear htk hab h1 h2 h3;go_wp2_with fail;go_ret;exact⟨by rw[Hab.out];rfl,rfl⟩
 ·have hq:((n:Int) != (m:Int))=true:=by rw[bne_iff_ne];omega
  have hab:(a==b)=false:=beq_eq_false_iff_ne.2 (fun e=>hnm (by rw[hn,hm,e]));rw[hab];clear hn hm hab;go_enter func302,ntmps302;go_wp2_with fail;go_ret;exact⟨rfl,rfl⟩
theorem NewP.own{B0:Nat}{T:TypeId}{cs:List Value}{v:Value}{w:World}(h:NewP B0 T cs v w)(hm:cs.length≤maxLen):∃ g,v = .slice (some ⟨g,0,none⟩) cs.length cs.length∧Own w B0 T 1 (some ⟨g,0,none⟩) cs.length cs.length cs:=by
 obtain⟨g,hv,hg,h⟩:=h;exact⟨g,hv,by simp,.inr ⟨g,_,cs.toArray,rfl,hg,h,Nat.le_refl _,hm,by simp,by simp⟩⟩
def headL(p:Pk):List UInt8:=[UInt8.ofNat (if p.quit then 2 else 1),UInt8.ofNat p.src,UInt8.ofNat p.dst]
def midL(id:Int)(p:Pk):List UInt8:=putL id++if p.quit then [] else putL p.first++putL p.ack++putL p.frame++fourL p.sum++putL p.press.length++runsL p.press
def bodyL(id:Int)(p:Pk):List UInt8:=headL p++midL id p
def encPk(id:Int)(p:Pk):List UInt8:=bodyL id p++fourL (crcL (bodyL id p))
theorem head_cells(k a b:Nat)(hk:k<256)(ha:a<256)(hb:b<256):bcs [UInt8.ofNat k,UInt8.ofNat a,UInt8.ofNat b]=[.int .u8 (k:Nat),.int .u8 (a:Nat),.int .u8 (b:Nat)]:=by
 simp[bcs,toNat_ofNat8 hk,toNat_ofNat8 ha,toNat_ofNat8 hb]
theorem fourL_len(n:Nat):(fourL n).length=4:=rfl
theorem runsG_len:∀(n:Nat) (l:List UInt8) (a:UInt8),l.length≤n→(runsG a l).length≤11*l.length
 | _,[],a,_=>by rw[runsG_nil];simp
 | 0,c::r,a,h=>by simp at h
 | n+1,c::r,a,h=>by
  rw[runsG_cons];have h1:=runN_cons c r;have h2:=runN_le c (c::r);have h3:=putL_le10 ((runN_ c (c::r):Nat):Int);have h4:=runsG_len n ((c::r).drop (runN_ c (c::r))) c (by rw[List.length_drop,h1];simp at h ⊢;omega);rw[List.length_drop]at h4;simp only[List.length_append,List.length_cons,List.length_nil]at *;omega
theorem bodyL_len(id:Int)(p:Pk)(h:p.press.length≤32):(bodyL id p).length≤500:=by
 have h1:=putL_le10 id;have h2:=putL_le10 p.first;have h3:=putL_le10 p.ack;have h4:=putL_le10 p.frame;have h5:=putL_le10 p.press.length;have h6:=runsG_len _ p.press 0 (Nat.le_refl _);have h7:=fourL_len p.sum;unfold bodyL headL midL runsL;split<;>simp only[List.length_append,List.length_cons,List.length_nil]<;>omega
theorem encPk_len(id:Int)(p:Pk)(h:p.press.length≤32):(encPk id p).length≤504:=by
 have:=bodyL_len id p h;unfold encPk;rw[List.length_append,fourL_len];omega
theorem pk_press{p:Pk}(h:okPk p):p.press.length≤32:=by
 obtain⟨_,_,_,⟨_,_,e,_⟩|⟨_,_,_,_,e,_⟩⟩:=pk_ways h
 ·rw[e];simp
 ·exact e
theorem idx3_0(a b c:Int)(w:World):(Instr.index 421 (.agg #[.int .i64 a,.int .i64 b,.int .i64 c]) (.int .i64 0)).run prog w = .ok (.int .i64 a) w:=by kernel_rfl
theorem idx3_1(a b c:Int)(w:World):(Instr.index 421 (.agg #[.int .i64 a,.int .i64 b,.int .i64 c]) (.int .i64 1)).run prog w = .ok (.int .i64 b) w:=by kernel_rfl
theorem idx3_2(a b c:Int)(w:World):(Instr.index 421 (.agg #[.int .i64 a,.int .i64 b,.int .i64 c]) (.int .i64 2)).run prog w = .ok (.int .i64 c) w:=by kernel_rfl
def ekRel(w w2:World)(T:TypeId)(f:Nat→List UInt8)(v i:Value)(wr:World):Prop:=∃(j:Nat) (B:Option Addr) (m d:Nat),i = .int .i64 (j:Nat)∧j≤3∧v = .slice B m d∧Own wr (w.heap.size+1) T 1 B m d (bcs (f j))∧Ext w wr∧(∀ o v,w2.cell? ⟨w.heap.size,o,none⟩=some v→wr.cell? ⟨w.heap.size,o,none⟩=some v)∧w2.heap.size≤wr.heap.size
theorem enc_any(w:World)(id:Int)(p:Pk)(A:Option Addr)(n c:Nat)(hp:okPk p)(hid:okId id)(hb:Rb w A n c p.press) :
  Calls prog 320 #[pkAgg id p A n c] w (Made w 5 1 (bcs (encPk id p))):=by
 obtain⟨i0,hi,hz0,hz1,hz2⟩:=info_parts info_u8;have hn:=hb.len;subst hn;have hmx:=hb.max;have hmay:=fun W=>may_pk W id p A p.press.length c hp hid rfl hmx;have Hmay:=hqd hmay;obtain⟨hs,hd,hne,hw⟩:=pk_ways hp;unfold okId at hid;unfold pkAgg at *;clear hmay hp;have hlen:p.press.length≤32:=by rcases hw with ⟨_,_,e,_⟩|⟨_,_,_,_,e,_⟩<;>simp[e]
 have hbl:=bodyL_len id p hlen;obtain⟨Z,hZ⟩:∃ Z,encPk id p=Z:=⟨_,rfl⟩;rw[hZ];have HZ:=hqd hZ;clear hZ;rcases hw with ⟨hq,hf,hpr,hac,hfr,hsu⟩|⟨hq,hf,hac,hfr,hpr,hsu⟩
 ·have hk:kindP p=2:=by simp[kindP,hq]
  rw[hk]at Hmay ⊢;clear hk;clear hmx hf hpr hac hfr hsu;have hbody:bodyL id p=headL p++midL id p:=rfl;simp only[headL,midL,hq,if_true]at hbody;have Hbody:=hqd hbody;clear hbody hq;have hsw:IntKind.u8.wrap ((p.src:Nat):Int)=((p.src:Nat):Int):=by simp[IntKind.wrap,IntKind.bits,IntKind.signed];omega
  have hdw:IntKind.u8.wrap ((p.dst:Nat):Int)=((p.dst:Nat):Int):=by simp[IntKind.wrap,IntKind.bits,IntKind.signed];omega
  go_enter func320,ntmps320;go_wp2_with fail;generalize hV:World.alloc w _=V;have eV:Ext w V:=by subst hV;exact Ext.alloc _ _
  have q0:V.cell? ⟨w.heap.size,0,none⟩=some (.int .i64 2):=by subst hV;go_simp
  have q1:V.cell? ⟨w.heap.size,1,none⟩=some (.int .i64 (p.src:Nat)):=by subst hV;go_simp
  have q2:V.cell? ⟨w.heap.size,2,none⟩=some (.int .i64 (p.dst:Nat)):=by subst hV;go_simp
  have q3:V.cell? ⟨w.heap.size,3,none⟩=some (.int .i64 id):=by subst hV;go_simp
  have q4:V.cell? ⟨w.heap.size,4,none⟩=some (.int .i64 (p.first:Nat)):=by subst hV;go_simp
  have q5:V.cell? ⟨w.heap.size,5,none⟩=some (.slice A p.press.length c):=by subst hV;go_simp
  have q6:V.cell? ⟨w.heap.size,6,none⟩=some (.int .i64 (p.ack:Nat)):=by subst hV;go_simp
  have q7:V.cell? ⟨w.heap.size,7,none⟩=some (.int .i64 (p.frame:Nat)):=by subst hV;go_simp
  have q8:V.cell? ⟨w.heap.size,8,none⟩=some (.int .u32 (p.sum:Nat)):=by subst hV;go_simp
  clear hV;refine(Hmay.out V).mono ?_;rintro e w1 ⟨rfl,e1⟩;have q0:=e1.cell q0;have q1:=e1.cell q1;have q2:=e1.cell q2;have q3:=e1.cell q3;have q4:=e1.cell q4;have q5:=e1.cell q5;have q6:=e1.cell q6;have q7:=e1.cell q7;have q8:=e1.cell q8;have x1:=eV.trans e1;have hw1:w.heap.size+1≤w1.heap.size:=World.block_lt_of_cell? _ _ q0;clear e1 eV;have hlt:w.heap.size<w1.heap.size:=hw1;go_wp2_with fail;generalize hV1:World.alloc w1 _=V1;have eV1:Ext w1 V1:=by subst hV1;exact Ext.alloc _ _
  have o1:Own V1 (w.heap.size+1) 5 1 (some ⟨w1.heap.size,0,none⟩) 3 3 (bcs [UInt8.ofNat 2,UInt8.ofNat p.src,UInt8.ofNat p.dst]):=by
   subst hV1;rw[head_cells 2 p.src p.dst (by decide) (by omega) (by omega)];exact Own.made w1 (w.heap.size+1) _ 1 _ 3 hw1 (by decide) rfl
  have q0:=eV1.cell q0;have q1:=eV1.cell q1;have q2:=eV1.cell q2;have q3:=eV1.cell q3;have q4:=eV1.cell q4;have q5:=eV1.cell q5;have q6:=eV1.cell q6;have q7:=eV1.cell q7;have q8:=eV1.cell q8;have x2:=x1.trans eV1;have hw2:w.heap.size+1≤V1.heap.size:=Nat.le_trans hw1 eV1.size;clear hV1 eV1 x1 hlt;refine(put_any (w.heap.size+1) _ 3 3 _ id V1 (by omega) (by omega) o1 (by decide) hw2).mono ?_;rintro e w2 ⟨B,m,d,rfl,o2,g2,_⟩;have hneq:∀ g,blk (some (⟨w1.heap.size,0,none⟩:Addr))=some g→w.heap.size≠g:=fun g hg=>by simp[blk]at hg;omega
  have q0:=g2.cell q0 (by simp[blk];omega);have q1:=g2.cell q1 (by simp[blk];omega);have q2:=g2.cell q2 (by simp[blk];omega);have q3:=g2.cell q3 (by simp[blk];omega);have q4:=g2.cell q4 (by simp[blk];omega);have q5:=g2.cell q5 (by simp[blk];omega);have q6:=g2.cell q6 (by simp[blk];omega);have q7:=g2.cell q7 (by simp[blk];omega);have q8:=g2.cell q8 (by simp[blk];omega);have x3:=Ext.own x2 g2 (fun k hk=>by simp[blk]at hk;omega);have hw3:w.heap.size+1≤w2.heap.size:=Nat.le_trans hw2 g2.size;have hlt:w.heap.size<w2.heap.size:=hw3;have hm:m≤13:=by have:=o2.len;have h9:=putL_le10 id;simp[bcs_length]at this;omega
  clear o1 g2 x2 hw2 hw1 hneq;go_wp2_with fail;obtain⟨X,hX⟩:∃ X,[UInt8.ofNat 2,UInt8.ofNat p.src,UInt8.ofNat p.dst]++putL id=X:=⟨_,rfl⟩;rw[hX]at o2;have HX:Hid (X=bodyL id p):=hqd (by rw[Hbody.out,List.append_nil];exact hX.symm);clear hX;have hoX:=o2;have xX:=x3;have hbX:=hw3;clear q0 q1 q2 q3 q4 q5 q6 q7 q8;have hX32:crcL X<4294967296:=crcL_lt X;have hm:m≤500:=by have:=hoX.len;have h9:=hbl;rw[← HX.out]at h9;rw[bcs_length]at this;omega
  refine(crc_any _ B m d X (Rb.of hoX.rd rfl)).mono ?_;rintro e w7 ⟨rfl,rfl⟩;go_wp2_with fail;refine(four_any (crcL X) _ hX32).mono ?_;rintro e w8 ⟨F,Fm,Fd,rfl,hoF,e8⟩;have hFm:Fm=4:=by have:=hoF.len;simp[bcs_length,fourL_len]at this;omega
  subst hFm;have hoX8:=hoX.ext e8;have xX8:=xX.trans e8;have hb8:w.heap.size+1≤w8.heap.size:=Nat.le_trans hbX e8.size;go_wp2_with (at_builtin;refine wpList_append_to _ rfl _ _ 30 rfl (w.heap.size+1) 5 i0 (.int .u8 0) 1 1 underlying30 hi hz0 hz1 hz2 rfl (by decide) B m d _ rfl hoX8 F 4 Fd _ rfl hoF.rd (bcs_one _) (by unfold maxLen;omega) (by omega) hb8 ?_;intro E Ed VV hoE hgE hwE);go_ret;refine⟨E,_,Ed,rfl,?_,Ext.own xX8 hgE (fun k hk=>by have:=hoX8.blk_ge k hk;omega)⟩;rw[← HZ.out];unfold encPk;rw[bcs_append,← HX.out];exact hoE.mono (Nat.le_succ _)
 ·have hk:kindP p=1:=by simp[kindP,hq]
  rw[hk]at Hmay ⊢;clear hk;clear hmx hpr;have hbody:bodyL id p=headL p++midL id p:=rfl;simp only[headL,midL,hq,if_false,Bool.false_eq_true]at hbody;have Hbody:=hqd hbody;clear hbody hq;have hsw:IntKind.u8.wrap ((p.src:Nat):Int)=((p.src:Nat):Int):=by simp[IntKind.wrap,IntKind.bits,IntKind.signed];omega
  have hdw:IntKind.u8.wrap ((p.dst:Nat):Int)=((p.dst:Nat):Int):=by simp[IntKind.wrap,IntKind.bits,IntKind.signed];omega
  go_enter func320,ntmps320;go_wp2_with fail;generalize hV:World.alloc w _=V;have eV:Ext w V:=by subst hV;exact Ext.alloc _ _
  have q0:V.cell? ⟨w.heap.size,0,none⟩=some (.int .i64 1):=by subst hV;go_simp
  have q1:V.cell? ⟨w.heap.size,1,none⟩=some (.int .i64 (p.src:Nat)):=by subst hV;go_simp
  have q2:V.cell? ⟨w.heap.size,2,none⟩=some (.int .i64 (p.dst:Nat)):=by subst hV;go_simp
  have q3:V.cell? ⟨w.heap.size,3,none⟩=some (.int .i64 id):=by subst hV;go_simp
  have q4:V.cell? ⟨w.heap.size,4,none⟩=some (.int .i64 (p.first:Nat)):=by subst hV;go_simp
  have q5:V.cell? ⟨w.heap.size,5,none⟩=some (.slice A p.press.length c):=by subst hV;go_simp
  have q6:V.cell? ⟨w.heap.size,6,none⟩=some (.int .i64 (p.ack:Nat)):=by subst hV;go_simp
  have q7:V.cell? ⟨w.heap.size,7,none⟩=some (.int .i64 (p.frame:Nat)):=by subst hV;go_simp
  have q8:V.cell? ⟨w.heap.size,8,none⟩=some (.int .u32 (p.sum:Nat)):=by subst hV;go_simp
  clear hV;refine(Hmay.out V).mono ?_;rintro e w1 ⟨rfl,e1⟩;have q0:=e1.cell q0;have q1:=e1.cell q1;have q2:=e1.cell q2;have q3:=e1.cell q3;have q4:=e1.cell q4;have q5:=e1.cell q5;have q6:=e1.cell q6;have q7:=e1.cell q7;have q8:=e1.cell q8;have x1:=eV.trans e1;have hw1:w.heap.size+1≤w1.heap.size:=World.block_lt_of_cell? _ _ q0;clear e1 eV;have hlt:w.heap.size<w1.heap.size:=hw1;go_wp2_with fail;generalize hV1:World.alloc w1 _=V1;have eV1:Ext w1 V1:=by subst hV1;exact Ext.alloc _ _
  have o1:Own V1 (w.heap.size+1) 5 1 (some ⟨w1.heap.size,0,none⟩) 3 3 (bcs [UInt8.ofNat 1,UInt8.ofNat p.src,UInt8.ofNat p.dst]):=by
   subst hV1;rw[head_cells 1 p.src p.dst (by decide) (by omega) (by omega)];exact Own.made w1 (w.heap.size+1) _ 1 _ 3 hw1 (by decide) rfl
  have q0:=eV1.cell q0;have q1:=eV1.cell q1;have q2:=eV1.cell q2;have q3:=eV1.cell q3;have q4:=eV1.cell q4;have q5:=eV1.cell q5;have q6:=eV1.cell q6;have q7:=eV1.cell q7;have q8:=eV1.cell q8;have x2:=x1.trans eV1;have hw2:w.heap.size+1≤V1.heap.size:=Nat.le_trans hw1 eV1.size;clear hV1 eV1 x1 hlt;refine(put_any (w.heap.size+1) _ 3 3 _ id V1 (by omega) (by omega) o1 (by decide) hw2).mono ?_;rintro e w2 ⟨B,m,d,rfl,o2,g2,_⟩;have hneq:∀ g,blk (some (⟨w1.heap.size,0,none⟩:Addr))=some g→w.heap.size≠g:=fun g hg=>by simp[blk]at hg;omega
  have q0:=g2.cell q0 (by simp[blk];omega);have q1:=g2.cell q1 (by simp[blk];omega);have q2:=g2.cell q2 (by simp[blk];omega);have q3:=g2.cell q3 (by simp[blk];omega);have q4:=g2.cell q4 (by simp[blk];omega);have q5:=g2.cell q5 (by simp[blk];omega);have q6:=g2.cell q6 (by simp[blk];omega);have q7:=g2.cell q7 (by simp[blk];omega);have q8:=g2.cell q8 (by simp[blk];omega);have x3:=Ext.own x2 g2 (fun k hk=>by simp[blk]at hk;omega);have hw3:w.heap.size+1≤w2.heap.size:=Nat.le_trans hw2 g2.size;have hlt:w.heap.size<w2.heap.size:=hw3;have hm:m≤13:=by have:=o2.len;have h9:=putL_le10 id;simp[bcs_length]at this;omega
  clear o1 g2 x2 hw2 hw1 hneq;go_wp2_with fail;obtain⟨X0,hX0⟩:∃ X,[UInt8.ofNat 1,UInt8.ofNat p.src,UInt8.ofNat p.dst]++putL id=X:=⟨_,rfl⟩;rw[hX0]at o2;have HX0:=hqd hX0;have hX0l:X0.length≤13:=by have:=o2.len;rw[bcs_length]at this;omega
  clear hX0;obtain⟨f,hf0⟩:∃ f:Nat→List UInt8,f=fun j=>X0++([(p.first:Int),(p.ack:Int),(p.frame:Int)].take j).flatMap putL:=⟨_,rfl⟩;have hfl:∀ j,j≤3→(f j).length≤13+10*j:=by
   intro j hj;have h1:=putL_le10 p.first;have h2:=putL_le10 p.ack;have h3:=putL_le10 p.frame;rw[hf0];match j,hj with
   | 0,_=>simp;omega
   | 1,_=>simp;omega
   | 2,_=>simp;omega
   | 3,_=>simp;omega
  have hfs:∀ j (h:j<3),f (j+1)=f j++putL ([(p.first:Int),(p.ack:Int),(p.frame:Int)][j]):=by
   intro j hj;rw[hf0];match j,hj with
   | 0,_=>simp
   | 1,_=>simp
   | 2,_=>simp
  have hf00:f 0=X0:=by rw[hf0];simp
  have hf3:f 3=X0++(putL p.first++putL p.ack++putL p.frame):=by rw[hf0];simp
  have Hfl:=hqd hfl;have Hfs:=hqd hfs;have Hf0:=hqd hf00;have Hf3:=hqd hf3;clear hf0 hfl hfs hf00 hf3;go_loopw [3,32] (fun v i wr=>ekRel w w2 5 f v i wr) (fun _ i _=>3-(intOf i).toNat)
  case atStart=>exact⟨0,B,m,d,rfl,by decide,rfl,by rw[Hf0.out];exact o2,x3,fun _ _ h=>h,Nat.le_refl _⟩
  case round =>
   obtain⟨j9,B9,m9,d9,rfl,hj9,rfl,o9,x9,c9,h9⟩:=hrel;obtain rfl|rfl|rfl|rfl:j9=0∨j9=1∨j9=2∨j9=3:=by omega
   ·have hjl:=Hfl.out 0 (by decide)
    have hs9:=Hfs.out 0 (by decide);have hm9:m9≤43:=by have:=o9.len;rw[bcs_length]at this;omega
    have Hs9:=hqd hs9;clear hs9;have hix:=idx3_0 p.first p.ack p.frame wr;go_wp2_with fail;refine(put_any (w.heap.size+1) _ m9 d9 _ (p.first:Nat) wr (by omega) (by omega) o9 (by omega) (by omega)).mono ?_;rintro e w9 ⟨C,cm,cd,rfl,o10,g10,_⟩;go_wp2_with fail;go_roundw
    case rel=>exact⟨1,C,_,_,by go_num,by decide,rfl,by rw[Hs9.out];exact o10,Ext.own x9 g10 (fun k hk=>by have:=o9.blk_ge k hk;omega),fun o v hv=>g10.cell (c9 o v hv) (fun e=>by have h8:w.heap.size+1≤w.heap.size:=o9.blk_ge _ e.symm;omega),Nat.le_trans h9 g10.size⟩
    case measure=>simp[intOf]
   ·have hjl:=Hfl.out 1 (by decide)
    have hs9:=Hfs.out 1 (by decide);have hm9:m9≤43:=by have:=o9.len;rw[bcs_length]at this;omega
    have Hs9:=hqd hs9;clear hs9;have hix:=idx3_1 p.first p.ack p.frame wr;go_wp2_with fail;refine(put_any (w.heap.size+1) _ m9 d9 _ (p.ack:Nat) wr (by omega) (by omega) o9 (by omega) (by omega)).mono ?_;rintro e w9 ⟨C,cm,cd,rfl,o10,g10,_⟩;go_wp2_with fail;go_roundw
    case rel=>exact⟨2,C,_,_,by go_num,by decide,rfl,by rw[Hs9.out];exact o10,Ext.own x9 g10 (fun k hk=>by have:=o9.blk_ge k hk;omega),fun o v hv=>g10.cell (c9 o v hv) (fun e=>by have h8:w.heap.size+1≤w.heap.size:=o9.blk_ge _ e.symm;omega),Nat.le_trans h9 g10.size⟩
    case measure=>simp[intOf]
   ·have hjl:=Hfl.out 2 (by decide)
    have hs9:=Hfs.out 2 (by decide);have hm9:m9≤43:=by have:=o9.len;rw[bcs_length]at this;omega
    have Hs9:=hqd hs9;clear hs9;have hix:=idx3_2 p.first p.ack p.frame wr;go_wp2_with fail;refine(put_any (w.heap.size+1) _ m9 d9 _ (p.frame:Nat) wr (by omega) (by omega) o9 (by omega) (by omega)).mono ?_;rintro e w9 ⟨C,cm,cd,rfl,o10,g10,_⟩;go_wp2_with fail;go_roundw
    case rel=>exact⟨3,C,_,_,by go_num,by decide,rfl,by rw[Hs9.out];exact o10,Ext.own x9 g10 (fun k hk=>by have:=o9.blk_ge k hk;omega),fun o v hv=>g10.cell (c9 o v hv) (fun e=>by have h8:w.heap.size+1≤w.heap.size:=o9.blk_ge _ e.symm;omega),Nat.le_trans h9 g10.size⟩
    case measure=>simp[intOf]
   ·have r5:=c9 _ _ q5
    have r8:=c9 _ _ q8;have hf3l:=Hfl.out 3 (by decide);have hm9:m9≤43:=by have:=o9.len;rw[bcs_length]at this;omega
    have hlen':p.press.length≤32:=hlen;have hbase_le:w.heap.size+1≤wr.heap.size:=by omega
    have hneC:blk B9≠some w.heap.size:=fun e9=>by have h8:w.heap.size+1≤w.heap.size:=o9.blk_ge _ e9;omega
    have hltC:∀ g,blk B9=some g→g<wr.heap.size:=own_lt o9;have hs32:p.sum<4294967296:=hsu;clear c9 q0 q1 q2 q3 q4 q5 q6 q7 q8;go_wp2_with fail;apply wrH 8 (gR B9) (gRs 4 B9) (gJ 4 (w.heap.size+1) 5 B9 m9 d9 (bcs (f 3))) (gJ.start o9);simp only[tk];repeat apply lxG (fun _ h _ _=>aj (h.cell r5 hneC) (h.cell r8 hneC))
    apply lexG_call (p:=SlP wr.heap.size 5 (bcs (fourL p.sum))) (by decide) (by decide) (SlP.stab hltC)
    ·rfl
    ·intro W
     go_simp;exact⟨rfl,rfl⟩
    ·intro W hR hJ hΦ
     refine(four_any p.sum W hs32).mono ?_;rintro e W' ⟨B,m,d,rfl,ho,hg⟩;exact⟨_,rfl,hg.grownBy _,.inr hg,B,m,d,rfl,ho.mono hR.size⟩
    intro v1;simp only[pu];apply lexG_new (p:=SlP (w.heap.size+1) 5 (bcs (f 3)++bcs (fourL p.sum))) (by decide) (by decide) SlP.stabK
    ·rfl
    ·intro W hR hJ hΦ
     obtain⟨B2,m2,d2,rfl,ho2⟩:=hΦ.1 rfl;have hm2:m2=4:=by have:=ho2.len;simp[bcs_length,fourL_len]at this;omega
     exact exec_append_sl W _ _ 30 rfl (w.heap.size+1) 5 i0 (.int .u8 0) 1 underlying30 hi hz0 hz1 hz2 rfl B9 m9 d9 (bcs (f 3)) rfl (hJ rfl) B2 m2 d2 _ rfl ho2.rd (bcs_one _) (by unfold maxLen;omega) (by omega) (Nat.le_trans hbase_le hR.size)
    intro v3;simp only[pu];repeat apply lxG (fun _ h _ _=>aj (h.cell r5 hneC) (h.cell r8 hneC))
    refine lexG_nil ?_;intro W2 hR2 _ hΦ;obtain⟨D,Dm,Dd,rfl,hoD⟩:=hΦ.1 rfl;simp only[dk];clear hΦ;have hDm:Dm≤47:=by have:=hoD.len;simp only[bcs_length,List.length_append,Nat.mul_one,fourL_len]at this;omega
    have eD:Ext w W2:=Ext.own x9 hR2 (fun k hk=>by have:=o9.blk_ge k hk;omega);have s5:=hR2.cell r5 hneC;have hbD:w.heap.size+1≤W2.heap.size:=Nat.le_trans hbase_le (gR.size hR2);rw[← bcs_append]at hoD;clear r5 r8 hneC hltC o9 hR2;go_wp2_with fail;refine(put_any (w.heap.size+1) D Dm Dd _ (p.press.length:Nat) W2 (by omega) (by omega) hoD (by omega) hbD).mono ?_;rintro e w4 ⟨E,Em,Ed,rfl,o4,g4,_⟩;have x4:=Ext.own eD g4 (fun k hk=>by have:=hoD.blk_ge k hk;omega);have s5:=g4.cell s5 (fun e9=>by have h8:w.heap.size+1≤w.heap.size:=hoD.blk_ge _ e9.symm;omega);have hb4:w.heap.size+1≤w4.heap.size:=Nat.le_trans hbD g4.size;have hEm:Em≤57:=by have:=o4.len;have h8:=putL_le10 (p.press.length:Nat);simp only[bcs_length,List.length_append,Nat.mul_one,fourL_len]at this;omega
    clear g4 hoD eD hbD;go_wp2_with fail;refine(runs_any w4 A _ c p.press ((Rb.ext hb x4)) (by omega)).mono ?_;rintro e w5 ⟨F,Fm,Fd,rfl,o5,e5⟩;have o4:=o4.ext e5;have x5:=x4.trans e5;have hb5:w.heap.size+1≤w5.heap.size:=Nat.le_trans hb4 e5.size;have hFm:Fm≤352:=by have:=o5.len;have h8:=runsG_len _ p.press 0 (Nat.le_refl _);unfold runsL at this;rw[bcs_length]at this;omega
    clear s5 e5 hb4;go_wp2_with (at_builtin;refine wpList_append_to _ rfl _ _ 30 rfl (w.heap.size+1) 5 i0 (.int .u8 0) 1 1 underlying30 hi hz0 hz1 hz2 rfl (by decide) E Em Ed _ rfl o4 F Fm Fd _ rfl o5.rd (bcs_one _) (by unfold maxLen;omega) (by omega) hb5 ?_;intro XA Xd wX hoX hgX _);have hbX:w.heap.size+1≤wX.heap.size:=Nat.le_trans hb5 hgX.size;have xX:=Ext.own x5 hgX (fun k hk=>by have:=o4.blk_ge k hk;omega);rw[← bcs_append]at hoX;obtain⟨X,hX⟩:∃ X,f 3++fourL p.sum++putL ((p.press.length:Nat):Int)++runsL p.press=X:=⟨_,rfl⟩;rw[hX]at hoX;have HX:Hid (X=bodyL id p):=hqd (by rw[Hbody.out,← hX,Hf3.out,← HX0.out];simp[List.append_assoc])
    clear hX;generalize hXm0:Em+Fm=Xm at *;clear hXm0;have hX32:crcL X<4294967296:=crcL_lt X;have hXm:Xm≤500:=by have:=hoX.len;have h9:=hbl;rw[← HX.out]at h9;rw[bcs_length]at this;omega
    refine(crc_any _ XA Xm Xd X (Rb.of hoX.rd rfl)).mono ?_;rintro e w7 ⟨rfl,rfl⟩;go_wp2_with fail;refine(four_any (crcL X) _ hX32).mono ?_;rintro e w8 ⟨F,Fm,Fd,rfl,hoF,e8⟩;have hFm:Fm=4:=by have:=hoF.len;simp[bcs_length,fourL_len]at this;omega
    subst hFm;have hoX8:=hoX.ext e8;have xX8:=xX.trans e8;have hb8:w.heap.size+1≤w8.heap.size:=Nat.le_trans hbX e8.size;go_wp2_with (at_builtin;refine wpList_append_to _ rfl _ _ 30 rfl (w.heap.size+1) 5 i0 (.int .u8 0) 1 1 underlying30 hi hz0 hz1 hz2 rfl (by decide) XA Xm Xd _ rfl hoX8 F 4 Fd _ rfl hoF.rd (bcs_one _) (by unfold maxLen;omega) (by omega) hb8 ?_;intro E Ed VV hoE hgE hwE);go_ret;refine⟨E,_,Ed,rfl,?_,Ext.own xX8 hgE (fun k hk=>by have:=hoX8.blk_ge k hk;omega)⟩;rw[← HZ.out];unfold encPk;rw[bcs_append,← HX.out];exact hoE.mono (Nat.le_succ _)
theorem renc_any(w:World)(id:Int)(p:Pk)(A:Option Addr)(n c:Nat)(hp:okPk p)(hid:okId id)(hb:Rb w A n c p.press) :
  Calls prog 13 #[pkAgg id p A n c] w (Made w 5 1 (bcs (encPk id p))):=by
 obtain⟨i0,hi,hz0,hz1,hz2⟩:=info_parts info_u8;have hn:=hb.len;subst hn;have hmx:=hb.max;have hmay:=fun W=>rmay_pk W id p A p.press.length c hp hid rfl hmx;have Hmay:=hqd hmay;obtain⟨hs,hd,hne,hw⟩:=pk_ways hp;unfold okId at hid;unfold pkAgg at *;clear hmay hp;have hlen:p.press.length≤32:=by rcases hw with ⟨_,_,e,_⟩|⟨_,_,_,_,e,_⟩<;>simp[e]
 have hbl:=bodyL_len id p hlen;obtain⟨Z,hZ⟩:∃ Z,encPk id p=Z:=⟨_,rfl⟩;rw[hZ];have HZ:=hqd hZ;clear hZ;rcases hw with ⟨hq,hf,hpr,hac,hfr,hsu⟩|⟨hq,hf,hac,hfr,hpr,hsu⟩
 ·have hk:kindP p=2:=by simp[kindP,hq]
  rw[hk]at Hmay ⊢;clear hk;clear hmx hf hpr hac hfr hsu;have hbody:bodyL id p=headL p++midL id p:=rfl;simp only[headL,midL,hq,if_true]at hbody;have Hbody:=hqd hbody;clear hbody hq;have hsw:IntKind.u8.wrap ((p.src:Nat):Int)=((p.src:Nat):Int):=by simp[IntKind.wrap,IntKind.bits,IntKind.signed];omega
  have hdw:IntKind.u8.wrap ((p.dst:Nat):Int)=((p.dst:Nat):Int):=by simp[IntKind.wrap,IntKind.bits,IntKind.signed];omega
  go_enter func13,ntmps13;go_wp2_with fail;generalize hV:World.alloc w _=V;have eV:Ext w V:=by subst hV;exact Ext.alloc _ _
  have q0:V.cell? ⟨w.heap.size,0,none⟩=some (.int .i64 2):=by subst hV;go_simp
  have q1:V.cell? ⟨w.heap.size,1,none⟩=some (.int .i64 (p.src:Nat)):=by subst hV;go_simp
  have q2:V.cell? ⟨w.heap.size,2,none⟩=some (.int .i64 (p.dst:Nat)):=by subst hV;go_simp
  have q3:V.cell? ⟨w.heap.size,3,none⟩=some (.int .i64 id):=by subst hV;go_simp
  have q4:V.cell? ⟨w.heap.size,4,none⟩=some (.int .i64 (p.first:Nat)):=by subst hV;go_simp
  have q5:V.cell? ⟨w.heap.size,5,none⟩=some (.slice A p.press.length c):=by subst hV;go_simp
  have q6:V.cell? ⟨w.heap.size,6,none⟩=some (.int .i64 (p.ack:Nat)):=by subst hV;go_simp
  have q7:V.cell? ⟨w.heap.size,7,none⟩=some (.int .i64 (p.frame:Nat)):=by subst hV;go_simp
  have q8:V.cell? ⟨w.heap.size,8,none⟩=some (.int .u32 (p.sum:Nat)):=by subst hV;go_simp
  clear hV;refine(Hmay.out V).mono ?_;rintro e w1 ⟨rfl,e1⟩;have r0:=e1.cell q0;have r1:=e1.cell q1;have r2:=e1.cell q2;have r3:=e1.cell q3;have r4:=e1.cell q4;have r5:=e1.cell q5;have r6:=e1.cell q6;have r7:=e1.cell q7;have r8:=e1.cell q8;have x1:=eV.trans e1;have hw1:w.heap.size+1≤w1.heap.size:=World.block_lt_of_cell? _ _ r0;have hlt:w.heap.size<w1.heap.size:=hw1;clear e1 eV q0 q1 q2 q3 q4 q5 q6 q7 q8;go_wp2_with fail;apply wrH 13 (gR none) (gRs 99 none) (gJ 99 (w.heap.size+1) 5 none 0 0 []) (gJ.start (Own.nil_ w1 (w.heap.size+1) 5 1));simp only[tk];repeat apply lxG (fun _ h _ _=>aj (h.cell r0 (by simp[blk])) (aj (h.cell r1 (by simp[blk])) (aj (h.cell r2 (by simp[blk])) (aj (h.cell r3 (by simp[blk])) (aj (h.cell r4 (by simp[blk])) (aj (h.cell r5 (by simp[blk])) (aj (h.cell r6 (by simp[blk])) (aj (h.cell r7 (by simp[blk])) (h.cell r8 (by simp[blk]))))))))))
  apply lexG_new (p:=NewP w1.heap.size 5 (bcs [UInt8.ofNat 2,UInt8.ofNat p.src,UInt8.ofNat p.dst])) (by decide) (by decide) (NewP.stab (by simp[blk]))
  ·rfl
  ·intro W hR hJ hΦ
   refine⟨.slice (some ⟨W.heap.size,0,none⟩) ((bcs [UInt8.ofNat 2,UInt8.ofNat p.src,UInt8.ofNat p.dst])).length ((bcs [UInt8.ofNat 2,UInt8.ofNat p.src,UInt8.ofNat p.dst])).length,W.alloc (.cells ((bcs [UInt8.ofNat 2,UInt8.ofNat p.src,UInt8.ofNat p.dst])).toArray 5),?_,(Ext.alloc _ _).grownBy _,.inr (Ext.alloc _ _),W.heap.size,rfl,hR.size,heap_alloc_new W _⟩;rw[head_cells 2 p.src p.dst (by decide) (by omega) (by omega)];go_simp;first|done|rfl
  intro v2;simp only[pu];repeat apply lxG (fun _ h _ _=>aj (h.cell r0 (by simp[blk])) (aj (h.cell r1 (by simp[blk])) (aj (h.cell r2 (by simp[blk])) (aj (h.cell r3 (by simp[blk])) (aj (h.cell r4 (by simp[blk])) (aj (h.cell r5 (by simp[blk])) (aj (h.cell r6 (by simp[blk])) (aj (h.cell r7 (by simp[blk])) (h.cell r8 (by simp[blk]))))))))))
  apply lexG_call (p:=SlP w1.heap.size 5 (bcs (putL id))) (by decide) (by decide) (SlP.stab (by simp[blk]))
  ·rfl
  ·intro W
   go_simp;exact⟨rfl,rfl⟩
  ·intro W hR hJ hΦ
   refine(rput_any (id) W (by omega) (by omega)).mono ?_;rintro e W' ⟨B,m,d,rfl,ho,hg0,_⟩;have hg:=ext_of_grown hg0;exact⟨_,rfl,hg.grownBy _,.inr hg,B,m,d,rfl,ho.mono hR.size⟩
  intro v1;simp only[pu];refine lexG_nil ?_;intro W2 hR _ hΦ;obtain⟨F,Fm,Fd,rfl,hoF⟩:=hΦ.1 rfl;obtain⟨g,rfl,hoG⟩:=NewP.own (hΦ.2.1 rfl) (by simp[bcs_length,maxLen]);simp only[dk];clear hΦ;have hFm:Fm≤10:=by have:=hoF.len;have:=putL_le10 id;rw[bcs_length]at *;omega
  have eW:=Ext.own x1 hR (fun k hk=>by simp[blk]at hk);have hb2:w.heap.size+1≤W2.heap.size:=Nat.le_trans hw1 (gR.size hR);have r0:=hR.cell r0 (by simp[blk]);have r1:=hR.cell r1 (by simp[blk]);have r2:=hR.cell r2 (by simp[blk]);have r3:=hR.cell r3 (by simp[blk]);have r4:=hR.cell r4 (by simp[blk]);have r5:=hR.cell r5 (by simp[blk]);have r6:=hR.cell r6 (by simp[blk]);have r7:=hR.cell r7 (by simp[blk]);have r8:=hR.cell r8 (by simp[blk]);have hoG:=hoG.mono hw1;simp only[bcs_length,List.length_cons,List.length_nil,Nat.zero_add,Nat.reduceAdd]at hoG ⊢;have hneD:some w.heap.size≠blk (some (⟨g,0,none⟩:Addr)):=fun e9=>by have h8:w.heap.size+1≤w.heap.size:=hoG.blk_ge _ e9.symm;omega
  clear hR hw1 hlt;go_wp2_with (at_builtin;refine wpList_append_to _ rfl _ _ 30 rfl (w.heap.size+1) 5 i0 (.int .u8 0) 1 1 underlying30 hi hz0 hz1 hz2 rfl (by decide) (some ⟨g,0,none⟩) 3 3 _ rfl hoG F Fm Fd _ rfl hoF.rd (bcs_one _) (by unfold maxLen;omega) (by omega) hb2 ?_;intro B0 B0d B0w hoB0 hgB0 _;have r0:=World.grownBy.cell hgB0 r0 hneD;have r1:=World.grownBy.cell hgB0 r1 hneD;have r2:=World.grownBy.cell hgB0 r2 hneD;have r3:=World.grownBy.cell hgB0 r3 hneD;have r4:=World.grownBy.cell hgB0 r4 hneD;have r5:=World.grownBy.cell hgB0 r5 hneD;have r6:=World.grownBy.cell hgB0 r6 hneD;have r7:=World.grownBy.cell hgB0 r7 hneD;have r8:=World.grownBy.cell hgB0 r8 hneD);have hbB0:w.heap.size+1≤B0w.heap.size:=Nat.le_trans hb2 hgB0.size;have xB0:=Ext.own eW hgB0 (fun k hk=>by have:=hoG.blk_ge k hk;omega);rw[← bcs_append]at hoB0;obtain⟨B0m,hB0m⟩:∃ m,3+Fm=m:=⟨_,rfl⟩;have hmB0:B0m≤13:=by omega
  rw[hB0m]at hoB0 ⊢;clear hB0m hFm hoG hoF hb2 eW hneD hgB0;obtain⟨X0,hX0⟩:∃ X,[UInt8.ofNat 2,UInt8.ofNat p.src,UInt8.ofNat p.dst]++putL id=X:=⟨_,rfl⟩;rw[hX0]at hoB0;have HX0:=hqd hX0;clear hX0;obtain⟨X,hX⟩:∃ X,X0=X:=⟨_,rfl⟩;subst hX;have HX:Hid (X0=bodyL id p):=hqd (by rw[Hbody.out,List.append_nil];exact HX0.out.symm);have hoX:=hoB0;have xX:=xB0;have hbX:=hbB0;have hX32:crcL X0<4294967296:=crcL_lt X0;have hXm:B0m≤500:=by have:=hoX.len;have h9:=hbl;rw[← HX.out]at h9;rw[bcs_length]at this;omega
  refine(rcrc_any _ B0 B0m B0d X0 (Rb.of hoX.rd rfl)).mono ?_;rintro e w7 ⟨rfl,rfl⟩;go_wp2_with fail;refine(rfour_any (crcL X0) _ hX32).mono ?_;rintro e w8 ⟨F,Fm,Fd,rfl,hoF,e8⟩;have hFm:Fm=4:=by have:=hoF.len;simp[bcs_length,fourL_len]at this;omega
  subst hFm;have hoX8:=hoX.ext e8;have xX8:=xX.trans e8;have hb8:w.heap.size+1≤w8.heap.size:=Nat.le_trans hbX e8.size;go_wp2_with (at_builtin;refine wpList_append_to _ rfl _ _ 30 rfl (w.heap.size+1) 5 i0 (.int .u8 0) 1 1 underlying30 hi hz0 hz1 hz2 rfl (by decide) B0 B0m B0d _ rfl hoX8 F 4 Fd _ rfl hoF.rd (bcs_one _) (by unfold maxLen;omega) (by omega) hb8 ?_;intro E Ed VV hoE hgE hwE);go_ret;refine⟨E,_,Ed,rfl,?_,Ext.own xX8 hgE (fun k hk=>by have:=hoX8.blk_ge k hk;omega)⟩;rw[← HZ.out];unfold encPk;rw[bcs_append,← HX.out];exact hoE.mono (Nat.le_succ _)
 ·have hk:kindP p=1:=by simp[kindP,hq]
  rw[hk]at Hmay ⊢;clear hk;clear hmx hpr;have hbody:bodyL id p=headL p++midL id p:=rfl;simp only[headL,midL,hq,if_false,Bool.false_eq_true]at hbody;have Hbody:=hqd hbody;clear hbody hq;have hsw:IntKind.u8.wrap ((p.src:Nat):Int)=((p.src:Nat):Int):=by simp[IntKind.wrap,IntKind.bits,IntKind.signed];omega
  have hdw:IntKind.u8.wrap ((p.dst:Nat):Int)=((p.dst:Nat):Int):=by simp[IntKind.wrap,IntKind.bits,IntKind.signed];omega
  go_enter func13,ntmps13;go_wp2_with fail;generalize hV:World.alloc w _=V;have eV:Ext w V:=by subst hV;exact Ext.alloc _ _
  have q0:V.cell? ⟨w.heap.size,0,none⟩=some (.int .i64 1):=by subst hV;go_simp
  have q1:V.cell? ⟨w.heap.size,1,none⟩=some (.int .i64 (p.src:Nat)):=by subst hV;go_simp
  have q2:V.cell? ⟨w.heap.size,2,none⟩=some (.int .i64 (p.dst:Nat)):=by subst hV;go_simp
  have q3:V.cell? ⟨w.heap.size,3,none⟩=some (.int .i64 id):=by subst hV;go_simp
  have q4:V.cell? ⟨w.heap.size,4,none⟩=some (.int .i64 (p.first:Nat)):=by subst hV;go_simp
  have q5:V.cell? ⟨w.heap.size,5,none⟩=some (.slice A p.press.length c):=by subst hV;go_simp
  have q6:V.cell? ⟨w.heap.size,6,none⟩=some (.int .i64 (p.ack:Nat)):=by subst hV;go_simp
  have q7:V.cell? ⟨w.heap.size,7,none⟩=some (.int .i64 (p.frame:Nat)):=by subst hV;go_simp
  have q8:V.cell? ⟨w.heap.size,8,none⟩=some (.int .u32 (p.sum:Nat)):=by subst hV;go_simp
  clear hV;refine(Hmay.out V).mono ?_;rintro e w1 ⟨rfl,e1⟩;have r0:=e1.cell q0;have r1:=e1.cell q1;have r2:=e1.cell q2;have r3:=e1.cell q3;have r4:=e1.cell q4;have r5:=e1.cell q5;have r6:=e1.cell q6;have r7:=e1.cell q7;have r8:=e1.cell q8;have x1:=eV.trans e1;have hw1:w.heap.size+1≤w1.heap.size:=World.block_lt_of_cell? _ _ r0;have hlt:w.heap.size<w1.heap.size:=hw1;clear e1 eV q0 q1 q2 q3 q4 q5 q6 q7 q8;go_wp2_with fail;apply wrH 13 (gR none) (gRs 99 none) (gJ 99 (w.heap.size+1) 5 none 0 0 []) (gJ.start (Own.nil_ w1 (w.heap.size+1) 5 1));simp only[tk];repeat apply lxG (fun _ h _ _=>aj (h.cell r0 (by simp[blk])) (aj (h.cell r1 (by simp[blk])) (aj (h.cell r2 (by simp[blk])) (aj (h.cell r3 (by simp[blk])) (aj (h.cell r4 (by simp[blk])) (aj (h.cell r5 (by simp[blk])) (aj (h.cell r6 (by simp[blk])) (aj (h.cell r7 (by simp[blk])) (h.cell r8 (by simp[blk]))))))))))
  apply lexG_new (p:=NewP w1.heap.size 5 (bcs [UInt8.ofNat 1,UInt8.ofNat p.src,UInt8.ofNat p.dst])) (by decide) (by decide) (NewP.stab (by simp[blk]))
  ·rfl
  ·intro W hR hJ hΦ
   refine⟨.slice (some ⟨W.heap.size,0,none⟩) ((bcs [UInt8.ofNat 1,UInt8.ofNat p.src,UInt8.ofNat p.dst])).length ((bcs [UInt8.ofNat 1,UInt8.ofNat p.src,UInt8.ofNat p.dst])).length,W.alloc (.cells ((bcs [UInt8.ofNat 1,UInt8.ofNat p.src,UInt8.ofNat p.dst])).toArray 5),?_,(Ext.alloc _ _).grownBy _,.inr (Ext.alloc _ _),W.heap.size,rfl,hR.size,heap_alloc_new W _⟩;rw[head_cells 1 p.src p.dst (by decide) (by omega) (by omega)];go_simp;first|done|rfl
  intro v2;simp only[pu];repeat apply lxG (fun _ h _ _=>aj (h.cell r0 (by simp[blk])) (aj (h.cell r1 (by simp[blk])) (aj (h.cell r2 (by simp[blk])) (aj (h.cell r3 (by simp[blk])) (aj (h.cell r4 (by simp[blk])) (aj (h.cell r5 (by simp[blk])) (aj (h.cell r6 (by simp[blk])) (aj (h.cell r7 (by simp[blk])) (h.cell r8 (by simp[blk]))))))))))
  apply lexG_call (p:=SlP w1.heap.size 5 (bcs (putL id))) (by decide) (by decide) (SlP.stab (by simp[blk]))
  ·rfl
  ·intro W
   go_simp;exact⟨rfl,rfl⟩
  ·intro W hR hJ hΦ
   refine(rput_any (id) W (by omega) (by omega)).mono ?_;rintro e W' ⟨B,m,d,rfl,ho,hg0,_⟩;have hg:=ext_of_grown hg0;exact⟨_,rfl,hg.grownBy _,.inr hg,B,m,d,rfl,ho.mono hR.size⟩
  intro v1;simp only[pu];refine lexG_nil ?_;intro W2 hR _ hΦ;obtain⟨F,Fm,Fd,rfl,hoF⟩:=hΦ.1 rfl;obtain⟨g,rfl,hoG⟩:=NewP.own (hΦ.2.1 rfl) (by simp[bcs_length,maxLen]);simp only[dk];clear hΦ;have hFm:Fm≤10:=by have:=hoF.len;have:=putL_le10 id;rw[bcs_length]at *;omega
  have eW:=Ext.own x1 hR (fun k hk=>by simp[blk]at hk);have hb2:w.heap.size+1≤W2.heap.size:=Nat.le_trans hw1 (gR.size hR);have r0:=hR.cell r0 (by simp[blk]);have r1:=hR.cell r1 (by simp[blk]);have r2:=hR.cell r2 (by simp[blk]);have r3:=hR.cell r3 (by simp[blk]);have r4:=hR.cell r4 (by simp[blk]);have r5:=hR.cell r5 (by simp[blk]);have r6:=hR.cell r6 (by simp[blk]);have r7:=hR.cell r7 (by simp[blk]);have r8:=hR.cell r8 (by simp[blk]);have hoG:=hoG.mono hw1;simp only[bcs_length,List.length_cons,List.length_nil,Nat.zero_add,Nat.reduceAdd]at hoG ⊢;have hneD:some w.heap.size≠blk (some (⟨g,0,none⟩:Addr)):=fun e9=>by have h8:w.heap.size+1≤w.heap.size:=hoG.blk_ge _ e9.symm;omega
  clear hR hw1 hlt;go_wp2_with (at_builtin;refine wpList_append_to _ rfl _ _ 30 rfl (w.heap.size+1) 5 i0 (.int .u8 0) 1 1 underlying30 hi hz0 hz1 hz2 rfl (by decide) (some ⟨g,0,none⟩) 3 3 _ rfl hoG F Fm Fd _ rfl hoF.rd (bcs_one _) (by unfold maxLen;omega) (by omega) hb2 ?_;intro B0 B0d B0w hoB0 hgB0 _;have r0:=World.grownBy.cell hgB0 r0 hneD;have r1:=World.grownBy.cell hgB0 r1 hneD;have r2:=World.grownBy.cell hgB0 r2 hneD;have r3:=World.grownBy.cell hgB0 r3 hneD;have r4:=World.grownBy.cell hgB0 r4 hneD;have r5:=World.grownBy.cell hgB0 r5 hneD;have r6:=World.grownBy.cell hgB0 r6 hneD;have r7:=World.grownBy.cell hgB0 r7 hneD;have r8:=World.grownBy.cell hgB0 r8 hneD);have hbB0:w.heap.size+1≤B0w.heap.size:=Nat.le_trans hb2 hgB0.size;have xB0:=Ext.own eW hgB0 (fun k hk=>by have:=hoG.blk_ge k hk;omega);rw[← bcs_append]at hoB0;obtain⟨B0m,hB0m⟩:∃ m,3+Fm=m:=⟨_,rfl⟩;have hmB0:B0m≤13:=by omega
  rw[hB0m]at hoB0 ⊢;clear hB0m hFm hoG hoF hb2 eW hneD hgB0;obtain⟨X0,hX0⟩:∃ X,[UInt8.ofNat 1,UInt8.ofNat p.src,UInt8.ofNat p.dst]++putL id=X:=⟨_,rfl⟩;rw[hX0]at hoB0;have HX0:=hqd hX0;clear hX0;have hneCB0w:blk B0≠some w.heap.size:=fun e9=>by have h8:w.heap.size+1≤w.heap.size:=hoB0.blk_ge _ e9;omega
  have hltCB0w:∀ g,blk B0=some g→g<B0w.heap.size:=own_lt hoB0;apply wrH 8 (gR B0) (gRs 4 B0) (gJ 4 (w.heap.size+1) 5 B0 B0m B0d (bcs X0)) (gJ.start hoB0);simp only[tk];repeat apply lxG (fun _ h _ _=>aj (h.cell r0 hneCB0w) (aj (h.cell r1 hneCB0w) (aj (h.cell r2 hneCB0w) (aj (h.cell r3 hneCB0w) (aj (h.cell r4 hneCB0w) (aj (h.cell r5 hneCB0w) (aj (h.cell r6 hneCB0w) (aj (h.cell r7 hneCB0w) (h.cell r8 hneCB0w)))))))))
  apply lexG_call (p:=SlP B0w.heap.size 5 (bcs (putL p.first))) (by decide) (by decide) (SlP.stab hltCB0w)
  ·rfl
  ·intro W
   go_simp;exact⟨rfl,rfl⟩
  ·intro W hR hJ hΦ
   refine(rput_any (p.first) W (by omega) (by omega)).mono ?_;rintro e W' ⟨B,m,d,rfl,ho,hg0,_⟩;have hg:=ext_of_grown hg0;exact⟨_,rfl,hg.grownBy _,.inr hg,B,m,d,rfl,ho.mono hR.size⟩
  intro v1;simp only[pu];apply lexG_new (p:=SlP (w.heap.size+1) 5 (bcs X0++bcs (putL p.first))) (by decide) (by decide) SlP.stabK
  ·rfl
  ·intro W hR hJ hΦ
   obtain⟨B2,m2,d2,rfl,ho2⟩:=hΦ.1 rfl;have hm2:m2≤10:=by have:=ho2.len;have h9:=putL_le10 (p.first);rw[bcs_length]at this;omega
   exact exec_append_sl W _ _ 30 rfl (w.heap.size+1) 5 i0 (.int .u8 0) 1 underlying30 hi hz0 hz1 hz2 rfl B0 B0m B0d (bcs X0) rfl (hJ rfl) B2 m2 d2 _ rfl ho2.rd (bcs_one _) (by unfold maxLen;omega) (by omega) (Nat.le_trans hbB0 hR.size)
  intro v3;simp only[pu];repeat apply lxG (fun _ h _ _=>aj (h.cell r0 hneCB0w) (aj (h.cell r1 hneCB0w) (aj (h.cell r2 hneCB0w) (aj (h.cell r3 hneCB0w) (aj (h.cell r4 hneCB0w) (aj (h.cell r5 hneCB0w) (aj (h.cell r6 hneCB0w) (aj (h.cell r7 hneCB0w) (h.cell r8 hneCB0w)))))))))
  apply lexG_call (p:=SlP B0w.heap.size 5 (bcs (putL p.ack))) (by decide) (by decide) (SlP.stab hltCB0w)
  ·rfl
  ·intro W
   go_simp;exact⟨rfl,rfl⟩
  ·intro W hR hJ hΦ
   refine(rput_any (p.ack) W (by omega) (by omega)).mono ?_;rintro e W' ⟨B,m,d,rfl,ho,hg0,_⟩;have hg:=ext_of_grown hg0;exact⟨_,rfl,hg.grownBy _,.inr hg,B,m,d,rfl,ho.mono hR.size⟩
  intro v4;simp only[pu];refine lexG_nil ?_;intro D1w hR _ hΦ;obtain⟨D1F,D1Fm,D1Fd,rfl,hoF⟩:=hΦ.1 rfl;obtain⟨D1,D1m,D1d,rfl,hoD⟩:=hΦ.2.1 rfl;simp only[dk];clear hΦ;have hm1:D1m≤13+10:=by have:=hoD.len;have h7:=hoB0.len;have h9:=putL_le10 (p.first);simp only[bcs_length,List.length_append,Nat.mul_one]at this h7;omega
  have hm2:D1Fm≤10:=by have:=hoF.len;have h9:=putL_le10 (p.ack);rw[bcs_length]at this;omega
  have eD:=Ext.own xB0 hR (fun k hk=>by have:=hoB0.blk_ge k hk;omega);have hbD:w.heap.size+1≤D1w.heap.size:=Nat.le_trans hbB0 (gR.size hR);have r0:=hR.cell r0 hneCB0w;have r1:=hR.cell r1 hneCB0w;have r2:=hR.cell r2 hneCB0w;have r3:=hR.cell r3 hneCB0w;have r4:=hR.cell r4 hneCB0w;have r5:=hR.cell r5 hneCB0w;have r6:=hR.cell r6 hneCB0w;have r7:=hR.cell r7 hneCB0w;have r8:=hR.cell r8 hneCB0w;rw[← bcs_append]at hoD;clear hneCB0w hltCB0w hR;have hneD:some w.heap.size≠blk D1:=fun e9=>by have h8:w.heap.size+1≤w.heap.size:=hoD.blk_ge _ e9.symm;omega
  go_wp2_with (at_builtin;refine wpList_append_to _ rfl _ _ 30 rfl (w.heap.size+1) 5 i0 (.int .u8 0) 1 1 underlying30 hi hz0 hz1 hz2 rfl (by decide) D1 D1m D1d _ rfl hoD D1F D1Fm D1Fd _ rfl hoF.rd (bcs_one _) (by unfold maxLen;omega) (by omega) hbD ?_;intro E1 E1d E1w hoE1 hgE1 _;have r0:=World.grownBy.cell hgE1 r0 hneD;have r1:=World.grownBy.cell hgE1 r1 hneD;have r2:=World.grownBy.cell hgE1 r2 hneD;have r3:=World.grownBy.cell hgE1 r3 hneD;have r4:=World.grownBy.cell hgE1 r4 hneD;have r5:=World.grownBy.cell hgE1 r5 hneD;have r6:=World.grownBy.cell hgE1 r6 hneD;have r7:=World.grownBy.cell hgE1 r7 hneD;have r8:=World.grownBy.cell hgE1 r8 hneD)
  have hbE1:w.heap.size+1≤E1w.heap.size:=Nat.le_trans hbD hgE1.size;have xE1:=Ext.own eD hgE1 (fun k hk=>by have:=hoD.blk_ge k hk;omega);rw[← bcs_append]at hoE1;obtain⟨E1m,hE1m⟩:∃ m,D1m+D1Fm=m:=⟨_,rfl⟩;have hmE1:E1m≤33:=by omega
  rw[hE1m]at hoE1 ⊢;clear hE1m hm1 hm2 hoD hoF hbD eD hneD hgE1;have hneCE1w:blk E1≠some w.heap.size:=fun e9=>by have h8:w.heap.size+1≤w.heap.size:=hoE1.blk_ge _ e9;omega
  have hltCE1w:∀ g,blk E1=some g→g<E1w.heap.size:=own_lt hoE1;apply wrH 8 (gR E1) (gRs 4 E1) (gJ 4 (w.heap.size+1) 5 E1 E1m E1d (bcs (X0++(putL p.first)++(putL p.ack)))) (gJ.start hoE1);simp only[tk];repeat apply lxG (fun _ h _ _=>aj (h.cell r0 hneCE1w) (aj (h.cell r1 hneCE1w) (aj (h.cell r2 hneCE1w) (aj (h.cell r3 hneCE1w) (aj (h.cell r4 hneCE1w) (aj (h.cell r5 hneCE1w) (aj (h.cell r6 hneCE1w) (aj (h.cell r7 hneCE1w) (h.cell r8 hneCE1w)))))))))
  apply lexG_call (p:=SlP E1w.heap.size 5 (bcs (putL p.frame))) (by decide) (by decide) (SlP.stab hltCE1w)
  ·rfl
  ·intro W
   go_simp;exact⟨rfl,rfl⟩
  ·intro W hR hJ hΦ
   refine(rput_any (p.frame) W (by omega) (by omega)).mono ?_;rintro e W' ⟨B,m,d,rfl,ho,hg0,_⟩;have hg:=ext_of_grown hg0;exact⟨_,rfl,hg.grownBy _,.inr hg,B,m,d,rfl,ho.mono hR.size⟩
  intro v1;simp only[pu];apply lexG_new (p:=SlP (w.heap.size+1) 5 (bcs (X0++(putL p.first)++(putL p.ack))++bcs (putL p.frame))) (by decide) (by decide) SlP.stabK
  ·rfl
  ·intro W hR hJ hΦ
   obtain⟨B2,m2,d2,rfl,ho2⟩:=hΦ.1 rfl;have hm2:m2≤10:=by have:=ho2.len;have h9:=putL_le10 (p.frame);rw[bcs_length]at this;omega
   exact exec_append_sl W _ _ 30 rfl (w.heap.size+1) 5 i0 (.int .u8 0) 1 underlying30 hi hz0 hz1 hz2 rfl E1 E1m E1d (bcs (X0++(putL p.first)++(putL p.ack))) rfl (hJ rfl) B2 m2 d2 _ rfl ho2.rd (bcs_one _) (by unfold maxLen;omega) (by omega) (Nat.le_trans hbE1 hR.size)
  intro v3;simp only[pu];repeat apply lxG (fun _ h _ _=>aj (h.cell r0 hneCE1w) (aj (h.cell r1 hneCE1w) (aj (h.cell r2 hneCE1w) (aj (h.cell r3 hneCE1w) (aj (h.cell r4 hneCE1w) (aj (h.cell r5 hneCE1w) (aj (h.cell r6 hneCE1w) (aj (h.cell r7 hneCE1w) (h.cell r8 hneCE1w)))))))))
  apply lexG_call (p:=SlP E1w.heap.size 5 (bcs (fourL p.sum))) (by decide) (by decide) (SlP.stab hltCE1w)
  ·rfl
  ·intro W
   go_simp;exact⟨rfl,rfl⟩
  ·intro W hR hJ hΦ
   refine(rfour_any p.sum W hsu).mono ?_;rintro e W' ⟨B,m,d,rfl,ho,hg⟩;exact⟨_,rfl,hg.grownBy _,.inr hg,B,m,d,rfl,ho.mono hR.size⟩
  intro v4;simp only[pu];refine lexG_nil ?_;intro D2w hR _ hΦ;obtain⟨D2F,D2Fm,D2Fd,rfl,hoF⟩:=hΦ.1 rfl;obtain⟨D2,D2m,D2d,rfl,hoD⟩:=hΦ.2.1 rfl;simp only[dk];clear hΦ;have hm1:D2m≤33+10:=by have:=hoD.len;have h7:=hoE1.len;have h9:=putL_le10 (p.frame);simp only[bcs_length,List.length_append,Nat.mul_one]at this h7;omega
  have hm2:D2Fm≤4:=by have:=hoF.len;have h9:=fourL_len p.sum;rw[bcs_length]at this;omega
  have eD:=Ext.own xE1 hR (fun k hk=>by have:=hoE1.blk_ge k hk;omega);have hbD:w.heap.size+1≤D2w.heap.size:=Nat.le_trans hbE1 (gR.size hR);have r0:=hR.cell r0 hneCE1w;have r1:=hR.cell r1 hneCE1w;have r2:=hR.cell r2 hneCE1w;have r3:=hR.cell r3 hneCE1w;have r4:=hR.cell r4 hneCE1w;have r5:=hR.cell r5 hneCE1w;have r6:=hR.cell r6 hneCE1w;have r7:=hR.cell r7 hneCE1w;have r8:=hR.cell r8 hneCE1w;rw[← bcs_append]at hoD;clear hneCE1w hltCE1w hR;have hneD:some w.heap.size≠blk D2:=fun e9=>by have h8:w.heap.size+1≤w.heap.size:=hoD.blk_ge _ e9.symm;omega
  go_wp2_with (at_builtin;refine wpList_append_to _ rfl _ _ 30 rfl (w.heap.size+1) 5 i0 (.int .u8 0) 1 1 underlying30 hi hz0 hz1 hz2 rfl (by decide) D2 D2m D2d _ rfl hoD D2F D2Fm D2Fd _ rfl hoF.rd (bcs_one _) (by unfold maxLen;omega) (by omega) hbD ?_;intro E2 E2d E2w hoE2 hgE2 _;have r0:=World.grownBy.cell hgE2 r0 hneD;have r1:=World.grownBy.cell hgE2 r1 hneD;have r2:=World.grownBy.cell hgE2 r2 hneD;have r3:=World.grownBy.cell hgE2 r3 hneD;have r4:=World.grownBy.cell hgE2 r4 hneD;have r5:=World.grownBy.cell hgE2 r5 hneD;have r6:=World.grownBy.cell hgE2 r6 hneD;have r7:=World.grownBy.cell hgE2 r7 hneD;have r8:=World.grownBy.cell hgE2 r8 hneD)
  have hbE2:w.heap.size+1≤E2w.heap.size:=Nat.le_trans hbD hgE2.size;have xE2:=Ext.own eD hgE2 (fun k hk=>by have:=hoD.blk_ge k hk;omega);rw[← bcs_append]at hoE2;obtain⟨E2m,hE2m⟩:∃ m,D2m+D2Fm=m:=⟨_,rfl⟩;have hmE2:E2m≤47:=by omega
  rw[hE2m]at hoE2 ⊢;clear hE2m hm1 hm2 hoD hoF hbD eD hneD hgE2;have hneCE2w:blk E2≠some w.heap.size:=fun e9=>by have h8:w.heap.size+1≤w.heap.size:=hoE2.blk_ge _ e9;omega
  have hltCE2w:∀ g,blk E2=some g→g<E2w.heap.size:=own_lt hoE2;apply wrH 9 (gR E2) (gRs 5 E2) (gJ 5 (w.heap.size+1) 5 E2 E2m E2d (bcs ((X0++(putL p.first)++(putL p.ack))++(putL p.frame)++(fourL p.sum)))) (gJ.start hoE2);simp only[tk];repeat apply lxG (fun _ h _ _=>aj (h.cell r0 hneCE2w) (aj (h.cell r1 hneCE2w) (aj (h.cell r2 hneCE2w) (aj (h.cell r3 hneCE2w) (aj (h.cell r4 hneCE2w) (aj (h.cell r5 hneCE2w) (aj (h.cell r6 hneCE2w) (aj (h.cell r7 hneCE2w) (h.cell r8 hneCE2w)))))))))
  apply lexG_call (p:=SlP E2w.heap.size 5 (bcs (putL p.press.length))) (by decide) (by decide) (SlP.stab hltCE2w)
  ·rfl
  ·intro W
   go_simp;exact⟨rfl,rfl⟩
  ·intro W hR hJ hΦ
   refine(rput_any (p.press.length) W (by omega) (by omega)).mono ?_;rintro e W' ⟨B,m,d,rfl,ho,hg0,_⟩;have hg:=ext_of_grown hg0;exact⟨_,rfl,hg.grownBy _,.inr hg,B,m,d,rfl,ho.mono hR.size⟩
  intro v1;simp only[pu];apply lexG_new (p:=SlP (w.heap.size+1) 5 (bcs ((X0++(putL p.first)++(putL p.ack))++(putL p.frame)++(fourL p.sum))++bcs (putL p.press.length))) (by decide) (by decide) SlP.stabK
  ·rfl
  ·intro W hR hJ hΦ
   obtain⟨B2,m2,d2,rfl,ho2⟩:=hΦ.1 rfl;have hm2:m2≤10:=by have:=ho2.len;have h9:=putL_le10 (p.press.length);rw[bcs_length]at this;omega
   exact exec_append_sl W _ _ 30 rfl (w.heap.size+1) 5 i0 (.int .u8 0) 1 underlying30 hi hz0 hz1 hz2 rfl E2 E2m E2d (bcs ((X0++(putL p.first)++(putL p.ack))++(putL p.frame)++(fourL p.sum))) rfl (hJ rfl) B2 m2 d2 _ rfl ho2.rd (bcs_one _) (by unfold maxLen;omega) (by omega) (Nat.le_trans hbE2 hR.size)
  intro v3;simp only[pu];repeat apply lxG (fun _ h _ _=>aj (h.cell r0 hneCE2w) (aj (h.cell r1 hneCE2w) (aj (h.cell r2 hneCE2w) (aj (h.cell r3 hneCE2w) (aj (h.cell r4 hneCE2w) (aj (h.cell r5 hneCE2w) (aj (h.cell r6 hneCE2w) (aj (h.cell r7 hneCE2w) (h.cell r8 hneCE2w)))))))))
  apply lexG_call (p:=SlP E2w.heap.size 5 (bcs (runsL p.press))) (by decide) (by decide) (SlP.stab hltCE2w)
  ·rfl
  ·intro W
   go_simp;exact⟨rfl,rfl⟩
  ·intro W hR hJ hΦ
   refine(rruns_any W A _ c p.press (Rb.ext hb (Ext.own xE2 hR (fun k hk=>by have:=hoE2.blk_ge k hk;omega))) (by omega)).mono ?_;rintro e W' ⟨B,m,d,rfl,ho,hg⟩;exact⟨_,rfl,hg.grownBy _,.inr hg,B,m,d,rfl,ho.mono hR.size⟩
  intro v4;simp only[pu];refine lexG_nil ?_;intro D3w hR _ hΦ;obtain⟨D3F,D3Fm,D3Fd,rfl,hoF⟩:=hΦ.1 rfl;obtain⟨D3,D3m,D3d,rfl,hoD⟩:=hΦ.2.1 rfl;simp only[dk];clear hΦ;have hm1:D3m≤47+10:=by have:=hoD.len;have h7:=hoE2.len;have h9:=putL_le10 (p.press.length);simp only[bcs_length,List.length_append,Nat.mul_one]at this h7;omega
  have hm2:D3Fm≤352:=by have:=hoF.len;have h9:=runsG_len _ p.press 0 (Nat.le_refl _);unfold runsL at this;rw[bcs_length]at this;omega
  have eD:=Ext.own xE2 hR (fun k hk=>by have:=hoE2.blk_ge k hk;omega);have hbD:w.heap.size+1≤D3w.heap.size:=Nat.le_trans hbE2 (gR.size hR);have r0:=hR.cell r0 hneCE2w;have r1:=hR.cell r1 hneCE2w;have r2:=hR.cell r2 hneCE2w;have r3:=hR.cell r3 hneCE2w;have r4:=hR.cell r4 hneCE2w;have r5:=hR.cell r5 hneCE2w;have r6:=hR.cell r6 hneCE2w;have r7:=hR.cell r7 hneCE2w;have r8:=hR.cell r8 hneCE2w;rw[← bcs_append]at hoD;clear hneCE2w hltCE2w hR;have hneD:some w.heap.size≠blk D3:=fun e9=>by have h8:w.heap.size+1≤w.heap.size:=hoD.blk_ge _ e9.symm;omega
  go_wp2_with (at_builtin;refine wpList_append_to _ rfl _ _ 30 rfl (w.heap.size+1) 5 i0 (.int .u8 0) 1 1 underlying30 hi hz0 hz1 hz2 rfl (by decide) D3 D3m D3d _ rfl hoD D3F D3Fm D3Fd _ rfl hoF.rd (bcs_one _) (by unfold maxLen;omega) (by omega) hbD ?_;intro E3 E3d E3w hoE3 hgE3 _;have r0:=World.grownBy.cell hgE3 r0 hneD;have r1:=World.grownBy.cell hgE3 r1 hneD;have r2:=World.grownBy.cell hgE3 r2 hneD;have r3:=World.grownBy.cell hgE3 r3 hneD;have r4:=World.grownBy.cell hgE3 r4 hneD;have r5:=World.grownBy.cell hgE3 r5 hneD;have r6:=World.grownBy.cell hgE3 r6 hneD;have r7:=World.grownBy.cell hgE3 r7 hneD;have r8:=World.grownBy.cell hgE3 r8 hneD)
  have hbE3:w.heap.size+1≤E3w.heap.size:=Nat.le_trans hbD hgE3.size;have xE3:=Ext.own eD hgE3 (fun k hk=>by have:=hoD.blk_ge k hk;omega);rw[← bcs_append]at hoE3;obtain⟨E3m,hE3m⟩:∃ m,D3m+D3Fm=m:=⟨_,rfl⟩;have hmE3:E3m≤409:=by omega
  rw[hE3m]at hoE3 ⊢;clear hE3m hm1 hm2 hoD hoF hbD eD hneD hgE3;obtain⟨X,hX⟩:∃ X,(((X0++(putL p.first)++(putL p.ack))++(putL p.frame)++(fourL p.sum))++(putL p.press.length)++(runsL p.press))=X:=⟨_,rfl⟩;rw[hX]at hoE3;have HX:Hid (X=bodyL id p):=hqd (by rw[Hbody.out,← hX,← HX0.out];simp[List.append_assoc])
  clear hX;have hoX:=hoE3;have xX:=xE3;have hbX:=hbE3;have hX32:crcL X<4294967296:=crcL_lt X;have hXm:E3m≤500:=by have:=hoX.len;have h9:=hbl;rw[← HX.out]at h9;rw[bcs_length]at this;omega
  refine(rcrc_any _ E3 E3m E3d X (Rb.of hoX.rd rfl)).mono ?_;rintro e w7 ⟨rfl,rfl⟩;go_wp2_with fail;refine(rfour_any (crcL X) _ hX32).mono ?_;rintro e w8 ⟨F,Fm,Fd,rfl,hoF,e8⟩;have hFm:Fm=4:=by have:=hoF.len;simp[bcs_length,fourL_len]at this;omega
  subst hFm;have hoX8:=hoX.ext e8;have xX8:=xX.trans e8;have hb8:w.heap.size+1≤w8.heap.size:=Nat.le_trans hbX e8.size;go_wp2_with (at_builtin;refine wpList_append_to _ rfl _ _ 30 rfl (w.heap.size+1) 5 i0 (.int .u8 0) 1 1 underlying30 hi hz0 hz1 hz2 rfl (by decide) E3 E3m E3d _ rfl hoX8 F 4 Fd _ rfl hoF.rd (bcs_one _) (by unfold maxLen;omega) (by omega) hb8 ?_;intro E Ed VV hoE hgE hwE);go_ret;refine⟨E,_,Ed,rfl,?_,Ext.own xX8 hgE (fun k hk=>by have:=hoX8.blk_ge k hk;omega)⟩;rw[← HZ.out];unfold encPk;rw[bcs_append,← HX.out];exact hoE.mono (Nat.le_succ _)
theorem Ext.setc{w a:World}(h:Ext w a){p:Addr}(hb:w.heap.size≤p.block)(v:Value):Ext w (a.setCell p v) :=
 Ext.own (B:=some p) h (setc_grown a p v) (fun k hk=>by cases hk;exact hb)
structure Cf where
 n:Nat
 id:Nat
 delay:Nat
 window:Nat
 guess:Nat
 order:Nat
 branches:Nat
 workers:Nat
 room:Nat
structure CfOk(cf:Cf):Prop where
 n2:2≤cf.n
 n8:cf.n≤8
 id:cf.id≤1099511627776
 delay:cf.delay≤8
 win1:1≤cf.window
 win:cf.window≤16
 by_:(cf.guess=1∧cf.order=0)∨(cf.guess=2∧cf.order≤3)
 branches:cf.branches≤8
 workers:cf.workers≤4
 room3:3≤cf.room
 room:cf.room≤50
def confCells(cf:Cf)(me:Nat):List Value:=[.int .i64 (cf.n:Nat),.int .i64 (me:Nat),.int .i64 (cf.id:Nat),.int .i64 (cf.delay:Nat),.int .i64 (cf.window:Nat),.int .i64 (cf.guess:Nat),.int .i64 (cf.order:Nat),.int .i64 (cf.branches:Nat),.int .i64 (cf.workers:Nat),.int .i64 (cf.room:Nat)]
def confV(cf:Cf)(me:Nat):Value:=.agg #[.int .i64 (cf.n:Nat),.int .i64 (me:Nat),.int .i64 (cf.id:Nat),.int .i64 (cf.delay:Nat),.int .i64 (cf.window:Nat),.int .i64 (cf.guess:Nat),.int .i64 (cf.order:Nat),.int .i64 (cf.branches:Nat),.int .i64 (cf.workers:Nat),.int .i64 (cf.room:Nat)]
def peerC(c:Cr)(i:Nat):List Value:=[.int .i64 (c.has i:Nat),.int .i64 (c.heard i:Nat),.int .i64 ((c.words i).1:Nat),.int .u32 ((c.words i).2:Nat),.bool false]
def evC(e:Nat×Nat):Value:=evW (e.1:Nat) (e.2:Nat) 0
structure CoreAt(w:World)(T:Tg)(t b:Nat)(cf:Cf)(me qb:Nat)(ps:Nat→Nat)(c:Cr)(mk:List Nat):Prop where
 blk:∃ PA pc MA mc EA ec,Has w T t b (confCells cf me++[ptrV qb,.slice PA cf.n pc,.slice MA mk.length mc,.slice EA c.evs.length ec,.int .i64 (c.now:Nat),.bool c.closed])
  ∧Row w T (t+1) 297 5 PA cf.n pc ((List.range cf.n).flatMap (peerC c))∧Row w T (t+2) 32 1 MA mk.length mc (mk.map fun s=>.int .u32 (s:Nat))∧Row w T (t+3) 197 1 EA c.evs.length ec (c.evs.map evC)
 que:QueueAt w T (t+4) qb ps c.ls
structure CrOk(cf:Cf)(me:Nat)(c:Cr)(mk:List Nat):Prop where
 ok:CfOk cf
 me:me<cf.n
 len:c.ls.length=cf.n
 short:∀ l∈c.ls,l.length≤1000
 now:c.now≤1000000
 evs:c.evs.length≤1000000
 has:∀ i,c.has i≤1000
 heard:∀ i,c.heard i≤c.now
 words:∀ i,(c.words i).1≤1000∧(c.words i).2<4294967296
 marks:mk.length≤1000
 sums:∀ s∈mk,s<4294967296
section
variable {w w':World} {T T':Tg} {t b:Nat} {cf:Cf} {me qb:Nat} {ps:Nat→Nat} {c:Cr} {mk:List Nat}
theorem CoreAt.turn{S:Nat→Prop}(h:CoreAt w T t b cf me qb ps c mk)(hT:Turn S w T w' T')(hs:∀ k,In t (6+2*c.ls.length) k→¬ S k):CoreAt w' T' t b cf me qb ps c mk:=by
 obtain⟨⟨PA,pc,MA,mc,EA,ec,h1,h2,h3,h4⟩,h5⟩:=h;refine⟨⟨PA,pc,MA,mc,EA,ec,h1.turn hT (hs _ (by unfold In;omega)),h2.turn hT (hs _ (by unfold In;omega)),h3.turn hT (hs _ (by unfold In;omega)),h4.turn hT (hs _ (by unfold In;omega))⟩,h5.turn hT fun k hk=>hs _ (by unfold In;omega)⟩
theorem CoreAt.ext(h:CoreAt w T t b cf me qb ps c mk)(e:Ext w w'):CoreAt w' T t b cf me qb ps c mk:=by
 obtain⟨⟨PA,pc,MA,mc,EA,ec,h1,h2,h3,h4⟩,h5⟩:=h;exact⟨⟨PA,pc,MA,mc,EA,ec,h1.ext e,h2.ext e,h3.ext e,h4.ext e⟩,h5.ext e⟩
structure CoreC(w:World)(b:Nat)(cf:Cf)(me qb:Nat)(c:Cr)(PA MA EA:Option Addr)(pc m mc ec:Nat):Prop where
 c0:w.cell? ⟨b,0,none⟩=some (.int .i64 (cf.n:Nat))
 c1:w.cell? ⟨b,1,none⟩=some (.int .i64 (me:Nat))
 c2:w.cell? ⟨b,2,none⟩=some (.int .i64 (cf.id:Nat))
 c3:w.cell? ⟨b,3,none⟩=some (.int .i64 (cf.delay:Nat))
 c4:w.cell? ⟨b,4,none⟩=some (.int .i64 (cf.window:Nat))
 c5:w.cell? ⟨b,5,none⟩=some (.int .i64 (cf.guess:Nat))
 c6:w.cell? ⟨b,6,none⟩=some (.int .i64 (cf.order:Nat))
 c7:w.cell? ⟨b,7,none⟩=some (.int .i64 (cf.branches:Nat))
 c8:w.cell? ⟨b,8,none⟩=some (.int .i64 (cf.workers:Nat))
 c9:w.cell? ⟨b,9,none⟩=some (.int .i64 (cf.room:Nat))
 c10:w.cell? ⟨b,10,none⟩=some (.pointer (some ⟨qb,0,none⟩))
 c11:w.cell? ⟨b,11,none⟩=some (.slice PA cf.n pc)
 c12:w.cell? ⟨b,12,none⟩=some (.slice MA m mc)
 c13:w.cell? ⟨b,13,none⟩=some (.slice EA c.evs.length ec)
 c14:w.cell? ⟨b,14,none⟩=some (.int .i64 (c.now:Nat))
 c15:w.cell? ⟨b,15,none⟩=some (.bool c.closed)
theorem coreC{PA MA EA:Option Addr}{pc m mc ec:Nat}(h:Has w T t b (confCells cf me++[ptrV qb,.slice PA cf.n pc,.slice MA m mc,.slice EA c.evs.length ec,.int .i64 (c.now:Nat),.bool c.closed])):CoreC w b cf me qb c PA MA EA pc m mc ec :=
 ⟨h.cell rfl,h.cell rfl,h.cell rfl,h.cell rfl,h.cell rfl,h.cell rfl,h.cell rfl,h.cell rfl,h.cell rfl,h.cell rfl,h.cell rfl,h.cell rfl,h.cell rfl,h.cell rfl,h.cell rfl,h.cell rfl⟩
theorem core_queue(h:CoreAt w T t b cf me qb ps c mk):Calls prog 169 #[ptrV b] w fun e w'=>e = .returned (ptrV qb)∧w'=w:=by
 obtain⟨⟨PA,pc,MA,mc,EA,ec,h1,_,_,_⟩,_⟩:=h;have c10:=(coreC h1).c10;clear h1;unfold ptrV at *;go_enter func169,ntmps169;go_wp2_with fail;go_ret;exact⟨rfl,rfl⟩
theorem core_closed(h:CoreAt w T t b cf me qb ps c mk):Calls prog 70 #[ptrV b] w fun e w'=>e = .returned (.bool c.closed)∧w'=w:=by
 obtain⟨⟨PA,pc,MA,mc,EA,ec,h1,_,_,_⟩,_⟩:=h;have c15:=(coreC h1).c15;clear h1;unfold ptrV at *;go_enter func70,ntmps70;go_wp2_with fail;go_ret;exact⟨rfl,rfl⟩
theorem core_marks(h:CoreAt w T t b cf me qb ps c mk):Calls prog 168 #[ptrV b] w fun e w'=>e = .returned (.int .i64 (mk.length:Nat))∧w'=w:=by
 obtain⟨⟨PA,pc,MA,mc,EA,ec,h1,_,_,_⟩,_⟩:=h;have c12:=(coreC h1).c12;clear h1;unfold ptrV at *;go_enter func168,ntmps168;go_wp2_with fail;go_ret;exact⟨rfl,rfl⟩
theorem core_conf(h:CoreAt w T t b cf me qb ps c mk):Calls prog 282 #[ptrV b] w fun e w'=>e = .returned (confV cf me)∧Ext w w':=by
 obtain⟨⟨PA,pc,MA,mc,EA,ec,h1,_,_,_⟩,_⟩:=h;obtain⟨c0,c1,c2,c3,c4,c5,c6,c7,c8,c9,_,_,_,_,_,_⟩:=coreC h1;have hlt:=h1.lt;clear h1;unfold ptrV confV at *;go_enter func282,ntmps282;go_wp2_with fail;exact bodyPost_ret (v:=.agg #[.int .i64 (cf.n:Nat),.int .i64 (me:Nat),.int .i64 (cf.id:Nat),.int .i64 (cf.delay:Nat),.int .i64 (cf.window:Nat),.int .i64 (cf.guess:Nat),.int .i64 (cf.order:Nat),.int .i64 (cf.branches:Nat),.int .i64 (cf.workers:Nat),.int .i64 (cf.room:Nat)]) (by simp[results,Tryz.results282,go_sem]) rfl ⟨rfl,Ext.alloc _ _⟩
theorem fld_me(a0 a1 a2 a3 a4 a5 a6 a7 a8 a9:Int)(w:World):(Instr.field 26 (.agg #[.int .i64 a0,.int .i64 a1,.int .i64 a2,.int .i64 a3,.int .i64 a4,.int .i64 a5,.int .i64 a6,.int .i64 a7,.int .i64 a8,.int .i64 a9]) 1).run prog w = .ok (.int .i64 a1) w:=by kernel_rfl
theorem core_head(h:CoreAt w T t b cf me qb ps c mk)(hk:CrOk cf me c mk):Calls prog 265 #[ptrV b] w fun e w'=>e = .returned (.int .i64 (c.head me:Nat))∧Ext w w':=by
 have hml:me<c.ls.length:=by rw[hk.len];exact hk.me
 have h1:=hqd (core_queue h);have h2:=hqd (core_conf h);have h3:=hqd fun W (e:Ext w W)=>queue_line (h.que.ext e) (by rw[hk.len];exact hk.ok.n8) hml;have h4:=hqd fun W (e:Ext w W)=>line_len ((h.que.line me hml).ext e);have hm:(c.head me)=c.ls[me].length:=by simp[Cr.head,Cr.mine,List.getD_eq_getElem?_getD,hml]
 rw[hm];unfold ptrV confV at *;clear h hk hm;go_enter func265,ntmps265;go_wp2_with fail;refine h1.out.mono ?_;rintro e w1 ⟨rfl,rfl⟩;go_wp2_with fail;refine h2.out.mono ?_;rintro e w2 ⟨rfl,e2⟩;have hfld:=fld_me cf.n me cf.id cf.delay cf.window cf.guess cf.order cf.branches cf.workers cf.room w2;go_wp2_with fail;refine(h3.out _ e2).mono ?_;rintro e w3 ⟨rfl,rfl⟩;go_wp2_with fail;refine(h4.out _ e2).mono ?_;rintro e w4 ⟨rfl,rfl⟩;go_wp2_with fail;go_ret;exact⟨rfl,e2⟩
theorem CoreAt.line(h:CoreAt w T t b cf me qb ps c mk){p:Nat}(hp:p<c.ls.length){l:List UInt8}(hT:Turn (In (t+4+2+2*p) 2) w T w' T')(hl:LineAt w' T' (t+4+2+2*p) (ps p) l):CoreAt w' T' t b cf me qb ps {c with ls:=c.ls.set p l} mk:=by
 obtain⟨⟨PA,pc,MA,mc,EA,ec,h1,h2,h3,h4⟩,h5⟩:=h;exact⟨⟨PA,pc,MA,mc,EA,ec,h1.turn hT (by unfold In;omega),h2.turn hT (by unfold In;omega),h3.turn hT (by unfold In;omega),h4.turn hT (by unfold In;omega)⟩,h5.put hp hT hl⟩
end
def Quiet(cf:Cf)(c:Cr)(mk:List Nat):Prop:=∀ i,i<cf.n→(c.words i).1=0∨mk.length<(c.words i).1∨(0<(c.words i).1∧(c.words i).1≤mk.length∧mk.getD ((c.words i).1-1) 0=(c.words i).2)
section
variable {w w':World} {T T':Tg} {t b:Nat} {cf:Cf} {me qb:Nat} {ps:Nat→Nat} {c:Cr} {mk:List Nat}
theorem core_press(h:CoreAt w T t b cf me qb ps c mk)(hk:CrOk cf me c mk)(hu:Unborn w T)(x:UInt8):Calls prog 287 #[ptrV b,.int .u8 (x.toNat:Nat)] w (Does (In t 22) w T (.int .i64 (c.pressE me cf.window:Nat)) fun w' T'=>CoreAt w' T' t b cf me qb ps (c.press me cf.window x) mk):=by
 have hml:me<c.ls.length:=by rw[hk.len];exact hk.me
 have hm8:=hk.ok.n8;have hmn:=hk.me;have H1:=hqd (core_closed h);have H2:=hqd fun W (e:Ext w W)=>core_head (h.ext e) hk;have H3:=hqd fun W (e:Ext w W)=>queue_front (h.que.ext e) (by rw[hk.len];exact hk.ok.n8) (by omega) hk.short;have H4:=hqd fun W (e:Ext w W)=>queue_line (h.que.ext e) (by rw[hk.len];exact hk.ok.n8) hml;have H5:=hqd fun W (e:Ext w W) (hl:c.ls[me].length<1000)=>line_add ((h.que.line me hml).ext e) (hu.ext e) x hl;have hm:(c.head me)=c.ls[me].length:=by simp[Cr.head,Cr.mine,List.getD_eq_getElem?_getD,hml]
 have hmi:(c.mine me)=c.ls[me]:=by simp[Cr.mine,List.getD_eq_getElem?_getD,hml]
 have hfr:c.front≤1000:=Nat.le_trans (frontL_le _ _ (List.getElem_mem hml)) (hk.short _ (List.getElem_mem hml));have hhd:c.head me≤1000:=by rw[hm];exact hk.short _ (List.getElem_mem hml)
 have hfh:c.front≤c.head me:=by rw[hm];exact frontL_le _ _ (List.getElem_mem hml)
 have Hu:=hqd hu;have Hh:=hqd h;obtain⟨PA,pc,MA,mc,EA,ec,h1,_,_,_⟩:=h.blk;obtain⟨c0,c1,c2,c3,c4,c5,c6,c7,c8,c9,c10,c11,c12,c13,c14,c15⟩:=coreC h1;have HP:c.pressE me cf.window=if c.closed then 6 else if 1000≤c.head me then 4 else if cf.window≤c.head me-c.front then 5 else 0:=rfl
 have HN:c.press me cf.window x=if c.pressE me cf.window=0 then {c with ls:=c.ls.set me (c.mine me++[x])} else c:=rfl
 have hF:frontL c.ls=c.front:=rfl;rw[hF]at H3;unfold ptrV at *;clear h h1 hu c0 c2 c3 c5 c6 c7 c8 c9 c11 c12 c13 c14;by_cases hcl:c.closed=true
 ·rw[if_pos hcl]at HP
  rw[HP,if_neg (by decide)]at HN;rw[HP,HN];rw[hcl]at H1;clear HP HN;go_enter func287,ntmps287;go_wp2_with fail;refine H1.out.mono ?_;rintro e w1 ⟨rfl,rfl⟩;go_wp2_with fail;go_ret;exact⟨rfl,T,Turn.refl _ Hu.out,Hh.out⟩
 rw[if_neg hcl]at HP;have hcf:c.closed=false:=by simpa using hcl
 rw[hcf]at H1;by_cases hfull:1000≤c.head me
 ·rw[if_pos hfull]at HP
  rw[HP,if_neg (by decide)]at HN;rw[HP,HN];have hd1:decide (1000≤c.head me)=true:=decide_eq_true hfull;have hd1':decide ((1000:Int)≤(c.head me:Int))=true:=decide_eq_true (by omega);clear HP HN;go_enter func287,ntmps287;go_wp2_with fail;refine H1.out.mono ?_;rintro e w1 ⟨rfl,rfl⟩;go_wp2_with fail;refine(H2.out _ (Ext.refl _)).mono ?_;rintro e w2 ⟨rfl,e2⟩;go_wp2_with fail;go_ret;exact⟨rfl,T,Turn.of_ext _ Hu.out e2,Hh.out.ext e2⟩
 rw[if_neg hfull]at HP;have hd1:decide (1000≤c.head me)=false:=decide_eq_false hfull;have hd1':decide ((1000:Int)≤(c.head me:Int))=false:=decide_eq_false (by omega);have hw1:IntKind.i64.wrap ((c.head me:Int)-(c.front:Int))=(c.head me:Int)-(c.front:Int):=IntWalk.i64_in _ (by omega);by_cases hst:cf.window≤c.head me-c.front
 ·rw[if_pos hst]at HP
  rw[HP,if_neg (by decide)]at HN;rw[HP,HN];have hd2:decide ((cf.window:Int)≤(c.head me:Int)-(c.front:Int))=true:=decide_eq_true (by omega);clear HP HN;generalize c.head me=hd at *;generalize c.front=fr at *;go_enter func287,ntmps287;go_wp2_with fail;refine H1.out.mono ?_;rintro e w1 ⟨rfl,rfl⟩;go_wp2_with fail;refine(H2.out _ (Ext.refl _)).mono ?_;rintro e w2 ⟨rfl,e2⟩;go_wp2_with fail;replace c4:=e2.cell c4;replace c10:=e2.cell c10;apply wrN 13;simp only[tk];repeat apply lxA (fun _ h _=>aj (h.cell c4) (h.cell c10))
  apply lxC (fun W hR=>H2.out W (e2.trans hR));repeat apply lxA (fun _ h _=>aj (h.cell c4) (h.cell c10))
  apply lxC (fun W hR=>H3.out W (e2.trans hR));repeat apply lxA (fun _ h _=>aj (h.cell c4) (h.cell c10))
  refine lex_nil ?_;intro Wx hWx hΦ;clear hΦ;simp only[dk];go_wp2_with fail;go_ret;exact⟨rfl,T,Turn.of_ext _ Hu.out (e2.trans hWx),Hh.out.ext (e2.trans hWx)⟩
 ·rw[if_neg hst]at HP
  rw[HP,if_pos rfl,hmi]at HN;rw[HP,HN];have hd2:decide ((cf.window:Int)≤(c.head me:Int)-(c.front:Int))=false:=decide_eq_false (by omega);have hl9:c.ls[me].length<1000:=by omega
  have Hl9:=hqd hl9;clear HP HN hm hmi;generalize c.head me=hd at *;generalize c.front=fr at *;go_enter func287,ntmps287;go_wp2_with fail;refine H1.out.mono ?_;rintro e w1 ⟨rfl,rfl⟩;go_wp2_with fail;refine(H2.out _ (Ext.refl _)).mono ?_;rintro e w2 ⟨rfl,e2⟩;go_wp2_with fail;have c4':=e2.cell c4;have c10':=e2.cell c10;apply wrN 13;simp only[tk];repeat apply lxA (fun _ h _=>aj (h.cell c4') (h.cell c10'))
  apply lxC (fun W hR=>H2.out W (e2.trans hR));repeat apply lxA (fun _ h _=>aj (h.cell c4') (h.cell c10'))
  apply lxC (fun W hR=>H3.out W (e2.trans hR));repeat apply lxA (fun _ h _=>aj (h.cell c4') (h.cell c10'))
  refine lex_nil ?_;intro Wx hWx hΦ;clear hΦ c4' c10';simp only[dk];go_wp2_with fail;have e3:=e2.trans hWx;have c1':=e3.cell c1;have c10':=e3.cell c10;clear hWx;rename_i Wx;apply wrN 11;simp only[tk];repeat apply lxA (fun _ h _=>aj (h.cell c1') (h.cell c10'))
  apply lxC (fun W hR=>H4.out W (e3.trans hR));repeat apply lxA (fun _ h _=>aj (h.cell c1') (h.cell c10'))
  refine lex_nil ?_;intro Wx hWx hΦ;clear hΦ;simp only[dk];go_wp2_with fail;have e4:=e3.trans hWx;refine(H5.out _ e4 Hl9.out).mono ?_;rintro e w5 ⟨rfl,T5,hT5,hL5⟩;go_wp2_with fail;go_ret;exact⟨rfl,T5,((Turn.of_ext _ Hu.out e4).trans (hT5.sub (by omega) (by omega))),(Hh.out.ext e4).line hml hT5 hL5⟩
theorem flat_len{α:Type}(f:Nat→List α)(k:Nat)(hf:∀ i,(f i).length=k):∀ n:Nat,((List.range n).flatMap f).length=n*k
 | 0=>by simp
 | n+1=>by
  rw[List.range_succ,List.flatMap_append,List.length_append,flat_len f k hf n,Nat.succ_mul];simp[hf]
theorem flatMap_get{α:Type}(f:Nat→List α)(k:Nat)(hf:∀ i,(f i).length=k):∀(n i j:Nat),i<n→j<k→((List.range n).flatMap f)[i*k+j]?=(f i)[j]?
 | 0,i,j,h,_=>absurd h (by omega)
 | n+1,i,j,h,hj=>by
  rw[List.range_succ,List.flatMap_append];have hlen:((List.range n).flatMap f).length=n*k:=flat_len f k hf n;by_cases hi:i<n
  ·have h9:(i+1)*k≤n*k:=Nat.mul_le_mul_right _ hi
   rw[Nat.add_mul,Nat.one_mul]at h9;have h1:i*k+j<n*k:=by omega
   rw[List.getElem?_append_left (by rw[hlen];exact h1)];exact flatMap_get f k hf n i j hi hj
  ·obtain rfl:i=n:=by omega
   rw[List.getElem?_append_right (by rw[hlen];omega),hlen];simp
theorem peer_get(c:Cr)(n:Nat){i j:Nat}(hi:i<n)(hj:j<5):((List.range n).flatMap (peerC c))[i*5+j]?=(peerC c i)[j]?:=flatMap_get (peerC c) 5 (fun _=>rfl) n i j hi hj
theorem peer_cells{PA:Option Addr}{pc:Nat}(h:Row w T t 297 5 PA cf.n pc ((List.range cf.n).flatMap (peerC c))){i:Nat}(hi:i<cf.n):∃ g,PA=some ⟨g,0,none⟩∧w.cell? ⟨g,i*5,none⟩=some (.int .i64 (c.has i:Nat))∧w.cell? ⟨g,i*5+1,none⟩=some (.int .i64 (c.heard i:Nat))∧w.cell? ⟨g,i*5+2,none⟩=some (.int .i64 ((c.words i).1:Nat))∧w.cell? ⟨g,i*5+3,none⟩=some (.int .u32 ((c.words i).2:Nat))∧w.cell? ⟨g,i*5+4,none⟩=some (.bool false)∧(∀ o,w.frozen? ⟨g,i*5+o,none⟩=false):=by
 obtain⟨g,hg,h0,_,_⟩:=h.at_ ((peer_get c cf.n hi (j:=0) (by decide)).trans rfl);refine⟨g,hg,h0,?_,?_,?_,?_,fun o=>?_⟩
 ·obtain⟨g',e,h1,_⟩:=h.at_ ((peer_get c cf.n hi (j:=1) (by decide)).trans rfl)
  rw[hg]at e;cases e;exact h1
 ·obtain⟨g',e,h1,_⟩:=h.at_ ((peer_get c cf.n hi (j:=2) (by decide)).trans rfl)
  rw[hg]at e;cases e;exact h1
 ·obtain⟨g',e,h1,_⟩:=h.at_ ((peer_get c cf.n hi (j:=3) (by decide)).trans rfl)
  rw[hg]at e;cases e;exact h1
 ·obtain⟨g',e,h1,_⟩:=h.at_ ((peer_get c cf.n hi (j:=4) (by decide)).trans rfl)
  rw[hg]at e;cases e;exact h1
 ·rcases h.1.2 with ⟨h0,_⟩|⟨g',cap,cur,hv2,_,hgg,_⟩
  ·rw[hg]at h0;cases h0
  ·rw[hg]at hv2
   injection hv2 with h1 _ _
   injection h1 with h1
   injection h1 with h1 _ _
   subst h1;simp only[World.frozen?,hgg];simp
theorem core_hold(h:CoreAt w T t b cf me qb ps c mk)(hk:CrOk cf me c mk)(hq:Quiet cf c mk):Calls prog 194 #[ptrV b] w fun e w'=>e = .returned (.tuple #[])∧Ext w w':=by
 have hn8:=hk.ok.n8;have hml:=hk.marks;have hwd:=hk.words;obtain⟨PA,pc,MA,mc,EA,ec,h1,h2,h3,_⟩:=h.blk;obtain⟨c0,c1,c2,c3,c4,c5,c6,c7,c8,c9,c10,c11,c12,c13,c14,c15⟩:=coreC h1;have hpm:=h2.rd.2.1;have hpm2:=h2.rd.2.2.1;have hmm:=h3.rd.2.1;have hmm2:=h3.rd.2.2.1;unfold maxLen at hpm2 hmm2;have Hp:=hqd fun i (hi:i<cf.n)=>peer_cells h2 hi;have Hm:=hqd fun i (hi:i<mk.length)=>h3.at_ (i:=i) (v:=.int .u32 ((mk.getD i 0:Nat):Int)) (by simp[List.getD_eq_getElem?_getD,hi]);have Hq:=hqd hq;have Hwd:=hqd hwd;unfold ptrV;clear h h1 h2 h3 hk hq hwd c0 c1 c2 c3 c4 c5 c6 c7 c8 c9 c10 c13 c14 c15;go_enter func194,ntmps194;go_wp2_with fail;go_loopw [9] (fun iv wr=>∃ k:Nat,iv = .int .i64 (k:Nat)∧k≤cf.n∧Ext w wr) (fun iv _=>cf.n-(intOf iv).toNat)
 case atStart=>exact⟨0,rfl,Nat.zero_le _,Ext.refl _⟩
 case round =>
  obtain⟨k,rfl,hkn,he⟩:=hrel;by_cases hkl:k<cf.n
  ·have hd1:decide (k<cf.n)=true:=decide_eq_true hkl
   obtain⟨g,rfl,p0,p1,p2,p3,p4,_⟩:=Hp.out k hkl;have hqk:=Hq.out k hkl;obtain⟨hw1,hw2⟩:=Hwd.out k;generalize (c.words k).1=f at *;generalize (c.words k).2=s at *;replace p2:=he.cell p2;replace p3:=he.cell p3;replace p4:=he.cell p4;have d11:=he.cell c11;have d12:=he.cell c12;clear p0 p1;rcases hqk with rfl|hqk|⟨hf0,hfm,hfs⟩
   ·go_wp2_with fail
    apply wrA trivial;repeat first|apply lxA (fun _ h _=>aj (h.cell p2) (aj (h.cell p3) (aj (h.cell p4) (aj (h.cell d11) (h.cell d12)))))|apply lxK trivial
    refine lex_nil ?_;intro Wx hWx hΦ;clear hΦ;go_wp2_with fail;go_roundw
    case rel=>exact⟨k+1,by go_num,by omega,he.trans hWx⟩
    case measure=>simp[intOf];omega
   ·have e1:decide ((f:Int)<1)=false:=decide_eq_false (by omega)
    have e1':decide (f<1)=false:=decide_eq_false (by omega);have e2:decide ((mk.length:Int)<(f:Int))=true:=decide_eq_true (by omega);have e2':decide (mk.length<f)=true:=decide_eq_true hqk;go_wp2_with fail;apply wrA trivial;repeat first|apply lxA (fun _ h _=>aj (h.cell p2) (aj (h.cell p3) (aj (h.cell p4) (aj (h.cell d11) (h.cell d12)))))|apply lxK trivial
    refine lex_nil ?_;intro Wx hWx hΦ;clear hΦ;go_wp2_with fail;go_roundw
    case rel=>exact⟨k+1,by go_num,by omega,he.trans hWx⟩
    case measure=>simp[intOf];omega
   ·have e1:decide ((f:Int)<1)=false:=decide_eq_false (by omega)
    have e1':decide (f<1)=false:=decide_eq_false (by omega);have e2:decide ((mk.length:Int)<(f:Int))=false:=decide_eq_false (by omega);have e2':decide (mk.length<f)=false:=decide_eq_false (by omega);obtain⟨f1,hf1⟩:∃ f1,f-1=f1:=⟨_,rfl⟩;rw[hf1]at hfs;have hw:IntKind.i64.wrap ((f:Int)-1)=(f1:Nat):=by rw[IntWalk.i64_in _ (by omega)];omega
    have hf1m:f1<mk.length:=by omega
    obtain⟨gm,rfl,hmc,_,_⟩:=Hm.out f1 hf1m;rw[hfs]at hmc;replace hmc:=he.cell hmc;clear hfs hf1;go_wp2_with fail;apply wrA trivial;repeat first|apply lxA (fun _ h _=>aj (h.cell p2) (aj (h.cell p3) (aj (h.cell p4) (aj (h.cell d11) (aj (h.cell d12) (h.cell hmc))))))|apply lxK trivial
    refine lex_nil ?_;intro Wx hWx hΦ;clear hΦ;go_wp2_with fail;go_roundw
    case rel=>exact⟨k+1,by go_num,by omega,he.trans hWx⟩
    case measure=>simp[intOf];omega
  ·obtain rfl:k=cf.n:=by omega
   have hd1:decide (cf.n<cf.n)=false:=decide_eq_false (by omega);go_wp2_with fail;go_end0
   exact⟨rfl,he⟩
end
theorem info_u32:(prog.info? 32).map (fun i=>(i.zero,i.size,i.bytes))=some (some (.int .u32 0),1,4):=by kernel_rfl
theorem info_ev:(prog.info? 197).map (fun i=>(i.zero,i.size,i.bytes))=some (some (.agg #[.nilIface]),1,16):=by kernel_rfl
section
variable {w w':World} {T T':Tg} {t b:Nat} {cf:Cf} {me qb:Nat} {ps:Nat→Nat} {c:Cr} {mk:List Nat}
theorem core_mark(h:CoreAt w T t b cf me qb ps c mk)(hk:CrOk cf me c mk)(hu:Unborn w T)(s:Nat)(hs:s<4294967296)(hm:mk.length<1000)(hq:Quiet cf c (mk++[s])):Calls prog 173 #[ptrV b,.int .u32 (s:Nat)] w (Does (In t 22) w T (.tuple #[]) fun w' T'=>CoreAt w' T' t b cf me qb ps c (mk++[s])):=by
 obtain⟨i0,hi,hz0,hz1,hz2⟩:=info_parts info_u32;obtain⟨PA,pc,MA,mc,EA,ec,h1,h2,h3,h4⟩:=h.blk;have hok2:CrOk cf me c (mk++[s]):=⟨hk.ok,hk.me,hk.len,hk.short,hk.now,hk.evs,hk.has,hk.heard,hk.words,by rw[List.length_append,List.length_singleton];omega,fun x hx=>by
  rcases List.mem_append.1 hx with hx|hx
  ·exact hk.sums x hx
  ·rw[List.mem_singleton.1 hx];exact hs⟩
 have c12:=(coreC h1).c12;have hne:=h1.ne_row h3 (by omega);have ho:=h3.1;have hd:decide ((1000:Int)≤(mk.length:Int))=false:=decide_eq_false (by omega);have hd':decide (1000≤mk.length)=false:=decide_eq_false (by omega);have H1:=hqd h1;have H2:=hqd h2;have H3:=hqd h3;have H4:=hqd h4;have HQ:=hqd h.que;have Hhold:=hqd fun W T9 (h9:CoreAt W T9 t b cf me qb ps c (mk++[s]))=>core_hold h9 hok2 hq;have hl8:c.ls.length≤8:=by rw[hk.len];exact hk.ok.n8
 unfold ptrV at *;clear h h1 h2 h3 h4 hk hq hok2;go_enter func173,ntmps173;go_wp2_with (at_builtin;refine wpList_append_new _ rfl _ _ 79 rfl 0 32 i0 (.int .u32 0) 1 4 underlying79 hi hz0 hz1 hz2 rfl (by decide) MA mk.length mc _ rfl ho 1 _ rfl rfl (by simp[Value.oneCell']) (by unfold maxLen;omega) (by omega) (Nat.zero_le _) ?_;intro E Ed wy hoE hgE hwE;obtain⟨d12,f12⟩:=H1.out.cell_by hgE hne 12 rfl);obtain⟨hT,hR⟩:=H3.out.append hu hoE hgE hwE;have hH:=H1.out.turn hT (by omega);obtain⟨hT2,hH2⟩:=hH.put (S:=(· = t)) hT.unborn 12 (.slice E (mk.length+1) Ed) rfl;have hcore:CoreAt (wy.setCell ⟨b,12,none⟩ (.slice E (mk.length+1) Ed)) (give T (went MA E) (t+2)) t b cf me qb ps c (mk++[s]):=by
  refine⟨⟨PA,pc,E,Ed,EA,ec,?_,?_,?_,?_⟩,?_⟩
  ·rw[List.length_append,List.length_singleton];exact hH2.is rfl
  ·exact(H2.out.turn hT (by omega)).turn hT2 (by omega)
  ·rw[List.length_append,List.length_singleton,List.map_append]
   exact hR.turn hT2 (by omega)
  ·exact(H4.out.turn hT (by omega)).turn hT2 (by omega)
  ·exact(HQ.out.turn hT (fun k _=>by omega)).turn hT2 (fun k _=>by omega)
 refine(Hhold.out _ _ hcore).mono ?_;rintro e w3 ⟨rfl,e3⟩;go_wp2_with fail;go_end0
 refine⟨rfl,_,((hT.mono fun k hk=>?_).trans (hT2.mono fun k hk=>?_)).ext e3,hcore.ext e3⟩
 ·subst hk;unfold In;omega
 ·subst hk;unfold In;omega
theorem core_note{T0:Tg}(h:CoreAt w T0 t b cf me qb ps c mk)(hk:CrOk cf me c mk)(hu:Unborn w T0)(k p:Nat)(hkp:(k=1∨k=2)∧p<8):Calls prog 215 #[ptrV b,.agg #[.int .i64 (k:Nat),.int .i64 (p:Nat),.int .i64 0]] w (Does (In t 22) w T0 (.tuple #[]) fun w' T'=>CoreAt w' T' t b cf me qb ps {c with evs:=c.evs++[(k,p)]} mk):=by
 obtain⟨i0,hi,hz0,hz1,hz2⟩:=info_parts info_ev;obtain⟨PA,pc,MA,mc,EA,ec,h1,h2,h3,h4⟩:=h.blk;have c13:=(coreC h1).c13;have hne:=h1.ne_row h4 (by omega);have hev:=hk.evs;have H1:=hqd h1;have H2:=hqd h2;have H3:=hqd h3;have H4:=hqd h4;have HQ:=hqd h.que;have Hof:=hqd fun W=>of_yes W (k:Nat) (p:Nat) 0 (by rcases hkp.1 with rfl|rfl<;>(simp[mayE];omega));unfold ptrV at *;clear h h1 h2 h3 h4 hk;have hevc:evW (k:Nat) (p:Nat) 0=evC (k,p):=rfl;rw[hevc]at Hof;obtain⟨ty,hX⟩:∃ ty,evC (k,p) = .iface ty (.agg #[.int .i64 (p:Nat)]):=by
  rcases hkp.1 with rfl|rfl
  ·exact⟨_,rfl⟩
  ·exact⟨_,rfl⟩
 have HX:=hqd hX;rw[hX]at Hof;clear hevc hkp hX;go_enter func215,ntmps215;go_wp2_with fail;refine(Hof.out _).mono ?_;rintro e w1 ⟨rfl,e1⟩;have x1:Ext w w1:=(Ext.alloc _ _).trans e1;go_wp2_with fail;generalize hw0:World.alloc w1 _=w0;have x0:Ext w w0:=by subst hw0;exact x1.trans (Ext.alloc _ _)
 have q4:w0.cell? ⟨w1.heap.size,0,none⟩=some (.iface ty (.agg #[.int .i64 (p:Nat)])):=by subst hw0;go_simp
 have hsz:w1.heap.size<w0.heap.size:=by subst hw0;simp
 have hs1:=x1.size;clear hw0;have hRw:=H4.out.ext x0;have hu0:=hu.ext x0;have d13:=x0.cell c13;have hnq:blk EA≠some w1.heap.size:=fun e=>by have:=H4.out.lt e;omega
 clear c13;have hRowOwn:=(hRw).1;have hRowC:=(hRw).cond;have hPs:Stab (t+3) (fun v _ _=>v=(.agg #[.iface ty (.agg #[.int .i64 (p:Nat)])])):=fun _ _ _ _ _ h _=>h;have hone:∀(v:Value) (w:World) (T:Tg),v=(.agg #[.iface ty (.agg #[.int .i64 (p:Nat)])])→v.cells.toList.length=1∧∀ y∈v.cells.toList,y.oneCell'=true:=by
  rintro v w T rfl;exact⟨rfl,by simp[Value.cells,Value.oneCell']⟩
 apply wrH 10 (gR EA) (gRs 7 EA) (gJs 7 197 1 EA c.evs.length ec (c.evs.map evC)) (gJs.start hRowOwn);simp only[tk];repeat apply lxG (fun _ h _ _=>aj (h.cell d13 hne) (h.cell q4 hnq))
 apply lexG_new (p:=BuiltP T0 w0.heap.size (fun v _ _=>v=(.agg #[.iface ty (.agg #[.int .i64 (p:Nat)])])) 197) (by decide) (by decide) (BuiltP.stab hPs hRowC _)
 ·rfl
 ·intro W hR hJ hΦ
  have hB:=BuiltP.made (e:=197) hPs hR.size (show FrP T0 w0.heap.size (fun v _ _=>v=(.agg #[.iface ty (.agg #[.int .i64 (p:Nat)])])) (.agg #[.iface ty (.agg #[.int .i64 (p:Nat)])]) W from⟨T0,fun _ _=>rfl,fun k hk=>hu0 k (Nat.le_trans hR.size hk),rfl⟩);have dd0:=hR.cell d13 hne;have dd1:=hR.cell q4 hnq;refine⟨_,_,?_,(Ext.alloc _ _).grownBy _,.inr (Ext.alloc _ _),hB⟩;go_simp;first|done|rfl
 intro v2;simp only[pu];apply lexG_new (p:=AppP T0 w0.heap.size (fun v _ _=>v=(.agg #[.iface ty (.agg #[.int .i64 (p:Nat)])])) (t+3) EA 197 1 (c.evs.length+1) (c.evs.map evC)) (by decide) (by decide) (fun j hj v w w9 h hR=>AppP.stab j hj v w w9 h hPs hR)
 ·rfl
 ·intro W hR hJ hΦ
  exact exec_append_call W _ _ 152 rfl 197 i0 (.agg #[.nilIface]) 1 16 underlying152 hi hz0 hz1 hz2 rfl (by decide) EA c.evs.length ec ((c.evs.map evC)) rfl (hJ rfl) v2 rfl (hΦ.1 rfl) hone (by unfold maxLen;omega) (by omega) hRowC hPs hR.size
 intro v3;simp only[pu];repeat apply lxG (fun _ h _ _=>aj (h.cell d13 hne) (h.cell q4 hnq))
 refine lexG_nil ?_;intro W hR hap hΦ;obtain⟨u1,T1,E,Ed,rfl,hT1,hP1,hRow1,hWent⟩:=(hΦ.1 rfl).fin hR hRowC;clear hΦ hap;simp only[dk];have hH:=(H1.out.ext x0).turn hT1 (by omega);have d13:=hH.cell (i:=13) rfl;have f13:=hH.free 13;go_wp2_with fail;go_end0
 obtain⟨hT2,hH2⟩:=hH.put (S:=(· = t)) hT1.unborn 13 (.slice E (c.evs.length+1) Ed) rfl;refine⟨rfl,T1,((Turn.of_ext _ hu x0).trans (hT1.mono fun k hk=>?_)).trans (hT2.mono fun k hk=>?_),⟨PA,pc,MA,mc,E,Ed,?_,?_,?_,?_⟩,?_⟩
 ·subst hk;unfold In;omega
 ·subst hk;unfold In;omega
 ·rw[List.length_append,List.length_singleton];exact hH2.is rfl
 ·exact((H2.out.ext x0).turn hT1 (by omega)).turn hT2 (by omega)
 ·exact((H3.out.ext x0).turn hT1 (by omega)).turn hT2 (by omega)
 ·rw[List.length_append,List.length_singleton,List.map_append]
  refine(hRow1.turn hT2 (by omega)).to ?_;rw[hP1,List.map_cons,List.map_nil,HX.out];rfl
 ·exact((HQ.out.ext x0).turn hT1 (fun k _=>by omega)).turn hT2 (fun k _=>by omega)
end
theorem info_int:(prog.info? 3).map (fun i=>(i.zero,i.size,i.bytes))=some (some (.int .i64 0),1,8):=by kernel_rfl
theorem size_pkt:(prog.info? 34).map (·.size)=some 9:=by kernel_rfl
theorem size_mail:(prog.info? 176).map (·.size)=some 3:=by kernel_rfl
def intC(l:List Nat):List Value:=l.map fun k=>.int .i64 (k:Nat)
def othersTo(me k:Nat):List Nat:=(List.range k).filter (·≠me)
theorem othersTo_succ(me k:Nat):othersTo me (k+1)=if k=me then othersTo me k else othersTo me k++[k]:=by
 unfold othersTo;rw[List.range_succ,List.filter_append];by_cases h:k=me
 ·rw[if_pos h,List.filter_cons_of_neg (by simp[h])];simp
 ·rw[if_neg h,List.filter_cons_of_pos (by simp[h])];rfl
theorem othersTo_len(me k:Nat):(othersTo me k).length≤k:=Nat.le_trans (List.length_filter_le _ _) (by simp)
section
variable {w w':World} {T T':Tg} {t b:Nat} {cf:Cf} {me qb:Nat} {ps:Nat→Nat} {c:Cr} {mk:List Nat}
theorem core_others(h:CoreAt w T t b cf me qb ps c mk)(hk:CrOk cf me c mk):Calls prog 305 #[ptrV b] w fun e w'=>∃ B d,e = .returned (.slice B (c.others me).length d)∧Own w' w.heap.size 3 1 B (c.others me).length d (intC (c.others me))∧Ext w w':=by
 obtain⟨i0,hi,hz0,hz1,hz2⟩:=info_parts info_int;have hn8:=hk.ok.n8;have hmn:=hk.me;have hoth:c.others me=othersTo me cf.n:=by unfold Cr.others;rw[hk.len];rfl
 rw[hoth];obtain⟨PA,pc,MA,mc,EA,ec,h1,_,_,_⟩:=h.blk;have c1:=(coreC h1).c1;have c11:=(coreC h1).c11;unfold ptrV;clear h h1 hk hoth;go_enter func305,ntmps305;go_wp2_with fail;go_loopw [3,10] (fun v iv wr=>∃(k:Nat) (B:Option Addr) (m d:Nat),iv = .int .i64 (k:Nat)∧k≤cf.n∧v = .slice B m d∧m=(othersTo me k).length∧Own wr w.heap.size 3 1 B m d (intC (othersTo me k))∧Ext w wr) (fun _ iv _=>cf.n-(intOf iv).toNat)
 case atStart=>exact⟨0,none,0,0,rfl,Nat.zero_le _,rfl,rfl,Own.nil_ _ _ _ _,Ext.refl _⟩
 case round =>
  obtain⟨k,B,m,d,rfl,hkn,rfl,hm,hO,hE⟩:=hrel;have Hm:=hqd hm;have hmk:m≤k:=by rw[hm];exact othersTo_len me k
  clear hm;by_cases hkl:k<cf.n
  ·have hd1:decide (k<cf.n)=true:=decide_eq_true hkl
   have hsu:=othersTo_succ me k;have d1:=hE.cell c1;have hsz:=hE.size;by_cases hke:k=me
   ·subst hke
    rw[if_pos rfl]at hsu;have Hsu:=hqd hsu;clear hsu;go_wp2_with fail;go_roundw
    case rel=>exact⟨k+1,B,m,d,by go_num,by omega,rfl,by rw[Hsu.out];exact Hm.out,by rw[Hsu.out];exact hO,hE⟩
    case measure=>simp[intOf];omega
   ·rw[if_neg hke]at hsu
    have Hsu:=hqd hsu;have hne:(k==me)=false:=by rw[beq_eq_false_iff_ne];exact hke
    have hne':((k:Int)==(me:Int))=false:=by rw[beq_eq_false_iff_ne];omega
    clear hsu;go_wp2_with (at_builtin;refine wpList_append_new _ rfl _ _ 22 rfl w.heap.size 3 i0 (.int .i64 0) 1 8 underlying22 hi hz0 hz1 hz2 rfl (by decide) B m d _ rfl hO 1 _ rfl rfl (by simp[Value.oneCell']) (by unfold maxLen;omega) (by omega) hsz ?_;intro E Ed wy hoE hgE hwE);go_roundw
    case rel=>exact⟨k+1,E,m+1,Ed,by go_num,by omega,rfl,by rw[Hsu.out,List.length_append,List.length_singleton,Hm.out],by rw[Hsu.out];unfold intC;rw[List.map_append];exact hoE,Ext.own hE hgE hO.blk_ge⟩
    case measure=>simp[intOf];omega
  ·obtain rfl:k=cf.n:=by omega
   have hd1:decide (cf.n<cf.n)=false:=decide_eq_false (by omega);go_wp2_with fail;go_ret;rw[← Hm.out];exact⟨B,d,rfl,hO,hE⟩
def mailV(src dst:Nat)(B:Option Addr)(n d:Nat):Value:=.agg #[.int .i64 (src:Nat),.int .i64 (dst:Nat),.slice B n d]
theorem core_mail(h:CoreAt w T t b cf me qb ps c mk)(hk:CrOk cf me c mk)(p:Pk)(A:Option Addr)(n d:Nat)(hp:okPk p)(hsrc:p.src=me)(hb:Rb w A n d p.press)(q0 q1 q2:Int) :
  Calls prog 306 #[ptrV b,.agg #[.int .i64 (kindP p),.int .i64 q0,.int .i64 q1,.int .i64 q2,.int .i64 (p.first:Nat),.slice A n d,.int .i64 (p.ack:Nat),.int .i64 (p.frame:Nat),.int .u32 (p.sum:Nat)],.int .i64 (p.dst:Nat)] w fun e w' =>
   ∃ B bd,e = .returned (mailV me p.dst B (encPk cf.id p).length bd)∧Own w' w.heap.size 5 1 B (encPk cf.id p).length bd (bcs (encPk cf.id p))∧Ext w w':=by
 have hid:okId (cf.id:Nat):=by have:=hk.ok.id;unfold okId;omega
 obtain⟨PA,pc,MA,mc,EA,ec,h1,_,_,_⟩:=h.blk;have c1:=(coreC h1).c1;have c2:=(coreC h1).c2;have Henc:=hqd fun W (e:Ext w W)=>enc_any W (cf.id:Nat) p A n d hp hid (hb.ext e);have hlt:=h1.lt;unfold ptrV pkAgg mailV at *;rw[hsrc]at Henc;generalize kindP p=kp at *;clear h h1 hk hp hid hb hsrc;go_enter func306,ntmps306;go_wp2_with fail;go_region
 go_wp2_with fail;generalize hW:World.drew _=W0;have x0:Ext w W0:=by subst hW;exact((Ext.alloc _ _).trans (Ext.alloc _ _)).trans (Ext.drew _)
 have bP:Has W0 (fun _=>0) 0 w.heap.size [.int .i64 kp,.int .i64 (me:Nat),.int .i64 (p.dst:Nat),.int .i64 (cf.id:Nat),.int .i64 (p.first:Nat),.slice A n d,.int .i64 (p.ack:Nat),.int .i64 (p.frame:Nat),.int .u32 (p.sum:Nat)]:=by
  subst hW;exact((Has.new w (fun _=>0) _ 34 rfl).ext (Ext.alloc _ _)).ext (Ext.drew _)
 have bM:Has W0 (fun _=>0) 0 (w.heap.size+1) [.int .i64 0,.int .i64 0,.slice none 0 0]:=by
  subst hW;exact(Has.new (w.alloc _) (fun _=>0) _ 176 (by simp)).ext (Ext.drew _)
 clear hW c1 c2;have k0:=bP.cell (i:=0) rfl;have k1:=bP.cell (i:=1) rfl;have k2:=bP.cell (i:=2) rfl;have k3:=bP.cell (i:=3) rfl;have k4:=bP.cell (i:=4) rfl;have k5:=bP.cell (i:=5) rfl;have k6:=bP.cell (i:=6) rfl;have k7:=bP.cell (i:=7) rfl;have k8:=bP.cell (i:=8) rfl;generalize hg:w.heap.size+1=gm at *;have HM:=hqd bM;have hgm:w.heap.size≤gm:=by omega
 have hgl:=bM.lt;clear bM hg bP;apply wrN 6;simp only[tk];repeat apply lxA (fun _ h _=>aj (h.cell k0) (aj (h.cell k1) (aj (h.cell k2) (aj (h.cell k3) (aj (h.cell k4) (aj (h.cell k5) (aj (h.cell k6) (aj (h.cell k7) (h.cell k8)))))))))
 apply lex_call (p:=fun u W=>∃ B bd,u = .slice B (encPk cf.id p).length bd∧Own W W0.heap.size 5 1 B (encPk cf.id p).length bd (bcs (encPk cf.id p))) (fun _ _ _ ⟨B,bd,hv,h1⟩ he=>⟨B,bd,hv,h1.ext he⟩)
 ·rfl
 ·intro W
  go_simp;exact⟨rfl,rfl⟩
 ·intro W hR hΦ
  refine(Henc.out W (x0.trans hR)).mono ?_;rintro e w' ⟨B,m,bd,rfl,ho,he⟩;have hm:m=(encPk cf.id p).length:=by have:=ho.len;rw[bcs_length]at this;omega
  subst hm;exact⟨_,rfl,he,B,bd,rfl,ho.mono hR.size⟩
 intro v1;simp only[pu];refine lex_nil ?_;intro Wx hWx hΦ;obtain⟨B,bd,rfl,hB⟩:=hΦ.1 rfl;clear hΦ k0 k1 k2 k3 k4 k5 k6 k7 k8;simp only[dk];have bM:=HM.out.ext hWx;generalize hE:encPk cf.id p=E at *;have hl3:[Value.int .i64 (me:Nat),.int .i64 (p.dst:Nat),.slice B E.length bd].length=3:=rfl;have hv3:[Value.int .i64 0,.int .i64 0,.slice none 0 0].length=3:=rfl;have h13:∀ u∈[Value.int .i64 (me:Nat),.int .i64 (p.dst:Nat),.slice B E.length bd],u.oneCell'=true:=by simp[Value.oneCell']
 go_wp2_with (first|(with_reducible refine wpList_store_st rfl 176 (.tmp 6) (.tmp 27) rfl rfl (us:=[.int .i64 (me:Nat),.int .i64 (p.dst:Nat),.slice B E.length bd]) rfl bM hl3 hv3 size_mail h13 ?_;intro Z bZ gZ sZ))
 have xx:=x0.trans hWx;have eZ:=Ext.own (B:=some ⟨gm,0,none⟩) xx gZ (fun k hk=>by have h9:gm=k:=Option.some.inj hk;omega);have hBZ:Own Z w.heap.size 5 1 B E.length bd (bcs E):=(hB.kept gZ (by
  rcases hb:blk B with _|g
  ·exact .inl rfl
  ·refine .inr fun e=>?_
   have h1:=hB.blk_ge g hb;have h2:g=gm:=Option.some.inj e;omega)).mono x0.size
 subst hE;exact bodyPost_ret (result_st rfl _ rfl bZ underlying176 size_mail) rfl ⟨B,bd,rfl,hBZ,eZ⟩
end
def Off(B:Option Addr)(A:Option Addr)(p:List UInt8):Prop:=0<p.length→∀ g,blk A=some g→blk B≠some g
def Rws(w:World)(base:Nat)(B:Option Addr)(n d:Nat)(ps:List (List UInt8)):Prop :=
 base≤w.heap.size∧∃ hs:List (Option Addr×Nat×Nat),Own w base 30 1 B n d (hs.map hdr)∧hs.length=ps.length∧∀(i:Nat) h p,hs[i]?=some h→ps[i]?=some p→(Rb w h.1 h.2.1 h.2.2 p∧Off B h.1 p)∧(0<p.length→∀ g,blk h.1=some g→base≤g)
section
variable {w w' W wy:World} {base:Nat} {A B E:Option Addr} {n c d m Ed:Nat} {ps:List (List UInt8)} {l:List UInt8}
theorem Rws.nil_(hb:base≤w.heap.size):Rws w base none 0 0 []:=⟨hb,[],Own.nil_ _ _ _ _,rfl,fun i h p hi=>by simp at hi⟩
theorem Rws.ext(h:Rws w base B n d ps)(e:Ext w w'):Rws w' base B n d ps:=by
 obtain⟨h0,hs,h1,h2,h3⟩:=h;exact⟨Nat.le_trans h0 e.size,hs,h1.ext e,h2,fun i a p ha hp=>⟨⟨(h3 i a p ha hp).1.1.ext e,(h3 i a p ha hp).1.2⟩,(h3 i a p ha hp).2⟩⟩
theorem Rws.rp(h:Rws w base B n d ps):Rp w B n d ps:=by
 obtain⟨_,hs,h1,h2,h3⟩:=h;exact⟨hs,h1.rd,h2,fun i a p ha hp=>(h3 i a p ha hp).1.1⟩
theorem Rws.len(h:Rws w base B n d ps):n=ps.length:=h.rp.len
theorem Rws.app{hs:List (Option Addr×Nat×Nat)}(hb0:base≤w.heap.size)(ho:Own w base 30 1 B n d (hs.map hdr))(hl:hs.length=ps.length)(he:∀(i:Nat) h p,hs[i]?=some h→ps[i]?=some p→(Rb w h.1 h.2.1 h.2.2 p∧Off B h.1 p)∧(0<p.length→∀ g,blk h.1=some g→base≤g))
  (hx:Ext w W) (hr:Rb W A m c l) (hA:0<l.length→∀ g,blk A=some g→w.heap.size≤g) (hoE:Own wy base 30 1 E (n+1) Ed (hs.map hdr++[.slice A m c])) (hg:W.grownBy wy (blk B)) (hw:blk E=blk B∨∀ k,blk E=some k→W.heap.size≤k) :
  Rws wy base E (n+1) Ed (ps++[l]):=by
 refine⟨Nat.le_trans hb0 (Nat.le_trans hx.size hg.size),hs++[(A,m,c)],by rw[List.map_append];exact hoE,by simp[hl],fun i h p hi hp=>?_⟩;have key:∀ A' m' c' (l':List UInt8),Rb W A' m' c' l'→Off B A' l'→Rb wy A' m' c' l'∧Off E A' l':=by
  intro A' m' c' l' h1 h2;have hlen:=h1.len;refine⟨Rd.of_blocks h1 fun h0 k hk=>hg.block k (Rd.lt' h1 h0 hk) (fun e=>h2 (by omega) k hk e.symm),fun h0 g hg2=>?_⟩;rcases hw with h|h
  ·rw[h];exact h2 h0 g hg2
  ·intro e
   have:=h g e;have:=Rd.lt' h1 (by omega) hg2;omega
 by_cases hil:i<hs.length
 ·rw[List.getElem?_append_left hil]at hi
  rw[List.getElem?_append_left (by omega)]at hp;obtain⟨⟨h1,h2⟩,h3⟩:=he i h p hi hp;exact⟨key _ _ _ _ (h1.ext hx) h2,h3⟩
 ·have hie:i=hs.length:=by
   have:=(List.getElem?_eq_some_iff.1 hi).1;simp at this
   omega
  subst hie;rw[List.getElem?_append_right (Nat.le_refl _)]at hi;rw[hl,List.getElem?_append_right (Nat.le_refl _)]at hp;simp only[Nat.sub_self,List.getElem?_cons_zero,Option.some.injEq]at hi hp;subst hi;subst hp;refine⟨key _ _ _ _ hr fun h0 g hg2 e=>?_,fun h0 g hg2=>Nat.le_trans hb0 (hA h0 g hg2)⟩;have h1:=hA h0 g hg2;obtain⟨a,ha,hab⟩:=Option.map_eq_some_iff.1 e;have:=(ho.base_le a ha).2;rw[hab]at this;omega
end
end Go.Proofs.YtffcefoadaogbaaGreat
