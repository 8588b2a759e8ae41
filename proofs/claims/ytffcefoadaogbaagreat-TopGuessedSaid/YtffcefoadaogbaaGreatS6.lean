/- A part of the proof: texts put together and cut down by a program of mine (wip/gen/mini.py). -/
import Derived.Test.YtffcefoadaogbaaGreatS5
import Derived.Laws.Rows
import Derived.Laws.StructEq
namespace Go.Proofs.YtffcefoadaogbaaGreat
open Go.RowKit
open Go.Proofs.Tryz
set_option linter.unusedVariables false
set_option maxRecDepth 100000
set_option maxHeartbeats 16000000
theorem mod_is(w:World)(a:Int)(ha:ok32 a):Calls prog 152 #[.int .i32 a,.int .i64 32] w fun e w'=>e = .returned (.int .i64 (remN a:Nat))∧w'=w:=by
 unfold ok32 at ha;obtain⟨m,hm,h1,h2⟩:∃ m:Int,a.tmod 32=m∧-31≤m∧m≤31:=⟨_,rfl,by have:=Int.lt_tmod_of_pos a (show(0:Int)<32 by decide);omega,by have:=Int.tmod_lt_of_pos a (show(0:Int)<32 by decide);omega⟩;have h3:a.tmod 32=a % 32∨a.tmod 32=a % 32-32:=by
  rcases Int.le_total 0 a with h|h
  ·left;exact Int.tmod_eq_emod_of_nonneg h
  ·have:=Int.tmod_add_mul_tdiv a 32
   omega
 by_cases hn:m<0
 ·have e:m+32=(remN a:Nat):=by unfold remN;omega
  go_enter func152,ntmps152;go_wp2_with fail;go_ret;exact⟨by simp,rfl⟩
 ·have e:m=(remN a:Nat):=by unfold remN;omega
  go_enter func152,ntmps152;go_wp2_with fail;go_ret;exact⟨rfl,rfl⟩
theorem sum_is(w:World)(k a b:Int):Calls prog 179 #[.int .i64 k,.int .i32 a,.int .i32 b] w fun e w'=>e = .returned (.int .i32 (sumN k a b))∧w'=w:=by
 by_cases h3:k=3
 ·subst h3
  go_enter func179,ntmps179;go_wp2_with fail;refine(add_is _ _ _).mono ?_;rintro e w1 ⟨rfl,rfl⟩;go_wp2_with fail;go_ret;exact⟨by simp[sumN],rfl⟩
 have b3:(k==3)=false:=by rw[beq_eq_false_iff_ne];exact h3
 by_cases h4:k=4
 ·subst h4
  go_enter func179,ntmps179;go_wp2_with fail;refine(sub_is _ _ _).mono ?_;rintro e w1 ⟨rfl,rfl⟩;go_wp2_with fail;go_ret;exact⟨by simp[sumN],rfl⟩
 have b4:(k==4)=false:=by rw[beq_eq_false_iff_ne];exact h4
 by_cases h5:k=5
 ·subst h5
  go_enter func179,ntmps179;go_wp2_with fail;refine(mul_is _ _ _).mono ?_;rintro e w1 ⟨rfl,rfl⟩;go_wp2_with fail;go_ret;exact⟨by simp[sumN],rfl⟩
 have b5:(k==5)=false:=by rw[beq_eq_false_iff_ne];exact h5
 by_cases h6:k=6
 ·subst h6
  go_enter func179,ntmps179;go_wp2_with fail;refine(div_is _ _ _).mono ?_;rintro e w1 ⟨rfl,rfl⟩;go_wp2_with fail;go_ret;exact⟨by simp[sumN],rfl⟩
 have b6:(k==6)=false:=by rw[beq_eq_false_iff_ne];exact h6
 by_cases h7:k=7
 ·subst h7
  go_enter func179,ntmps179;go_wp2_with fail;refine(flag_is _ _).mono ?_;rintro e w1 ⟨rfl,rfl⟩;go_wp2_with fail;go_ret;exact⟨by simp[sumN],rfl⟩
 have b7:(k==7)=false:=by rw[beq_eq_false_iff_ne];exact h7
 go_enter func179,ntmps179;go_wp2_with fail;refine(flag_is _ _).mono ?_;rintro e w1 ⟨rfl,rfl⟩;go_wp2_with fail;go_ret;exact⟨by simp[sumN,h3,h4,h5,h6,h7];congr 1,rfl⟩
def atL(l:List UInt8)(n:Int):Nat:=if 0≤n then (((rs l)[n.toNat]?).map (·.1)).getD 0 else 0
def AtRel(w:World)(l:List UInt8)(N:Nat)(n:Value)(w':World):Prop :=
 ∃ p k:Nat,w'=w.iter (bs l) p∧n = .int .i64 ((N:Int)-k)∧k≤N∧k≤p∧p≤l.length∧(rs l)[N]?=(rs (l.drop p))[N-k]?
def AtNeg(w:World)(l:List UInt8)(N:Int)(n:Value)(w':World):Prop :=
 ∃ p k:Nat,∃ m:Int,w'=w.iter (bs l) p∧n = .int .i64 m∧(m=N-k∨m=N-k+18446744073709551616)∧-9223372036854775808≤m∧m≤9223372036854775807∧k≤p∧p≤l.length
theorem at_any(w:World)(l:List UInt8)(hl:l.length≤1099511627776)(n:Int)(h0:-9223372036854775808≤n)(h1:n≤9223372036854775807) :
  Calls prog 178 #[.string (bs l),.int .i64 n] w fun e w'=>e = .returned (.int .i32 (atL l n:Nat))∧Ext w w':=by
 unfold atL;by_cases hn:0≤n
 ·rw[if_pos hn]
  obtain⟨N,rfl⟩:=Int.eq_ofNat_of_zero_le hn;rw[Int.toNat_natCast];go_enter func178,ntmps178;go_wp2_with fail;go_loopw [1] (fun n w'=>AtRel w l N n w') (fun _ w'=>l.length-w'.iterPos w.heap.size)
  case atStart=>exact⟨0,0,rfl,by simp,Nat.zero_le _,Nat.zero_le _,Nat.zero_le _,by simp⟩
  case round =>
   obtain⟨p,k,rfl,rfl,hkN,hk,hp,hr⟩:=hrel;by_cases hlt:p<l.length
   ·have hnx:=next_yes w l p hlt
    have hd:=dec_at_le hlt;rw[rs_at hlt]at hr;generalize dec (l.drop p)=d at *;have Hr:=hqd hr;clear hr;by_cases hz:k=N
    ·subst hz
     have hsub:(k:Int)-k=0:=by omega
     rw[hsub];go_wp2_with fail;go_ret;have hr:=Hr.out;rw[Nat.sub_self]at hr;exact⟨by rw[hr];rfl,Ext.iter _ _⟩
    ·have hb:((N:Int)-k==0)=false:=by rw[beq_eq_false_iff_ne];omega
     go_wp2_with fail;go_roundw
     case rel =>
      refine⟨_,k+1,rfl,by go_num,by omega,by omega,hd.2,?_⟩;rw[Hr.out,show N-k=(N-(k+1))+1 by omega];rfl
     case measure=>simp;omega
   ·obtain rfl:p=l.length:=by omega
    have hnx:=next_no w l l.length hlt;rw[rs_end (Nat.le_refl _)]at hr;have Hr:=hqd hr;clear hr;go_wp2_with fail;go_ret;exact⟨by rw[Hr.out];rfl,Ext.iter _ _⟩
 ·rw[if_neg hn]
  go_enter func178,ntmps178;go_wp2_with fail;go_loopw [1] (fun n' w'=>AtNeg w l n n' w') (fun _ w'=>l.length-w'.iterPos w.heap.size)
  case atStart=>exact⟨0,0,n,rfl,rfl,by omega,h0,h1,Nat.zero_le _,Nat.zero_le _⟩
  case round =>
   obtain⟨p,k,m,rfl,rfl,hm,hm0,hm1,hk,hp⟩:=hrel;by_cases hlt:p<l.length
   ·have hnx:=next_yes w l p hlt
    have hd:=dec_at_le hlt;generalize dec (l.drop p)=d at *;have hb:(m==0)=false:=by rw[beq_eq_false_iff_ne];omega
    have hw:∃ q:Int,IntKind.i64.wrap (m-1)=q∧(q=n-(k+1:Nat)∨q=n-(k+1:Nat)+18446744073709551616)∧-9223372036854775808≤q∧q≤9223372036854775807:=by
     by_cases hmin:m = -9223372036854775808
     ·subst hmin
      exact⟨9223372036854775807,rfl,by omega,by decide,by decide⟩
     ·exact⟨m-1,IntWalk.i64_in _ (by omega),by omega,by omega,by omega⟩
    obtain⟨q,hq,hq1,hq2,hq3⟩:=hw;have Hm:=hqd hm;have Hq:=hqd hq1;clear hm hq1;go_wp2_with fail;go_roundw
    case rel=>exact⟨_,k+1,q,rfl,rfl,Hq.out,hq2,hq3,by omega,hd.2⟩
    case measure=>simp;omega
   ·obtain rfl:p=l.length:=by omega
    have hnx:=next_no w l l.length hlt;go_wp2_with fail;go_ret;exact⟨rfl,Ext.iter _ _⟩
theorem cget_is(w:World)(b:Nat)(g:List Int)(h:Gm w b g)(i:Int)(h0:0≤i)(h1:i≤31) :
  Calls prog 343 #[.pointer (some ⟨b,0,none⟩),.int .i64 i] w fun e w'=>e = .returned (.int .i32 (getN g i))∧w'=w:=by
 obtain⟨c,f⟩:=h.at_ h0 h1;clear h;go_enter func343,ntmps343;go_wp2_with fail;go_ret;exact⟨rfl,rfl⟩
theorem cset_is(w:World)(b:Nat)(g:List Int)(h:Gm w b g)(i v:Int)(h0:0≤i)(h1:i≤31) :
  Calls prog 344 #[.pointer (some ⟨b,0,none⟩),.int .i64 i,.int .i32 v] w fun e w'=>e = .returned (.tuple #[])∧w'=w.setCell ⟨b,i.toNat,none⟩ (.int .i32 v):=by
 obtain⟨c,f⟩:=h.at_ h0 h1;clear h;go_enter func344,ntmps344;go_wp2_with fail;go_end0
 exact⟨rfl,rfl⟩
def cellsRep(b:Nat)(w:World)(g:List Int)(d:Bool):Prop:=Gm w b g∧d=false
theorem memI_cells(b:Nat):MemI 323 b (fun k=>k=b) (cellsRep b) 343 344:={
 gm:=fun f w=>by kernel_rfl
 sm:=fun f w=>by kernel_rfl
 ge:=fun x w=>by kernel_rfl
 se:=fun x y w=>by kernel_rfl
 gc:=fun w g d i h h0 h1=>(cget_is w b g h.1 i h0 h1).mono fun _ _ ⟨h2,h3⟩=>⟨h2,h3▸Ext.refl _⟩
 sc:=fun w g d i v h ho hv h0 h1=>(cset_is w b g h.1 i v h0 h1).mono fun _ _ ⟨h2,h3⟩=>⟨h2,h3▸Moved.set _ w _ _ rfl,setN g i v,false,⟨h3▸h.1.set_ h0 h1 v,rfl⟩,setN_ok ho i hv,fun _=>⟨h.2,rfl⟩⟩
 keep:=fun w w' g d h _ hk=>⟨h.1.of_block (hk b rfl h.1.lt),h.2⟩
 lt:=fun w g d h k hk=>by rw[hk];exact h.1.lt}
def Rn(w:World)(R:Nat)(t:List UInt8)(A:Option Addr)(n c:Nat)(M:Value)(frame:Int)(Pa:Option Addr)(pn pc:Nat)(k:Nat):Prop :=
 w.cell? ⟨R,0,none⟩=some (.string (bs t))∧w.cell? ⟨R,1,none⟩=some (.slice A n c)∧w.cell? ⟨R,2,none⟩=some M∧w.cell? ⟨R,3,none⟩=some (.int .i64 frame) ∧
  w.cell? ⟨R,4,none⟩=some (.slice Pa pn pc)∧w.cell? ⟨R,5,none⟩=some (.int .i64 (k:Nat))∧w.frozen? ⟨R,5,none⟩=false
theorem in_is(w:World)(R:Nat)(Pa:Option Addr)(pn pc:Nat)(press:List UInt8)(hr:w.cell? ⟨R,4,none⟩=some (.slice Pa pn pc))(hp:Rb w Pa pn pc press)(who:Int)(ho:ok32 who) :
  Calls prog 177 #[.pointer (some ⟨R,0,none⟩),.int .i32 who] w fun e w'=>e = .returned (.int .i32 (inN press who))∧w'=w:=by
 have hmx:=hp.max;unfold maxLen at hmx;unfold ok32 at ho;by_cases h0:who<0
 ·have hv:inN press who=0:=if_pos h0
  rw[hv];clear hv;go_enter func177,ntmps177;go_wp2_with fail;go_ret;exact⟨rfl,rfl⟩
 have hn:=hp.len;subst hn;by_cases h1:who.toNat<press.length
 ·obtain⟨pb,po,rfl,hc⟩:=hp.at_ h1
  have hv:inN press who=(press[who.toNat].toNat:Nat):=by
   unfold inN bt;rw[if_neg h0,List.getD_eq_getElem?_getD,List.getElem?_eq_getElem h1];rfl
  have hw:who<press.length:=by omega
  rw[hv];clear hv;generalize press[who.toNat]=u at *;have hu:=u.toNat_lt;generalize u.toNat=v at *;go_enter func177,ntmps177;go_wp2_with fail;go_ret;exact⟨rfl,rfl⟩
 ·have hv:inN press who=0:=by
   unfold inN bt;rw[if_neg h0,List.getD_eq_getElem?_getD,List.getElem?_eq_none (by omega)];rfl
  have hw:(press.length:Int)≤who:=by omega
  rw[hv];clear hv;go_enter func177,ntmps177;go_wp2_with fail;go_ret;exact⟨rfl,rfl⟩
theorem value_mov(w:World)(R b T:Nat){F:Nat→Prop}{rep:World→List Int→Bool→Prop}{G S:FuncId}(t:List UInt8)(A:Option Addr)(n c:Nat)(frame:Int)(Pa:Option Addr)(pn pc k:Nat)(press:List UInt8)(g:List Int)
  (hM:MemI T b F rep G S) (hr:Rn w R t A n c (.iface T (.pointer (some ⟨b,0,none⟩))) frame Pa pn pc k) {d:Bool} (hg:rep w g d) (hok:okG g) (x y z:Int) (y0:0≤y) (y1:y≤31) :
  Calls prog 153 #[.pointer (some ⟨R,0,none⟩),opAgg (2,x,y,z)] w fun e w'=>e = .returned (.int .i32 (valN t press frame g (2,x,y,z)))∧Ext w w':=by
 have hv:valN t press frame g (2,x,y,z)=getN g y:=rfl;rw[hv];clear hv;unfold opAgg;have e0:=Ext.alloc w (.cells #[.int .i64 2,.int .i64 x,.int .i64 y,.int .i64 z] 127);obtain⟨r0,r1,r2,r3,r4,r5,r6⟩:=hr;have r0:=e0.cell r0;have r2:=e0.cell r2;have r3:=e0.cell r3;have r4:=e0.cell r4;have hg:=hM.ext hg e0;have hm:=hM.gm;have he:=hM.ge;go_enter func153,ntmps153;go_wp2_with fail;generalize hW:World.alloc w _=W at *;have y0c:W.cell? ⟨w.heap.size,0,none⟩=some (.int .i64 2):=by subst hW;go_simp
 have y2:W.cell? ⟨w.heap.size,2,none⟩=some (.int .i64 y):=by subst hW;go_simp
 have y3:W.cell? ⟨w.heap.size,3,none⟩=some (.int .i64 z):=by subst hW;go_simp
 clear hW;apply wrA trivial;repeat apply lxA (fun _ h _=>aj (h.cell r0) (aj (h.cell r2) (aj (h.cell r3) (aj (h.cell y0c) (aj (h.cell y2) (h.cell y3))))))
 apply lex_callx
 ·rfl
 ·intro W'
  go_simp;exact⟨rfl,rfl⟩
 ·intro W' hR hΦ
  refine(hM.gc _ g d y (hM.ext hg hR) y0 y1).mono ?_;rintro e w' ⟨rfl,h9⟩;exact⟨rfl,h9⟩
 simp only[pu];repeat apply lxA (fun _ h _=>aj (h.cell r0) (aj (h.cell r2) (aj (h.cell r3) (aj (h.cell y0c) (aj (h.cell y2) (h.cell y3))))))
 refine lex_nil ?_;intro W1 hR1 hΦ;clear hΦ;go_wp2_with fail;go_ret;exact⟨rfl,e0.trans hR1⟩
theorem value_in(w:World)(R b T:Nat){F:Nat→Prop}{rep:World→List Int→Bool→Prop}{G S:FuncId}(t:List UInt8)(A:Option Addr)(n c:Nat)(frame:Int)(Pa:Option Addr)(pn pc k:Nat)(press:List UInt8)(g:List Int)
  (hM:MemI T b F rep G S) (hr:Rn w R t A n c (.iface T (.pointer (some ⟨b,0,none⟩))) frame Pa pn pc k) {d:Bool} (hg:rep w g d) (hok:okG g) (x y z:Int) (y0:0≤y) (y1:y≤31) (hp:Rb w Pa pn pc press) :
  Calls prog 153 #[.pointer (some ⟨R,0,none⟩),opAgg (11,x,y,z)] w fun e w'=>e = .returned (.int .i32 (valN t press frame g (11,x,y,z)))∧Ext w w':=by
 have hv:valN t press frame g (11,x,y,z)=inN press (getN g y):=rfl;rw[hv];clear hv;have hyk:=getN_ok hok y;have hp:=hp.ext (Ext.alloc w (.cells #[.int .i64 11,.int .i64 x,.int .i64 y,.int .i64 z] 127));unfold opAgg;have e0:=Ext.alloc w (.cells #[.int .i64 11,.int .i64 x,.int .i64 y,.int .i64 z] 127);obtain⟨r0,r1,r2,r3,r4,r5,r6⟩:=hr;have r0:=e0.cell r0;have r2:=e0.cell r2;have r3:=e0.cell r3;have r4:=e0.cell r4;have hg:=hM.ext hg e0;have hm:=hM.gm;have he:=hM.ge;go_enter func153,ntmps153;go_wp2_with fail;generalize hW:World.alloc w _=W at *;have y0c:W.cell? ⟨w.heap.size,0,none⟩=some (.int .i64 11):=by subst hW;go_simp
 have y2:W.cell? ⟨w.heap.size,2,none⟩=some (.int .i64 y):=by subst hW;go_simp
 have y3:W.cell? ⟨w.heap.size,3,none⟩=some (.int .i64 z):=by subst hW;go_simp
 clear hW;apply wrA trivial;repeat apply lxA (fun _ h _=>aj (h.cell r0) (aj (h.cell r2) (aj (h.cell r3) (aj (h.cell y0c) (aj (h.cell y2) (h.cell y3))))))
 apply lex_callx
 ·rfl
 ·intro W'
  go_simp;exact⟨rfl,rfl⟩
 ·intro W' hR hΦ
  refine(hM.gc _ g d y (hM.ext hg hR) y0 y1).mono ?_;rintro e w' ⟨rfl,h9⟩;exact⟨rfl,h9⟩
 simp only[pu];repeat apply lxA (fun _ h _=>aj (h.cell r0) (aj (h.cell r2) (aj (h.cell r3) (aj (h.cell y0c) (aj (h.cell y2) (h.cell y3))))))
 apply lex_callx
 ·rfl
 ·intro W'
  go_simp;exact⟨rfl,rfl⟩
 ·intro W' hR hΦ
  refine(in_is _ R Pa pn pc press (hR.cell r4) (hp.ext hR) _ hyk).mono ?_;rintro e w' ⟨rfl,rfl⟩;exact⟨rfl,Ext.refl _⟩
 simp only[pu];repeat apply lxA (fun _ h _=>aj (h.cell r0) (aj (h.cell r2) (aj (h.cell r3) (aj (h.cell y0c) (aj (h.cell y2) (h.cell y3))))))
 refine lex_nil ?_;intro W1 hR1 hΦ;clear hΦ;go_wp2_with fail;go_ret;exact⟨rfl,e0.trans hR1⟩
theorem value_load(w:World)(R b T:Nat){F:Nat→Prop}{rep:World→List Int→Bool→Prop}{G S:FuncId}(t:List UInt8)(A:Option Addr)(n c:Nat)(frame:Int)(Pa:Option Addr)(pn pc k:Nat)(press:List UInt8)(g:List Int)
  (hM:MemI T b F rep G S) (hr:Rn w R t A n c (.iface T (.pointer (some ⟨b,0,none⟩))) frame Pa pn pc k) {d:Bool} (hg:rep w g d) (hok:okG g) (x y z:Int) (y0:0≤y) (y1:y≤31) :
  Calls prog 153 #[.pointer (some ⟨R,0,none⟩),opAgg (12,x,y,z)] w fun e w'=>e = .returned (.int .i32 (valN t press frame g (12,x,y,z)))∧Ext w w':=by
 have hv:valN t press frame g (12,x,y,z)=getN g (remN (getN g y):Nat):=rfl;rw[hv];clear hv;have hyk:=getN_ok hok y;have hlt:=remN_lt (getN g y);unfold opAgg;have e0:=Ext.alloc w (.cells #[.int .i64 12,.int .i64 x,.int .i64 y,.int .i64 z] 127);obtain⟨r0,r1,r2,r3,r4,r5,r6⟩:=hr;have r0:=e0.cell r0;have r2:=e0.cell r2;have r3:=e0.cell r3;have r4:=e0.cell r4;have hg:=hM.ext hg e0;have hm:=hM.gm;have he:=hM.ge;go_enter func153,ntmps153;go_wp2_with fail;generalize hW:World.alloc w _=W at *;have y0c:W.cell? ⟨w.heap.size,0,none⟩=some (.int .i64 12):=by subst hW;go_simp
 have y2:W.cell? ⟨w.heap.size,2,none⟩=some (.int .i64 y):=by subst hW;go_simp
 have y3:W.cell? ⟨w.heap.size,3,none⟩=some (.int .i64 z):=by subst hW;go_simp
 clear hW;apply wrA trivial;repeat apply lxA (fun _ h _=>aj (h.cell r0) (aj (h.cell r2) (aj (h.cell r3) (aj (h.cell y0c) (aj (h.cell y2) (h.cell y3))))))
 apply lex_callx
 ·rfl
 ·intro W'
  go_simp;exact⟨rfl,rfl⟩
 ·intro W' hR hΦ
  refine(hM.gc _ g d y (hM.ext hg hR) y0 y1).mono ?_;rintro e w' ⟨rfl,h9⟩;exact⟨rfl,h9⟩
 simp only[pu];repeat apply lxA (fun _ h _=>aj (h.cell r0) (aj (h.cell r2) (aj (h.cell r3) (aj (h.cell y0c) (aj (h.cell y2) (h.cell y3))))))
 apply lex_callx
 ·rfl
 ·intro W'
  go_simp;exact⟨rfl,rfl⟩
 ·intro W' hR hΦ
  refine(mod_is _ _ hyk).mono ?_;rintro e w' ⟨rfl,rfl⟩;exact⟨rfl,Ext.refl _⟩
 simp only[pu];repeat apply lxA (fun _ h _=>aj (h.cell r0) (aj (h.cell r2) (aj (h.cell r3) (aj (h.cell y0c) (aj (h.cell y2) (h.cell y3))))))
 apply lex_callx
 ·rfl
 ·intro W'
  go_simp;exact⟨rfl,rfl⟩
 ·intro W' hR hΦ
  refine(hM.gc _ g d _ (hM.ext hg hR) (by omega) (by omega)).mono ?_;rintro e w' ⟨rfl,h9⟩;exact⟨rfl,h9⟩
 simp only[pu];repeat apply lxA (fun _ h _=>aj (h.cell r0) (aj (h.cell r2) (aj (h.cell r3) (aj (h.cell y0c) (aj (h.cell y2) (h.cell y3))))))
 refine lex_nil ?_;intro W1 hR1 hΦ;clear hΦ;go_wp2_with fail;go_ret;exact⟨rfl,e0.trans hR1⟩
theorem value_rune(w:World)(R b T:Nat){F:Nat→Prop}{rep:World→List Int→Bool→Prop}{G S:FuncId}(t:List UInt8)(A:Option Addr)(n c:Nat)(frame:Int)(Pa:Option Addr)(pn pc k:Nat)(press:List UInt8)(g:List Int)
  (hM:MemI T b F rep G S) (hr:Rn w R t A n c (.iface T (.pointer (some ⟨b,0,none⟩))) frame Pa pn pc k) {d:Bool} (hg:rep w g d) (hok:okG g) (x y z:Int) (y0:0≤y) (y1:y≤31) (ht:t.length≤1099511627776) :
  Calls prog 153 #[.pointer (some ⟨R,0,none⟩),opAgg (14,x,y,z)] w fun e w'=>e = .returned (.int .i32 (valN t press frame g (14,x,y,z)))∧Ext w w':=by
 have hv:valN t press frame g (14,x,y,z)=((atL t (getN g y):Nat):Int):=rfl;rw[hv];clear hv;have hyk:=getN_ok hok y;unfold ok32 at hyk;have hwr:IntKind.i64.wrap (getN g y)=getN g y:=IntWalk.i64_in _ (by omega);unfold opAgg;have e0:=Ext.alloc w (.cells #[.int .i64 14,.int .i64 x,.int .i64 y,.int .i64 z] 127);obtain⟨r0,r1,r2,r3,r4,r5,r6⟩:=hr;have r0:=e0.cell r0;have r2:=e0.cell r2;have r3:=e0.cell r3;have r4:=e0.cell r4;have hg:=hM.ext hg e0;have hm:=hM.gm;have he:=hM.ge;go_enter func153,ntmps153;go_wp2_with fail;generalize hW:World.alloc w _=W at *;have y0c:W.cell? ⟨w.heap.size,0,none⟩=some (.int .i64 14):=by subst hW;go_simp
 have y2:W.cell? ⟨w.heap.size,2,none⟩=some (.int .i64 y):=by subst hW;go_simp
 have y3:W.cell? ⟨w.heap.size,3,none⟩=some (.int .i64 z):=by subst hW;go_simp
 clear hW;apply wrA trivial;repeat apply lxA (fun _ h _=>aj (h.cell r0) (aj (h.cell r2) (aj (h.cell r3) (aj (h.cell y0c) (aj (h.cell y2) (h.cell y3))))))
 apply lex_callx
 ·rfl
 ·intro W'
  go_simp;exact⟨rfl,rfl⟩
 ·intro W' hR hΦ
  refine(hM.gc _ g d y (hM.ext hg hR) y0 y1).mono ?_;rintro e w' ⟨rfl,h9⟩;exact⟨rfl,h9⟩
 simp only[pu];repeat apply lxA (fun _ h _=>aj (h.cell r0) (aj (h.cell r2) (aj (h.cell r3) (aj (h.cell y0c) (aj (h.cell y2) (h.cell y3))))))
 apply lex_callx
 ·rfl
 ·intro W'
  go_simp;exact⟨rfl,rfl⟩
 ·intro W' hR hΦ
  refine(at_any _ t ht _ (by omega) (by omega)).mono ?_;rintro e w' ⟨rfl,h9⟩;exact⟨rfl,h9⟩
 simp only[pu];repeat apply lxA (fun _ h _=>aj (h.cell r0) (aj (h.cell r2) (aj (h.cell r3) (aj (h.cell y0c) (aj (h.cell y2) (h.cell y3))))))
 refine lex_nil ?_;intro W1 hR1 hΦ;clear hΦ;go_wp2_with fail;go_ret;exact⟨rfl,e0.trans hR1⟩
theorem value_set(w:World)(R b T:Nat){F:Nat→Prop}{rep:World→List Int→Bool→Prop}{G S:FuncId}(t:List UInt8)(A:Option Addr)(n c:Nat)(frame:Int)(Pa:Option Addr)(pn pc k:Nat)(press:List UInt8)(g:List Int)
  (hM:MemI T b F rep G S) (hr:Rn w R t A n c (.iface T (.pointer (some ⟨b,0,none⟩))) frame Pa pn pc k) {d:Bool} (hg:rep w g d) (x y z:Int)  :
  Calls prog 153 #[.pointer (some ⟨R,0,none⟩),opAgg (1,x,y,z)] w fun e w'=>e = .returned (.int .i32 (valN t press frame g (1,x,y,z)))∧Ext w w':=by
 have hv:valN t press frame g (1,x,y,z)=w32 y:=rfl;rw[hv];clear hv;unfold opAgg;have e0:=Ext.alloc w (.cells #[.int .i64 1,.int .i64 x,.int .i64 y,.int .i64 z] 127);obtain⟨r0,r1,r2,r3,r4,r5,r6⟩:=hr;have r0:=e0.cell r0;have r2:=e0.cell r2;have r3:=e0.cell r3;have r4:=e0.cell r4;have hg:=hM.ext hg e0;have hm:=hM.gm;have he:=hM.ge;go_enter func153,ntmps153;go_wp2_with fail;generalize hW:World.alloc w _=W at *;have y0c:W.cell? ⟨w.heap.size,0,none⟩=some (.int .i64 1):=by subst hW;go_simp
 have y2:W.cell? ⟨w.heap.size,2,none⟩=some (.int .i64 y):=by subst hW;go_simp
 have y3:W.cell? ⟨w.heap.size,3,none⟩=some (.int .i64 z):=by subst hW;go_simp
 clear hW;go_ret;exact⟨by simp[wrap32_is],e0⟩
theorem value_time(w:World)(R b T:Nat){F:Nat→Prop}{rep:World→List Int→Bool→Prop}{G S:FuncId}(t:List UInt8)(A:Option Addr)(n c:Nat)(frame:Int)(Pa:Option Addr)(pn pc k:Nat)(press:List UInt8)(g:List Int)
  (hM:MemI T b F rep G S) (hr:Rn w R t A n c (.iface T (.pointer (some ⟨b,0,none⟩))) frame Pa pn pc k) {d:Bool} (hg:rep w g d) (x y z:Int)  :
  Calls prog 153 #[.pointer (some ⟨R,0,none⟩),opAgg (15,x,y,z)] w fun e w'=>e = .returned (.int .i32 (valN t press frame g (15,x,y,z)))∧Ext w w':=by
 have hv:valN t press frame g (15,x,y,z)=w32 frame:=rfl;rw[hv];clear hv;unfold opAgg;have e0:=Ext.alloc w (.cells #[.int .i64 15,.int .i64 x,.int .i64 y,.int .i64 z] 127);obtain⟨r0,r1,r2,r3,r4,r5,r6⟩:=hr;have r0:=e0.cell r0;have r2:=e0.cell r2;have r3:=e0.cell r3;have r4:=e0.cell r4;have hg:=hM.ext hg e0;have hm:=hM.gm;have he:=hM.ge;go_enter func153,ntmps153;go_wp2_with fail;generalize hW:World.alloc w _=W at *;have y0c:W.cell? ⟨w.heap.size,0,none⟩=some (.int .i64 15):=by subst hW;go_simp
 have y2:W.cell? ⟨w.heap.size,2,none⟩=some (.int .i64 y):=by subst hW;go_simp
 have y3:W.cell? ⟨w.heap.size,3,none⟩=some (.int .i64 z):=by subst hW;go_simp
 clear hW;go_ret;exact⟨by simp[wrap32_is];unfold w32;omega,e0⟩
theorem value_sum(w:World)(R b T:Nat){F:Nat→Prop}{rep:World→List Int→Bool→Prop}{G S:FuncId}(t:List UInt8)(A:Option Addr)(n c:Nat)(frame:Int)(Pa:Option Addr)(pn pc k:Nat)(press:List UInt8)(g:List Int)
  (hM:MemI T b F rep G S) (hr:Rn w R t A n c (.iface T (.pointer (some ⟨b,0,none⟩))) frame Pa pn pc k) {d:Bool} (hg:rep w g d) (kc x y z:Int) (y0:0≤y) (y1:y≤31) (z0:0≤z) (z1:z≤31) (k0:3≤kc) (k1:kc≤8) :
  Calls prog 153 #[.pointer (some ⟨R,0,none⟩),opAgg (kc,x,y,z)] w fun e w'=>e = .returned (.int .i32 (valN t press frame g (kc,x,y,z)))∧Ext w w':=by
 have hv:valN t press frame g (kc,x,y,z)=sumN kc (getN g y) (getN g z):=by unfold valN;rw[if_neg (by omega),if_neg (by omega),if_neg (by omega),if_neg (by omega),if_neg (by omega),if_neg (by omega)]
 rw[hv];clear hv;have n1:(kc==1)=false:=by rw[beq_eq_false_iff_ne];omega
 have n2:(kc==2)=false:=by rw[beq_eq_false_iff_ne];omega
 have n11:(kc==11)=false:=by rw[beq_eq_false_iff_ne];omega
 have n12:(kc==12)=false:=by rw[beq_eq_false_iff_ne];omega
 have n14:(kc==14)=false:=by rw[beq_eq_false_iff_ne];omega
 have n15:(kc==15)=false:=by rw[beq_eq_false_iff_ne];omega
 unfold opAgg;have e0:=Ext.alloc w (.cells #[.int .i64 kc,.int .i64 x,.int .i64 y,.int .i64 z] 127);obtain⟨r0,r1,r2,r3,r4,r5,r6⟩:=hr;have r0:=e0.cell r0;have r2:=e0.cell r2;have r3:=e0.cell r3;have r4:=e0.cell r4;have hg:=hM.ext hg e0;have hm:=hM.gm;have he:=hM.ge;go_enter func153,ntmps153;go_wp2_with fail;generalize hW:World.alloc w _=W at *;have y0c:W.cell? ⟨w.heap.size,0,none⟩=some (.int .i64 kc):=by subst hW;go_simp
 have y2:W.cell? ⟨w.heap.size,2,none⟩=some (.int .i64 y):=by subst hW;go_simp
 have y3:W.cell? ⟨w.heap.size,3,none⟩=some (.int .i64 z):=by subst hW;go_simp
 clear hW;apply wrA trivial;repeat apply lxA (fun _ h _=>aj (h.cell r0) (aj (h.cell r2) (aj (h.cell r3) (aj (h.cell y0c) (aj (h.cell y2) (h.cell y3))))))
 apply lex_callx
 ·rfl
 ·intro W'
  go_simp;exact⟨rfl,rfl⟩
 ·intro W' hR hΦ
  refine(hM.gc _ g d y (hM.ext hg hR) y0 y1).mono ?_;rintro e w' ⟨rfl,h9⟩;exact⟨rfl,h9⟩
 simp only[pu];repeat apply lxA (fun _ h _=>aj (h.cell r0) (aj (h.cell r2) (aj (h.cell r3) (aj (h.cell y0c) (aj (h.cell y2) (h.cell y3))))))
 refine lex_nil ?_;intro W1 hR1 hΦ;clear hΦ;have r0:=hR1.cell r0;have r2:=hR1.cell r2;have r3:=hR1.cell r3;have y2:=hR1.cell y2;have y0c:=hR1.cell y0c;have y3:=hR1.cell y3;have hg:=hM.ext hg hR1;go_wp2_with fail;apply wrA trivial;repeat apply lxA (fun _ h _=>aj (h.cell r0) (aj (h.cell r2) (aj (h.cell r3) (aj (h.cell y0c) (aj (h.cell y2) (h.cell y3))))))
 apply lex_callx
 ·rfl
 ·intro W'
  go_simp;exact⟨rfl,rfl⟩
 ·intro W' hR hΦ
  refine(hM.gc _ g d z (hM.ext hg hR) z0 z1).mono ?_;rintro e w' ⟨rfl,h9⟩;exact⟨rfl,h9⟩
 simp only[pu];repeat apply lxA (fun _ h _=>aj (h.cell r0) (aj (h.cell r2) (aj (h.cell r3) (aj (h.cell y0c) (aj (h.cell y2) (h.cell y3))))))
 apply lex_callx
 ·rfl
 ·intro W'
  go_simp;exact⟨rfl,rfl⟩
 ·intro W' hR hΦ
  refine(sum_is _ kc _ _).mono ?_;rintro e w' ⟨rfl,rfl⟩;exact⟨rfl,Ext.refl _⟩
 simp only[pu];repeat apply lxA (fun _ h _=>aj (h.cell r0) (aj (h.cell r2) (aj (h.cell r3) (aj (h.cell y0c) (aj (h.cell y2) (h.cell y3))))))
 refine lex_nil ?_;intro W2 hR2 hΦ;clear hΦ;go_wp2_with fail;go_ret;exact⟨rfl,(e0.trans hR1).trans hR2⟩
structure Chg(w w':World)(R:Nat)(F:Nat→Prop):Prop where
 os:w'.os=w.os
 tape:w'.tape=w.tape
 output:w'.output=w.output
 size:w.heap.size≤w'.heap.size
 block:∀ k,k<w.heap.size→k≠R→¬ F k→w'.heap[k]?=w.heap[k]?
section
variable {w w' a c:World} {R:Nat} {F:Nat→Prop}
theorem Chg.refl(w:World)(R:Nat)(F:Nat→Prop):Chg w w R F:=⟨rfl,rfl,rfl,Nat.le_refl _,fun _ _ _ _=>rfl⟩
theorem Chg.trans(h:Chg w a R F)(k:Chg a c R F):Chg w c R F :=
 ⟨k.os.trans h.os,k.tape.trans h.tape,k.output.trans h.output,Nat.le_trans h.size k.size,fun i hi h1 h2=>(k.block i (Nat.lt_of_lt_of_le hi h.size) h1 h2).trans (h.block i hi h1 h2)⟩
theorem Chg.of_ext(h:Ext w w')(R:Nat)(F:Nat→Prop):Chg w w' R F:=⟨h.os,h.tape,h.output,h.size,fun k hk _ _=>h.block k hk⟩
theorem Chg.of_moved(h:Moved F w w')(R:Nat):Chg w w' R F:=⟨h.os,h.tape,h.output,h.size,fun k hk _ h2=>h.block k hk h2⟩
theorem Chg.setR(w:World)(R:Nat)(F:Nat→Prop)(o:Nat)(u:Value):Chg w (w.setCell ⟨R,o,none⟩ u) R F :=
 ⟨rfl,rfl,rfl,by simp[World.setCell],fun k hk h1 _=>Below.heap_setCell w _ u k h1⟩
theorem Chg.setNew(h:Chg w a R F){p:Addr}(hp:w.heap.size≤p.block)(u:Value):Chg w (a.setCell p u) R F :=
 ⟨h.os,h.tape,h.output,by simp[World.setCell];exact h.size,fun k hk' h1 h2=>(Below.heap_setCell a p u k (by omega)).trans (h.block k hk' h1 h2)⟩
end
section
variable {w w':World} {R b:Nat} {t:List UInt8} {A:Option Addr} {n c:Nat} {M:Value} {frame:Int} {Pa:Option Addr} {pn pc k:Nat}
theorem Rn.lt(h:Rn w R t A n c M frame Pa pn pc k):R<w.heap.size:=World.block_lt_of_cell? w _ h.1
theorem Rn.of_block(h:Rn w R t A n c M frame Pa pn pc k)(e:w'.heap[R]?=w.heap[R]?):Rn w' R t A n c M frame Pa pn pc k:=by
 obtain⟨h0,h1,h2,h3,h4,h5,h6⟩:=h;have hc:∀ j,w'.cell? ⟨R,j,none⟩=w.cell? ⟨R,j,none⟩:=fun j=>World.cell?_of_block (a:=⟨R,j,none⟩) e;exact⟨(hc 0).trans h0,(hc 1).trans h1,(hc 2).trans h2,(hc 3).trans h3,(hc 4).trans h4,(hc 5).trans h5,by simp only[World.frozen?]at h6 ⊢;rw[e];exact h6⟩
theorem Rn.ext(h:Rn w R t A n c M frame Pa pn pc k)(e:Ext w w'):Rn w' R t A n c M frame Pa pn pc k:=h.of_block (e.block R h.lt)
theorem Rn.at_(h:Rn w R t A n c M frame Pa pn pc k)(k':Nat):Rn (w.setCell ⟨R,5,none⟩ (.int .i64 (k':Nat))) R t A n c M frame Pa pn pc k':=by
 obtain⟨h0,h1,h2,h3,h4,h5,h6⟩:=h;refine⟨?_,?_,?_,?_,?_,?_,?_⟩<;>go_simp
theorem Rn.setG(h:Rn w R t A n c M frame Pa pn pc k)(hne:R≠b)(o:Nat)(u:Value):Rn (w.setCell ⟨b,o,none⟩ u) R t A n c M frame Pa pn pc k:=h.of_block (Below.heap_setCell w _ u R hne)
end
def OneOf(w:World)(R:Nat)(F:Nat→Prop)(rep:World→List Int→Bool→Prop)(t:List UInt8)(A:Option Addr)(n c:Nat)(M:Value)(frame:Int)(Pa:Option Addr)(pn pc k:Nat)(d:Bool)(X:List Int)(go:Bool)(e:Ending)(w':World):Prop :=
 e = .returned (.bool go)∧Rn w' R t A n c M frame Pa pn pc k∧(∃ g' d',rep w' g' d'∧okG g'∧(d'=false→d=false∧g'=X))∧Chg w w' R F
theorem one_halt(w:World)(R b T:Nat){F:Nat→Prop}{rep:World→List Int→Bool→Prop}{G S:FuncId}(t:List UInt8)(A:Option Addr)(n c:Nat)(l:List OpT)(frame:Int)(Pa:Option Addr)(pn pc k:Nat)(press:List UInt8)(g:List Int)
  (hM:MemI T b F rep G S) (hr:Rn w R t A n c (.iface T (.pointer (some ⟨b,0,none⟩))) frame Pa pn pc k) (hl:Ro w A n c l) (hp:Rb w Pa pn pc press) {d:Bool} (hg:rep w g d) (hok:okG g) (hne:¬ F R) (hk:k<l.length) (h64:l.length≤64) (ht:t.length≤1099511627776) {xc x y z:Int} (ho:l[k]=(xc,x,y,z)) (hx:xc=0) :
  Calls prog 112 #[.pointer (some ⟨R,0,none⟩)] w (OneOf w R F rep t A n c (.iface T (.pointer (some ⟨b,0,none⟩))) frame Pa pn pc (k+1) d g false):=by
 obtain⟨ab,ao,rfl,o0,o1,o2,o3⟩:=hl.at_ hk;have hn:=hl.len;have hmx:=hl.max;unfold maxLen at hmx;rw[ho]at o0 o1 o2 o3;clear ho;dsimp only at o0 o1 o2 o3
 obtain⟨r0,r1,r2,r3,r4,r5,r6⟩:=id hr;subst hx;go_enter func112,ntmps112;go_wp2_with fail;apply wrN 12;simp only[tk];repeat apply lxA (fun _ h _=>aj (h.cell r1) (aj (h.cell r5) (aj (h.cell o0) (aj (h.cell o1) (aj (h.cell o2) (h.cell o3))))))
 apply lex_new (p:=fun u W=>∃ g0,u = .pointer (some ⟨g0,0,none⟩)∧w.heap.size≤g0∧W.heap[g0]?=some (.cells #[.int .i64 0,.int .i64 0,.int .i64 0,.int .i64 0] 127 (0,0))) (fun _ _ _ ⟨g,hv,hg,h⟩ he=>⟨g,hv,hg,(he.block g (Array.getElem?_eq_some_iff.1 h).1).trans h⟩)
 ·rfl
 ·intro W hR hΦ
  refine⟨.pointer (some ⟨W.heap.size,0,none⟩),W.alloc (.cells #[.int .i64 0,.int .i64 0,.int .i64 0,.int .i64 0] 127),?_,Ext.alloc _ _,W.heap.size,rfl,hR.size,heap_alloc_new W _⟩;go_simp;first|done|rfl
 intro v2;simp only[pu];refine lex_nil ?_;intro W hR hΦ;obtain⟨g0,rfl,hg0,hblk⟩:=hΦ.1 rfl;simp only[dk];clear hΦ r0 r1 r2 r3 r4 r5 r6 o0 o1 o2 o3;have hRg:R≠g0:=by have:=hr.lt;omega
 have hbg:¬ F g0:=fun e=>by have:=hM.lt _ _ _ hg g0 e;omega
 have hr1:=hr.ext hR;have hg1:=hM.ext hg hR;have hp1:=hp.ext hR;have c1:Chg w W R F:=Chg.of_ext hR R F;obtain⟨r0,r1,r2,r3,r4,r5,r6⟩:=id hr1;have y0c:W.cell? ⟨g0,0,none⟩=some (.int .i64 0):=by rw[cell_of_row _ _ _ _ _ _ hblk];rfl
 have y1c:W.cell? ⟨g0,1,none⟩=some (.int .i64 0):=by rw[cell_of_row _ _ _ _ _ _ hblk];rfl
 have y2c:W.cell? ⟨g0,2,none⟩=some (.int .i64 0):=by rw[cell_of_row _ _ _ _ _ _ hblk];rfl
 have y3c:W.cell? ⟨g0,3,none⟩=some (.int .i64 0):=by rw[cell_of_row _ _ _ _ _ _ hblk];rfl
 have z0c:W.frozen? ⟨g0,0,none⟩=false:=by simp[World.frozen?,hblk]
 have z1c:W.frozen? ⟨g0,1,none⟩=false:=by simp[World.frozen?,hblk]
 have z2c:W.frozen? ⟨g0,2,none⟩=false:=by simp[World.frozen?,hblk]
 have z3c:W.frozen? ⟨g0,3,none⟩=false:=by simp[World.frozen?,hblk]
 go_wp2_with fail;generalize hV:World.setCell (World.setCell (World.setCell (World.setCell (World.setCell W _ _) _ _) _ _) _ _) _ _=V at *;have rV:Rn V R t (some ⟨ab,ao,none⟩) n c (.iface T (.pointer (some ⟨b,0,none⟩))) frame Pa pn pc (k+1):=by subst hV;exact((((hr1.setG hRg 0 _).setG hRg 1 _).setG hRg 2 _).setG hRg 3 _).at_ (k+1)
 have gV:rep V g d:=by subst hV;exact hM.set (hM.set (hM.set (hM.set (hM.set hg1 _ _ hbg) _ _ hbg) _ _ hbg) _ _ hbg) _ _ hne
 have cV:Chg w V R F:=by subst hV;exact((((c1.setNew hg0 _).setNew hg0 _).setNew hg0 _).setNew hg0 _).trans (Chg.setR _ R F 5 _)
 go_ret;exact⟨rfl,rV,⟨g,d,gV,hok,fun h=>⟨h,rfl⟩⟩,cV⟩
theorem one_jump(w:World)(R b T:Nat){F:Nat→Prop}{rep:World→List Int→Bool→Prop}{G S:FuncId}(t:List UInt8)(A:Option Addr)(n c:Nat)(l:List OpT)(frame:Int)(Pa:Option Addr)(pn pc k:Nat)(press:List UInt8)(g:List Int)
  (hM:MemI T b F rep G S) (hr:Rn w R t A n c (.iface T (.pointer (some ⟨b,0,none⟩))) frame Pa pn pc k) (hl:Ro w A n c l) (hp:Rb w Pa pn pc press) {d:Bool} (hg:rep w g d) (hok:okG g) (hne:¬ F R) (hk:k<l.length) (h64:l.length≤64) (ht:t.length≤1099511627776) {xc x y z:Int} (ho:l[k]=(xc,x,y,z)) (hx:xc=9) {X:Nat} (hX:x=X) :
  Calls prog 112 #[.pointer (some ⟨R,0,none⟩)] w (OneOf w R F rep t A n c (.iface T (.pointer (some ⟨b,0,none⟩))) frame Pa pn pc X d g true):=by
 obtain⟨ab,ao,rfl,o0,o1,o2,o3⟩:=hl.at_ hk;have hn:=hl.len;have hmx:=hl.max;unfold maxLen at hmx;rw[ho]at o0 o1 o2 o3;clear ho;dsimp only at o0 o1 o2 o3
 obtain⟨r0,r1,r2,r3,r4,r5,r6⟩:=id hr;subst hx hX;go_enter func112,ntmps112;go_wp2_with fail;apply wrN 12;simp only[tk];repeat apply lxA (fun _ h _=>aj (h.cell r1) (aj (h.cell r5) (aj (h.cell o0) (aj (h.cell o1) (aj (h.cell o2) (h.cell o3))))))
 apply lex_new (p:=fun u W=>∃ g0,u = .pointer (some ⟨g0,0,none⟩)∧w.heap.size≤g0∧W.heap[g0]?=some (.cells #[.int .i64 0,.int .i64 0,.int .i64 0,.int .i64 0] 127 (0,0))) (fun _ _ _ ⟨g,hv,hg,h⟩ he=>⟨g,hv,hg,(he.block g (Array.getElem?_eq_some_iff.1 h).1).trans h⟩)
 ·rfl
 ·intro W hR hΦ
  refine⟨.pointer (some ⟨W.heap.size,0,none⟩),W.alloc (.cells #[.int .i64 0,.int .i64 0,.int .i64 0,.int .i64 0] 127),?_,Ext.alloc _ _,W.heap.size,rfl,hR.size,heap_alloc_new W _⟩;go_simp;first|done|rfl
 intro v2;simp only[pu];refine lex_nil ?_;intro W hR hΦ;obtain⟨g0,rfl,hg0,hblk⟩:=hΦ.1 rfl;simp only[dk];clear hΦ r0 r1 r2 r3 r4 r5 r6 o0 o1 o2 o3;have hRg:R≠g0:=by have:=hr.lt;omega
 have hbg:¬ F g0:=fun e=>by have:=hM.lt _ _ _ hg g0 e;omega
 have hr1:=hr.ext hR;have hg1:=hM.ext hg hR;have hp1:=hp.ext hR;have c1:Chg w W R F:=Chg.of_ext hR R F;obtain⟨r0,r1,r2,r3,r4,r5,r6⟩:=id hr1;have y0c:W.cell? ⟨g0,0,none⟩=some (.int .i64 0):=by rw[cell_of_row _ _ _ _ _ _ hblk];rfl
 have y1c:W.cell? ⟨g0,1,none⟩=some (.int .i64 0):=by rw[cell_of_row _ _ _ _ _ _ hblk];rfl
 have y2c:W.cell? ⟨g0,2,none⟩=some (.int .i64 0):=by rw[cell_of_row _ _ _ _ _ _ hblk];rfl
 have y3c:W.cell? ⟨g0,3,none⟩=some (.int .i64 0):=by rw[cell_of_row _ _ _ _ _ _ hblk];rfl
 have z0c:W.frozen? ⟨g0,0,none⟩=false:=by simp[World.frozen?,hblk]
 have z1c:W.frozen? ⟨g0,1,none⟩=false:=by simp[World.frozen?,hblk]
 have z2c:W.frozen? ⟨g0,2,none⟩=false:=by simp[World.frozen?,hblk]
 have z3c:W.frozen? ⟨g0,3,none⟩=false:=by simp[World.frozen?,hblk]
 go_wp2_with fail;generalize hV:World.setCell (World.setCell (World.setCell (World.setCell (World.setCell W _ _) _ _) _ _) _ _) _ _=V at *;have rV:Rn V R t (some ⟨ab,ao,none⟩) n c (.iface T (.pointer (some ⟨b,0,none⟩))) frame Pa pn pc (k+1):=by subst hV;exact((((hr1.setG hRg 0 _).setG hRg 1 _).setG hRg 2 _).setG hRg 3 _).at_ (k+1)
 have gV:rep V g d:=by subst hV;exact hM.set (hM.set (hM.set (hM.set (hM.set hg1 _ _ hbg) _ _ hbg) _ _ hbg) _ _ hbg) _ _ hne
 have cV:Chg w V R F:=by subst hV;exact((((c1.setNew hg0 _).setNew hg0 _).setNew hg0 _).setNew hg0 _).trans (Chg.setR _ R F 5 _)
 go_ret;exact⟨rfl,rV.at_ X,⟨g,d,hM.set gV _ _ hne,hok,fun h=>⟨h,rfl⟩⟩,cV.trans (Chg.setR V R F 5 _)⟩
theorem one_zero(w:World)(R b T:Nat){F:Nat→Prop}{rep:World→List Int→Bool→Prop}{G S:FuncId}(t:List UInt8)(A:Option Addr)(n c:Nat)(l:List OpT)(frame:Int)(Pa:Option Addr)(pn pc k:Nat)(press:List UInt8)(g:List Int)
  (hM:MemI T b F rep G S) (hr:Rn w R t A n c (.iface T (.pointer (some ⟨b,0,none⟩))) frame Pa pn pc k) (hl:Ro w A n c l) (hp:Rb w Pa pn pc press) {d:Bool} (hg:rep w g d) (hok:okG g) (hne:¬ F R) (hk:k<l.length) (h64:l.length≤64) (ht:t.length≤1099511627776) {xc x y z:Int} (ho:l[k]=(xc,x,y,z)) (hx:xc=10) (x0:0≤x) (x1:x≤31) {Y:Nat} (hY:y=Y) (hz:getN g x=0) :
  Calls prog 112 #[.pointer (some ⟨R,0,none⟩)] w (OneOf w R F rep t A n c (.iface T (.pointer (some ⟨b,0,none⟩))) frame Pa pn pc Y d g true):=by
 obtain⟨ab,ao,rfl,o0,o1,o2,o3⟩:=hl.at_ hk;have hn:=hl.len;have hmx:=hl.max;unfold maxLen at hmx;rw[ho]at o0 o1 o2 o3;clear ho;dsimp only at o0 o1 o2 o3
 obtain⟨r0,r1,r2,r3,r4,r5,r6⟩:=id hr;subst hx hY;have hz1:(getN g x==0)=true:=by rw[hz];rfl
 clear hz;have hm:=hM.gm;have he:=hM.ge;have hms:=hM.sm;have hes:=hM.se;go_enter func112,ntmps112;go_wp2_with fail;apply wrN 12;simp only[tk];repeat apply lxA (fun _ h _=>aj (h.cell r1) (aj (h.cell r5) (aj (h.cell o0) (aj (h.cell o1) (aj (h.cell o2) (h.cell o3))))))
 apply lex_new (p:=fun u W=>∃ g0,u = .pointer (some ⟨g0,0,none⟩)∧w.heap.size≤g0∧W.heap[g0]?=some (.cells #[.int .i64 0,.int .i64 0,.int .i64 0,.int .i64 0] 127 (0,0))) (fun _ _ _ ⟨g,hv,hg,h⟩ he=>⟨g,hv,hg,(he.block g (Array.getElem?_eq_some_iff.1 h).1).trans h⟩)
 ·rfl
 ·intro W hR hΦ
  refine⟨.pointer (some ⟨W.heap.size,0,none⟩),W.alloc (.cells #[.int .i64 0,.int .i64 0,.int .i64 0,.int .i64 0] 127),?_,Ext.alloc _ _,W.heap.size,rfl,hR.size,heap_alloc_new W _⟩;go_simp;first|done|rfl
 intro v2;simp only[pu];refine lex_nil ?_;intro W hR hΦ;obtain⟨g0,rfl,hg0,hblk⟩:=hΦ.1 rfl;simp only[dk];clear hΦ r0 r1 r2 r3 r4 r5 r6 o0 o1 o2 o3;have hRg:R≠g0:=by have:=hr.lt;omega
 have hbg:¬ F g0:=fun e=>by have:=hM.lt _ _ _ hg g0 e;omega
 have hr1:=hr.ext hR;have hg1:=hM.ext hg hR;have hp1:=hp.ext hR;have c1:Chg w W R F:=Chg.of_ext hR R F;obtain⟨r0,r1,r2,r3,r4,r5,r6⟩:=id hr1;have y0c:W.cell? ⟨g0,0,none⟩=some (.int .i64 0):=by rw[cell_of_row _ _ _ _ _ _ hblk];rfl
 have y1c:W.cell? ⟨g0,1,none⟩=some (.int .i64 0):=by rw[cell_of_row _ _ _ _ _ _ hblk];rfl
 have y2c:W.cell? ⟨g0,2,none⟩=some (.int .i64 0):=by rw[cell_of_row _ _ _ _ _ _ hblk];rfl
 have y3c:W.cell? ⟨g0,3,none⟩=some (.int .i64 0):=by rw[cell_of_row _ _ _ _ _ _ hblk];rfl
 have z0c:W.frozen? ⟨g0,0,none⟩=false:=by simp[World.frozen?,hblk]
 have z1c:W.frozen? ⟨g0,1,none⟩=false:=by simp[World.frozen?,hblk]
 have z2c:W.frozen? ⟨g0,2,none⟩=false:=by simp[World.frozen?,hblk]
 have z3c:W.frozen? ⟨g0,3,none⟩=false:=by simp[World.frozen?,hblk]
 go_wp2_with fail;generalize hV:World.setCell (World.setCell (World.setCell (World.setCell (World.setCell W _ _) _ _) _ _) _ _) _ _=V at *;have rV:Rn V R t (some ⟨ab,ao,none⟩) n c (.iface T (.pointer (some ⟨b,0,none⟩))) frame Pa pn pc (k+1):=by subst hV;exact((((hr1.setG hRg 0 _).setG hRg 1 _).setG hRg 2 _).setG hRg 3 _).at_ (k+1)
 have gV:rep V g d:=by subst hV;exact hM.set (hM.set (hM.set (hM.set (hM.set hg1 _ _ hbg) _ _ hbg) _ _ hbg) _ _ hbg) _ _ hne
 have cV:Chg w V R F:=by subst hV;exact((((c1.setNew hg0 _).setNew hg0 _).setNew hg0 _).setNew hg0 _).trans (Chg.setR _ R F 5 _)
 have v0:V.cell? ⟨g0,0,none⟩=some (.int .i64 10):=by subst hV;go_simp
 have v1:V.cell? ⟨g0,1,none⟩=some (.int .i64 x):=by subst hV;go_simp
 have v2:V.cell? ⟨g0,2,none⟩=some (.int .i64 (Y:Nat)):=by subst hV;go_simp
 have v3:V.cell? ⟨g0,3,none⟩=some (.int .i64 z):=by subst hV;go_simp
 clear hV r0 r1 r2 r3 r4 r5 r6 y0c y1c y2c y3c z0c z1c z2c z3c hblk hr1 hg1 c1 hR hl;obtain⟨r0,r1,r2,r3,r4,r5,r6⟩:=id rV;apply wrA trivial;repeat apply lxA (fun _ h _=>aj (h.cell r2) (aj (h.cell v0) (aj (h.cell v1) (aj (h.cell v2) (h.cell v3)))))
 apply lex_callx
 ·rfl
 ·intro W'
  go_simp;exact⟨rfl,rfl⟩
 ·intro W' hR hΦ
  refine(hM.gc _ g d x (hM.ext gV hR) x0 x1).mono ?_;rintro e w' ⟨rfl,h9⟩;exact⟨rfl,h9⟩
 simp only[pu];repeat apply lxA (fun _ h _=>aj (h.cell r2) (aj (h.cell v0) (aj (h.cell v1) (aj (h.cell v2) (h.cell v3)))))
 refine lex_nil ?_;intro W1 hR1 hΦ;clear hΦ;have rW:=rV.ext hR1;have gW:=hM.ext gV hR1;have cW:=cV.trans (Chg.of_ext hR1 R F);have v2:=hR1.cell v2;obtain⟨r0,r1,r2,r3,r4,r5,r6⟩:=id rW;go_wp2_with fail;go_ret;exact⟨rfl,rW.at_ Y,⟨g,d,hM.set gW _ _ hne,hok,fun h=>⟨h,rfl⟩⟩,cW.trans (Chg.setR _ R F 5 _)⟩
theorem one_zerono(w:World)(R b T:Nat){F:Nat→Prop}{rep:World→List Int→Bool→Prop}{G S:FuncId}(t:List UInt8)(A:Option Addr)(n c:Nat)(l:List OpT)(frame:Int)(Pa:Option Addr)(pn pc k:Nat)(press:List UInt8)(g:List Int)
  (hM:MemI T b F rep G S) (hr:Rn w R t A n c (.iface T (.pointer (some ⟨b,0,none⟩))) frame Pa pn pc k) (hl:Ro w A n c l) (hp:Rb w Pa pn pc press) {d:Bool} (hg:rep w g d) (hok:okG g) (hne:¬ F R) (hk:k<l.length) (h64:l.length≤64) (ht:t.length≤1099511627776) {xc x y z:Int} (ho:l[k]=(xc,x,y,z)) (hx:xc=10) (x0:0≤x) (x1:x≤31) (hz:getN g x≠0) :
  Calls prog 112 #[.pointer (some ⟨R,0,none⟩)] w (OneOf w R F rep t A n c (.iface T (.pointer (some ⟨b,0,none⟩))) frame Pa pn pc (k+1) d g true):=by
 obtain⟨ab,ao,rfl,o0,o1,o2,o3⟩:=hl.at_ hk;have hn:=hl.len;have hmx:=hl.max;unfold maxLen at hmx;rw[ho]at o0 o1 o2 o3;clear ho;dsimp only at o0 o1 o2 o3
 obtain⟨r0,r1,r2,r3,r4,r5,r6⟩:=id hr;subst hx;have hz1:(getN g x==0)=false:=by rw[beq_eq_false_iff_ne];exact hz
 clear hz;have hm:=hM.gm;have he:=hM.ge;have hms:=hM.sm;have hes:=hM.se;go_enter func112,ntmps112;go_wp2_with fail;apply wrN 12;simp only[tk];repeat apply lxA (fun _ h _=>aj (h.cell r1) (aj (h.cell r5) (aj (h.cell o0) (aj (h.cell o1) (aj (h.cell o2) (h.cell o3))))))
 apply lex_new (p:=fun u W=>∃ g0,u = .pointer (some ⟨g0,0,none⟩)∧w.heap.size≤g0∧W.heap[g0]?=some (.cells #[.int .i64 0,.int .i64 0,.int .i64 0,.int .i64 0] 127 (0,0))) (fun _ _ _ ⟨g,hv,hg,h⟩ he=>⟨g,hv,hg,(he.block g (Array.getElem?_eq_some_iff.1 h).1).trans h⟩)
 ·rfl
 ·intro W hR hΦ
  refine⟨.pointer (some ⟨W.heap.size,0,none⟩),W.alloc (.cells #[.int .i64 0,.int .i64 0,.int .i64 0,.int .i64 0] 127),?_,Ext.alloc _ _,W.heap.size,rfl,hR.size,heap_alloc_new W _⟩;go_simp;first|done|rfl
 intro v2;simp only[pu];refine lex_nil ?_;intro W hR hΦ;obtain⟨g0,rfl,hg0,hblk⟩:=hΦ.1 rfl;simp only[dk];clear hΦ r0 r1 r2 r3 r4 r5 r6 o0 o1 o2 o3;have hRg:R≠g0:=by have:=hr.lt;omega
 have hbg:¬ F g0:=fun e=>by have:=hM.lt _ _ _ hg g0 e;omega
 have hr1:=hr.ext hR;have hg1:=hM.ext hg hR;have hp1:=hp.ext hR;have c1:Chg w W R F:=Chg.of_ext hR R F;obtain⟨r0,r1,r2,r3,r4,r5,r6⟩:=id hr1;have y0c:W.cell? ⟨g0,0,none⟩=some (.int .i64 0):=by rw[cell_of_row _ _ _ _ _ _ hblk];rfl
 have y1c:W.cell? ⟨g0,1,none⟩=some (.int .i64 0):=by rw[cell_of_row _ _ _ _ _ _ hblk];rfl
 have y2c:W.cell? ⟨g0,2,none⟩=some (.int .i64 0):=by rw[cell_of_row _ _ _ _ _ _ hblk];rfl
 have y3c:W.cell? ⟨g0,3,none⟩=some (.int .i64 0):=by rw[cell_of_row _ _ _ _ _ _ hblk];rfl
 have z0c:W.frozen? ⟨g0,0,none⟩=false:=by simp[World.frozen?,hblk]
 have z1c:W.frozen? ⟨g0,1,none⟩=false:=by simp[World.frozen?,hblk]
 have z2c:W.frozen? ⟨g0,2,none⟩=false:=by simp[World.frozen?,hblk]
 have z3c:W.frozen? ⟨g0,3,none⟩=false:=by simp[World.frozen?,hblk]
 go_wp2_with fail;generalize hV:World.setCell (World.setCell (World.setCell (World.setCell (World.setCell W _ _) _ _) _ _) _ _) _ _=V at *;have rV:Rn V R t (some ⟨ab,ao,none⟩) n c (.iface T (.pointer (some ⟨b,0,none⟩))) frame Pa pn pc (k+1):=by subst hV;exact((((hr1.setG hRg 0 _).setG hRg 1 _).setG hRg 2 _).setG hRg 3 _).at_ (k+1)
 have gV:rep V g d:=by subst hV;exact hM.set (hM.set (hM.set (hM.set (hM.set hg1 _ _ hbg) _ _ hbg) _ _ hbg) _ _ hbg) _ _ hne
 have cV:Chg w V R F:=by subst hV;exact((((c1.setNew hg0 _).setNew hg0 _).setNew hg0 _).setNew hg0 _).trans (Chg.setR _ R F 5 _)
 have v0:V.cell? ⟨g0,0,none⟩=some (.int .i64 10):=by subst hV;go_simp
 have v1:V.cell? ⟨g0,1,none⟩=some (.int .i64 x):=by subst hV;go_simp
 have v2:V.cell? ⟨g0,2,none⟩=some (.int .i64 y):=by subst hV;go_simp
 have v3:V.cell? ⟨g0,3,none⟩=some (.int .i64 z):=by subst hV;go_simp
 clear hV r0 r1 r2 r3 r4 r5 r6 y0c y1c y2c y3c z0c z1c z2c z3c hblk hr1 hg1 c1 hR hl;obtain⟨r0,r1,r2,r3,r4,r5,r6⟩:=id rV;apply wrA trivial;repeat apply lxA (fun _ h _=>aj (h.cell r2) (aj (h.cell v0) (aj (h.cell v1) (aj (h.cell v2) (h.cell v3)))))
 apply lex_callx
 ·rfl
 ·intro W'
  go_simp;exact⟨rfl,rfl⟩
 ·intro W' hR hΦ
  refine(hM.gc _ g d x (hM.ext gV hR) x0 x1).mono ?_;rintro e w' ⟨rfl,h9⟩;exact⟨rfl,h9⟩
 simp only[pu];repeat apply lxA (fun _ h _=>aj (h.cell r2) (aj (h.cell v0) (aj (h.cell v1) (aj (h.cell v2) (h.cell v3)))))
 refine lex_nil ?_;intro W1 hR1 hΦ;clear hΦ;have rW:=rV.ext hR1;have gW:=hM.ext gV hR1;have cW:=cV.trans (Chg.of_ext hR1 R F);have v2:=hR1.cell v2;obtain⟨r0,r1,r2,r3,r4,r5,r6⟩:=id rW;go_wp2_with fail;go_ret;exact⟨rfl,rW,⟨g,d,gW,hok,fun h=>⟨h,rfl⟩⟩,cW⟩
theorem one_keep(w:World)(R b T:Nat){F:Nat→Prop}{rep:World→List Int→Bool→Prop}{G S:FuncId}(t:List UInt8)(A:Option Addr)(n c:Nat)(l:List OpT)(frame:Int)(Pa:Option Addr)(pn pc k:Nat)(press:List UInt8)(g:List Int)
  (hM:MemI T b F rep G S) (hr:Rn w R t A n c (.iface T (.pointer (some ⟨b,0,none⟩))) frame Pa pn pc k) (hl:Ro w A n c l) (hp:Rb w Pa pn pc press) {d:Bool} (hg:rep w g d) (hok:okG g) (hne:¬ F R) (hk:k<l.length) (h64:l.length≤64) (ht:t.length≤1099511627776) {xc x y z:Int} (ho:l[k]=(xc,x,y,z)) (hx:xc=13) (x0:0≤x) (x1:x≤31) (y0:0≤y) (y1:y≤31) :
  Calls prog 112 #[.pointer (some ⟨R,0,none⟩)] w (OneOf w R F rep t A n c (.iface T (.pointer (some ⟨b,0,none⟩))) frame Pa pn pc (k+1) d (setN g (remN (getN g x):Nat) (getN g y)) true):=by
 obtain⟨ab,ao,rfl,o0,o1,o2,o3⟩:=hl.at_ hk;have hn:=hl.len;have hmx:=hl.max;unfold maxLen at hmx;rw[ho]at o0 o1 o2 o3;clear ho;dsimp only at o0 o1 o2 o3
 obtain⟨r0,r1,r2,r3,r4,r5,r6⟩:=id hr;subst hx;have hyk:=getN_ok hok x;have hlt:=remN_lt (getN g x);have hm:=hM.gm;have he:=hM.ge;have hms:=hM.sm;have hes:=hM.se;go_enter func112,ntmps112;go_wp2_with fail;apply wrN 12;simp only[tk];repeat apply lxA (fun _ h _=>aj (h.cell r1) (aj (h.cell r5) (aj (h.cell o0) (aj (h.cell o1) (aj (h.cell o2) (h.cell o3))))))
 apply lex_new (p:=fun u W=>∃ g0,u = .pointer (some ⟨g0,0,none⟩)∧w.heap.size≤g0∧W.heap[g0]?=some (.cells #[.int .i64 0,.int .i64 0,.int .i64 0,.int .i64 0] 127 (0,0))) (fun _ _ _ ⟨g,hv,hg,h⟩ he=>⟨g,hv,hg,(he.block g (Array.getElem?_eq_some_iff.1 h).1).trans h⟩)
 ·rfl
 ·intro W hR hΦ
  refine⟨.pointer (some ⟨W.heap.size,0,none⟩),W.alloc (.cells #[.int .i64 0,.int .i64 0,.int .i64 0,.int .i64 0] 127),?_,Ext.alloc _ _,W.heap.size,rfl,hR.size,heap_alloc_new W _⟩;go_simp;first|done|rfl
 intro v2;simp only[pu];refine lex_nil ?_;intro W hR hΦ;obtain⟨g0,rfl,hg0,hblk⟩:=hΦ.1 rfl;simp only[dk];clear hΦ r0 r1 r2 r3 r4 r5 r6 o0 o1 o2 o3;have hRg:R≠g0:=by have:=hr.lt;omega
 have hbg:¬ F g0:=fun e=>by have:=hM.lt _ _ _ hg g0 e;omega
 have hr1:=hr.ext hR;have hg1:=hM.ext hg hR;have hp1:=hp.ext hR;have c1:Chg w W R F:=Chg.of_ext hR R F;obtain⟨r0,r1,r2,r3,r4,r5,r6⟩:=id hr1;have y0c:W.cell? ⟨g0,0,none⟩=some (.int .i64 0):=by rw[cell_of_row _ _ _ _ _ _ hblk];rfl
 have y1c:W.cell? ⟨g0,1,none⟩=some (.int .i64 0):=by rw[cell_of_row _ _ _ _ _ _ hblk];rfl
 have y2c:W.cell? ⟨g0,2,none⟩=some (.int .i64 0):=by rw[cell_of_row _ _ _ _ _ _ hblk];rfl
 have y3c:W.cell? ⟨g0,3,none⟩=some (.int .i64 0):=by rw[cell_of_row _ _ _ _ _ _ hblk];rfl
 have z0c:W.frozen? ⟨g0,0,none⟩=false:=by simp[World.frozen?,hblk]
 have z1c:W.frozen? ⟨g0,1,none⟩=false:=by simp[World.frozen?,hblk]
 have z2c:W.frozen? ⟨g0,2,none⟩=false:=by simp[World.frozen?,hblk]
 have z3c:W.frozen? ⟨g0,3,none⟩=false:=by simp[World.frozen?,hblk]
 go_wp2_with fail;generalize hV:World.setCell (World.setCell (World.setCell (World.setCell (World.setCell W _ _) _ _) _ _) _ _) _ _=V at *;have rV:Rn V R t (some ⟨ab,ao,none⟩) n c (.iface T (.pointer (some ⟨b,0,none⟩))) frame Pa pn pc (k+1):=by subst hV;exact((((hr1.setG hRg 0 _).setG hRg 1 _).setG hRg 2 _).setG hRg 3 _).at_ (k+1)
 have gV:rep V g d:=by subst hV;exact hM.set (hM.set (hM.set (hM.set (hM.set hg1 _ _ hbg) _ _ hbg) _ _ hbg) _ _ hbg) _ _ hne
 have cV:Chg w V R F:=by subst hV;exact((((c1.setNew hg0 _).setNew hg0 _).setNew hg0 _).setNew hg0 _).trans (Chg.setR _ R F 5 _)
 have v0:V.cell? ⟨g0,0,none⟩=some (.int .i64 13):=by subst hV;go_simp
 have v1:V.cell? ⟨g0,1,none⟩=some (.int .i64 x):=by subst hV;go_simp
 have v2:V.cell? ⟨g0,2,none⟩=some (.int .i64 y):=by subst hV;go_simp
 have v3:V.cell? ⟨g0,3,none⟩=some (.int .i64 z):=by subst hV;go_simp
 clear hV r0 r1 r2 r3 r4 r5 r6 y0c y1c y2c y3c z0c z1c z2c z3c hblk hr1 hg1 c1 hR hl;obtain⟨r0,r1,r2,r3,r4,r5,r6⟩:=id rV;apply wrA trivial;repeat apply lxA (fun _ h _=>aj (h.cell r2) (aj (h.cell v0) (aj (h.cell v1) (aj (h.cell v2) (h.cell v3)))))
 apply lex_callx
 ·rfl
 ·intro W'
  go_simp;exact⟨rfl,rfl⟩
 ·intro W' hR hΦ
  refine(hM.gc _ g d x (hM.ext gV hR) x0 x1).mono ?_;rintro e w' ⟨rfl,h9⟩;exact⟨rfl,h9⟩
 simp only[pu];repeat apply lxA (fun _ h _=>aj (h.cell r2) (aj (h.cell v0) (aj (h.cell v1) (aj (h.cell v2) (h.cell v3)))))
 apply lex_callx
 ·rfl
 ·intro W'
  go_simp;exact⟨rfl,rfl⟩
 ·intro W' hR hΦ
  refine(mod_is _ _ hyk).mono ?_;rintro e w' ⟨rfl,rfl⟩;exact⟨rfl,Ext.refl _⟩
 simp only[pu];repeat apply lxA (fun _ h _=>aj (h.cell r2) (aj (h.cell v0) (aj (h.cell v1) (aj (h.cell v2) (h.cell v3)))))
 refine lex_nil ?_;intro W1 hR1 hΦ;clear hΦ;have rV:=rV.ext hR1;have gV:=hM.ext gV hR1;have cV:=cV.trans (Chg.of_ext hR1 R F);have v0:=hR1.cell v0;have v1:=hR1.cell v1;have v2:=hR1.cell v2;have v3:=hR1.cell v3;obtain⟨r0,r1,r2,r3,r4,r5,r6⟩:=id rV;go_wp2_with fail;apply wrN 14;simp only[tk];repeat apply lxA (fun _ h _=>aj (h.cell r2) (aj (h.cell v0) (aj (h.cell v1) (aj (h.cell v2) (h.cell v3)))))
 apply lex_callx
 ·rfl
 ·intro W'
  go_simp;exact⟨rfl,rfl⟩
 ·intro W' hR hΦ
  refine(hM.gc _ g d y (hM.ext gV hR) y0 y1).mono ?_;rintro e w' ⟨rfl,h9⟩;exact⟨rfl,h9⟩
 simp only[pu];repeat apply lxA (fun _ h _=>aj (h.cell r2) (aj (h.cell v0) (aj (h.cell v1) (aj (h.cell v2) (h.cell v3)))))
 refine lex_nil ?_;intro W2 hR2 hΦ;clear hΦ;simp only[dk];have rW:=rV.ext hR2;have gW:=hM.ext gV hR2;have cW:=cV.trans (Chg.of_ext hR2 R F);go_wp2_with fail;refine(hM.sc _ g d _ _ gW hok (getN_ok hok y) (by omega) (by omega)).mono ?_;rintro e w2 ⟨rfl,mW,hout⟩;have rW2:=rW.of_block (mW.block R rW.lt hne);go_wp2_with fail;go_ret;exact⟨rfl,rW2,hout,cW.trans (Chg.of_moved mW R)⟩
theorem one_set(w:World)(R b T:Nat){F:Nat→Prop}{rep:World→List Int→Bool→Prop}{G S:FuncId}(t:List UInt8)(A:Option Addr)(n c:Nat)(l:List OpT)(frame:Int)(Pa:Option Addr)(pn pc k:Nat)(press:List UInt8)(g:List Int)
  (hM:MemI T b F rep G S) (hr:Rn w R t A n c (.iface T (.pointer (some ⟨b,0,none⟩))) frame Pa pn pc k) (hl:Ro w A n c l) (hp:Rb w Pa pn pc press) {d:Bool} (hg:rep w g d) (hok:okG g) (hne:¬ F R) (hk:k<l.length) (h64:l.length≤64) (ht:t.length≤1099511627776) {xc x y z:Int} (ho:l[k]=(xc,x,y,z)) (hx:xc≠0∧xc≠9∧xc≠10∧xc≠13) (x0:0≤x) (x1:x≤31) (hval:∀ W,Rn W R t A n c (.iface T (.pointer (some ⟨b,0,none⟩))) frame Pa pn pc (k+1)→rep W g d→Rb W Pa pn pc press→Calls prog 153 #[.pointer (some ⟨R,0,none⟩),opAgg (xc,x,y,z)] W fun e w'=>e = .returned (.int .i32 (valN t press frame g (xc,x,y,z)))∧Ext W w') (hpk:∀ V,Chg w V R F→Rb V Pa pn pc press) :
  Calls prog 112 #[.pointer (some ⟨R,0,none⟩)] w (OneOf w R F rep t A n c (.iface T (.pointer (some ⟨b,0,none⟩))) frame Pa pn pc (k+1) d (setN g x (valN t press frame g (xc,x,y,z))) true):=by
 obtain⟨ab,ao,rfl,o0,o1,o2,o3⟩:=hl.at_ hk;have hn:=hl.len;have hmx:=hl.max;unfold maxLen at hmx;rw[ho]at o0 o1 o2 o3;clear ho;dsimp only at o0 o1 o2 o3
 obtain⟨r0,r1,r2,r3,r4,r5,r6⟩:=id hr;have n0:(xc==0)=false:=by rw[beq_eq_false_iff_ne];omega
 have n9:(xc==9)=false:=by rw[beq_eq_false_iff_ne];omega
 have n10:(xc==10)=false:=by rw[beq_eq_false_iff_ne];omega
 have n13:(xc==13)=false:=by rw[beq_eq_false_iff_ne];omega
 clear hx;unfold opAgg at hval;have Hval:=hqd hval;clear hval;have hvok:=valN_ok t press frame hok (xc,x,y,z);generalize valN t press frame g (xc,x,y,z)=v at *;have hm:=hM.gm;have he:=hM.ge;have hms:=hM.sm;have hes:=hM.se;go_enter func112,ntmps112;go_wp2_with fail;apply wrN 12;simp only[tk];repeat apply lxA (fun _ h _=>aj (h.cell r1) (aj (h.cell r5) (aj (h.cell o0) (aj (h.cell o1) (aj (h.cell o2) (h.cell o3))))))
 apply lex_new (p:=fun u W=>∃ g0,u = .pointer (some ⟨g0,0,none⟩)∧w.heap.size≤g0∧W.heap[g0]?=some (.cells #[.int .i64 0,.int .i64 0,.int .i64 0,.int .i64 0] 127 (0,0))) (fun _ _ _ ⟨g,hv,hg,h⟩ he=>⟨g,hv,hg,(he.block g (Array.getElem?_eq_some_iff.1 h).1).trans h⟩)
 ·rfl
 ·intro W hR hΦ
  refine⟨.pointer (some ⟨W.heap.size,0,none⟩),W.alloc (.cells #[.int .i64 0,.int .i64 0,.int .i64 0,.int .i64 0] 127),?_,Ext.alloc _ _,W.heap.size,rfl,hR.size,heap_alloc_new W _⟩;go_simp;first|done|rfl
 intro v2;simp only[pu];refine lex_nil ?_;intro W hR hΦ;obtain⟨g0,rfl,hg0,hblk⟩:=hΦ.1 rfl;simp only[dk];clear hΦ r0 r1 r2 r3 r4 r5 r6 o0 o1 o2 o3;have hRg:R≠g0:=by have:=hr.lt;omega
 have hbg:¬ F g0:=fun e=>by have:=hM.lt _ _ _ hg g0 e;omega
 have hr1:=hr.ext hR;have hg1:=hM.ext hg hR;have hp1:=hp.ext hR;have c1:Chg w W R F:=Chg.of_ext hR R F;obtain⟨r0,r1,r2,r3,r4,r5,r6⟩:=id hr1;have y0c:W.cell? ⟨g0,0,none⟩=some (.int .i64 0):=by rw[cell_of_row _ _ _ _ _ _ hblk];rfl
 have y1c:W.cell? ⟨g0,1,none⟩=some (.int .i64 0):=by rw[cell_of_row _ _ _ _ _ _ hblk];rfl
 have y2c:W.cell? ⟨g0,2,none⟩=some (.int .i64 0):=by rw[cell_of_row _ _ _ _ _ _ hblk];rfl
 have y3c:W.cell? ⟨g0,3,none⟩=some (.int .i64 0):=by rw[cell_of_row _ _ _ _ _ _ hblk];rfl
 have z0c:W.frozen? ⟨g0,0,none⟩=false:=by simp[World.frozen?,hblk]
 have z1c:W.frozen? ⟨g0,1,none⟩=false:=by simp[World.frozen?,hblk]
 have z2c:W.frozen? ⟨g0,2,none⟩=false:=by simp[World.frozen?,hblk]
 have z3c:W.frozen? ⟨g0,3,none⟩=false:=by simp[World.frozen?,hblk]
 go_wp2_with fail;generalize hV:World.setCell (World.setCell (World.setCell (World.setCell (World.setCell W _ _) _ _) _ _) _ _) _ _=V at *;have rV:Rn V R t (some ⟨ab,ao,none⟩) n c (.iface T (.pointer (some ⟨b,0,none⟩))) frame Pa pn pc (k+1):=by subst hV;exact((((hr1.setG hRg 0 _).setG hRg 1 _).setG hRg 2 _).setG hRg 3 _).at_ (k+1)
 have gV:rep V g d:=by subst hV;exact hM.set (hM.set (hM.set (hM.set (hM.set hg1 _ _ hbg) _ _ hbg) _ _ hbg) _ _ hbg) _ _ hne
 have cV:Chg w V R F:=by subst hV;exact((((c1.setNew hg0 _).setNew hg0 _).setNew hg0 _).setNew hg0 _).trans (Chg.setR _ R F 5 _)
 have pV:Rb V Pa pn pc press:=hpk V cV;have v0:V.cell? ⟨g0,0,none⟩=some (.int .i64 xc):=by subst hV;go_simp
 have v1:V.cell? ⟨g0,1,none⟩=some (.int .i64 x):=by subst hV;go_simp
 have v2:V.cell? ⟨g0,2,none⟩=some (.int .i64 y):=by subst hV;go_simp
 have v3:V.cell? ⟨g0,3,none⟩=some (.int .i64 z):=by subst hV;go_simp
 clear hV r0 r1 r2 r3 r4 r5 r6 y0c y1c y2c y3c z0c z1c z2c z3c hblk hr1 hg1 c1 hR hl;obtain⟨r0,r1,r2,r3,r4,r5,r6⟩:=id rV;apply wrN 11;simp only[tk];repeat apply lxA (fun _ h _=>aj (h.cell r2) (aj (h.cell v0) (aj (h.cell v1) (aj (h.cell v2) (h.cell v3)))))
 apply lex_callx
 ·rfl
 ·intro W'
  go_simp;exact⟨rfl,rfl⟩
 ·intro W' hR hΦ
  refine(Hval.out _ (rV.ext hR) (hM.ext gV hR) (pV.ext hR)).mono ?_;rintro e w' ⟨rfl,h9⟩;exact⟨rfl,h9⟩
 simp only[pu];repeat apply lxA (fun _ h _=>aj (h.cell r2) (aj (h.cell v0) (aj (h.cell v1) (aj (h.cell v2) (h.cell v3)))))
 refine lex_nil ?_;intro W1 hR1 hΦ;clear hΦ;simp only[dk];have rW:=rV.ext hR1;have gW:=hM.ext gV hR1;have cW:=cV.trans (Chg.of_ext hR1 R F);go_wp2_with fail;refine(hM.sc _ g d _ _ gW hok hvok x0 x1).mono ?_;rintro e w2 ⟨rfl,mW,hout⟩;have rW2:=rW.of_block (mW.block R rW.lt hne);go_wp2_with fail;go_ret;exact⟨rfl,rW2,hout,cW.trans (Chg.of_moved mW R)⟩
theorem Rd.chg{w0 w V:World}{size:Nat}{A:Option Addr}{n c:Nat}{xs:List Value}{R:Nat}{F:Nat→Prop}(h:Rd w0 size A n c xs)(e0:Ext w0 w)(hR:w0.heap.size≤R)(hb:0<n→∀ a,A=some a→¬ F a.block)(cV:Chg w V R F):Rd V size A n c xs:=by
 refine⟨h.1,h.2.1,h.2.2.1,fun hn=>?_⟩;obtain⟨bl,o,e,hc⟩:=h.2.2.2 hn;have hlt:=h.lt hn _ e;have hne:=hb (Nat.pos_of_ne_zero fun h0=>by subst h0;simp at hn) _ e
 dsimp only at hlt hne
 refine⟨bl,o,e,fun j u hu=>?_⟩;rw[World.cell?_of_block (a:=⟨bl,o+j,none⟩) (cV.block bl (Nat.lt_of_lt_of_le hlt e0.size) (by omega) hne)];exact e0.cell (hc j u hu)
theorem value_any(w:World)(R b T:Nat){F:Nat→Prop}{rep:World→List Int→Bool→Prop}{G S:FuncId}(t:List UInt8)(A:Option Addr)(n c:Nat)(frame:Int)(Pa:Option Addr)(pn pc k:Nat)(press:List UInt8)(g:List Int)
  (hM:MemI T b F rep G S) (hr:Rn w R t A n c (.iface T (.pointer (some ⟨b,0,none⟩))) frame Pa pn pc k) {d:Bool} (hg:rep w g d) (hp:Rb w Pa pn pc press) (hok:okG g) (ht:t.length≤1099511627776) (xc x y z:Int) {m:Nat} (hm:mayL (xc,x,y,z) m=true) (h0:xc≠0∧xc≠9∧xc≠10∧xc≠13) :
  Calls prog 153 #[.pointer (some ⟨R,0,none⟩),opAgg (xc,x,y,z)] w fun e w'=>e = .returned (.int .i32 (valN t press frame g (xc,x,y,z)))∧Ext w w':=by
 have hw:=may_ways hm;dsimp only at hw
 rcases hw with h|⟨h,_⟩|⟨h,_⟩|⟨h,_⟩|⟨h,_⟩|⟨h,_,_,h3,h4⟩|⟨h,_,_,h3,h4,h5,h6⟩
 ·exact absurd h h0.1
 ·exact absurd h h0.2.1
 ·exact absurd h h0.2.2.1
 ·subst h;exact value_set w R b T t A n c frame Pa pn pc k press g hM hr hg x y z
 ·subst h;exact value_time w R b T t A n c frame Pa pn pc k press g hM hr hg x y z
 ·have hc:xc=2∨xc=11∨xc=12∨xc=14:=by omega
  rcases hc with h|h|h|h
  ·subst h;exact value_mov w R b T t A n c frame Pa pn pc k press g hM hr hg hok x y z h3 h4
  ·subst h;exact value_in w R b T t A n c frame Pa pn pc k press g hM hr hg hok x y z h3 h4 hp
  ·subst h;exact value_load w R b T t A n c frame Pa pn pc k press g hM hr hg hok x y z h3 h4
  ·subst h;exact value_rune w R b T t A n c frame Pa pn pc k press g hM hr hg hok x y z h3 h4 ht
 ·exact value_sum w R b T t A n c frame Pa pn pc k press g hM hr hg xc x y z h3 h4 h5 h6 h.1 h.2
theorem one_any(w:World)(R b T:Nat){F:Nat→Prop}{rep:World→List Int→Bool→Prop}{G S:FuncId}(t:List UInt8)(A:Option Addr)(n c:Nat)(l:List OpT)(frame:Int)(Pa:Option Addr)(pn pc k:Nat)(press:List UInt8)(g:List Int)
  (hM:MemI T b F rep G S) (hr:Rn w R t A n c (.iface T (.pointer (some ⟨b,0,none⟩))) frame Pa pn pc k) (hl:Ro w A n c l) (hpk:∀ V,Chg w V R F→Rb V Pa pn pc press) {d:Bool} (hg:rep w g d) (hok:okG g) (hne:¬ F R) (hk:k<l.length) (h64:l.length≤64) (ht:t.length≤1099511627776) (hmay:mayL l[k] l.length=true) (h0:l[k].1≠0)
  {k':Nat} (hk':(oneN t press frame g k l[k]).2=k') {g':List Int} (hg':(oneN t press frame g k l[k]).1=g') :
  Calls prog 112 #[.pointer (some ⟨R,0,none⟩)] w (OneOf w R F rep t A n c (.iface T (.pointer (some ⟨b,0,none⟩))) frame Pa pn pc k' d g' true):=by
 obtain⟨xc,x,y,z,ho⟩:∃ xc x y z,l[k]=(xc,x,y,z):=⟨_,_,_,_,rfl⟩;rw[ho]at hmay h0 hk' hg';have hp:=hpk w (Chg.refl _ _ _);have hw:=may_ways hmay;dsimp only at hw h0
 by_cases h9:xc=9
 ·subst h9
  obtain⟨X,rfl⟩:=Int.eq_ofNat_of_zero_le (show 0≤x by omega);obtain rfl:X=k':=by rw[← hk'];simp[oneN]
  obtain rfl:g=g':=by rw[← hg'];simp[oneN]
  exact one_jump w R b T t A n c l frame Pa pn pc k press g hM hr hl hp hg hok hne hk h64 ht ho rfl rfl
 by_cases h10:xc=10
 ·subst h10
  obtain⟨Y,rfl⟩:=Int.eq_ofNat_of_zero_le (show 0≤y by omega);obtain rfl:g=g':=by rw[← hg'];simp[oneN]
  by_cases hz:getN g x=0
  ·obtain rfl:Y=k':=by rw[← hk'];simp[oneN,hz]
   exact one_zero w R b T t A n c l frame Pa pn pc k press g hM hr hl hp hg hok hne hk h64 ht ho rfl (by omega) (by omega) rfl hz
  ·obtain rfl:k+1=k':=by rw[← hk'];simp[oneN,hz]
   exact one_zerono w R b T t A n c l frame Pa pn pc k press g hM hr hl hp hg hok hne hk h64 ht ho rfl (by omega) (by omega) hz
 by_cases h13:xc=13
 ·subst h13
  obtain rfl:k+1=k':=by rw[← hk'];simp[oneN]
  obtain rfl:setN g (remN (getN g x):Nat) (getN g y)=g':=by rw[← hg'];simp[oneN]
  exact one_keep w R b T t A n c l frame Pa pn pc k press g hM hr hl hp hg hok hne hk h64 ht ho rfl (by omega) (by omega) (by omega) (by omega)
 ·obtain rfl:k+1=k':=by rw[← hk'];simp[oneN,h9,h10,h13]
  obtain rfl:setN g x (valN t press frame g (xc,x,y,z))=g':=by rw[← hg'];simp[oneN,h9,h10,h13]
  exact one_set w R b T t A n c l frame Pa pn pc k press g hM hr hl hp hg hok hne hk h64 ht ho ⟨h0,h9,h10,h13⟩ (by omega) (by omega) (fun W hr' hg' hp'=>value_any W R b T t A n c frame Pa pn pc (k+1) press g hM hr' hg' hp' hok ht xc x y z hmay ⟨h0,h9,h10,h13⟩) hpk
def RunOf(w:World)(F:Nat→Prop)(rep:World→List Int→Bool→Prop)(d:Bool)(X:List Int)(e:Ending)(w':World):Prop :=
 (∃ n:Int,e = .returned (.int .i64 n))∧(∃ g' d',rep w' g' d'∧okG g'∧(d'=false→d=false∧g'=X))∧Moved F w w'
theorem Moved.of_chg{w w1 w':World}{R:Nat}{F:Nat→Prop}(e:Ext w w1)(h:Chg w1 w' R F)(hR:w.heap.size≤R):Moved F w w' :=
 ⟨h.os.trans e.os,h.tape.trans e.tape,h.output.trans e.output,Nat.le_trans e.size h.size,fun k hk hn=>(h.block k (Nat.lt_of_lt_of_le hk e.size) (by omega) hn).trans (e.block k hk)⟩
def runRel(t press:List UInt8)(frame:Int)(l:List OpT)(w1:World)(R:Nat)(F:Nat→Prop)(rep:World→List Int→Bool→Prop)(A:Option Addr)(n c:Nat)(M:Value)(Pa:Option Addr)(pn pc:Nat)(d0:Bool)(G':List Int)(nv:Value)(wr:World):Prop :=
 ∃(i k:Nat) (g:List Int) (d:Bool),nv = .int .i64 (i:Nat)∧i≤200∧k≤l.length∧Rn wr R t A n c M frame Pa pn pc k∧rep wr g d∧okG g∧Chg w1 wr R F∧(d=false→d0=false∧(runN t press frame l (200-i) k g).1=G')
theorem run_no(w:World)(b T:Nat)(t:List UInt8)(A:Option Addr)(n c:Nat)(l:List OpT)(frame:Int)(Pa:Option Addr)(pn pc:Nat)
  (ht:t.length≤1099511627776) (hl:Ro w A n c l) (hf:faultL t l≠-1) :
  Calls prog 78 #[pAgg t A n c,.iface T (.pointer (some ⟨b,0,none⟩)),.int .i64 frame,.slice Pa pn pc] w fun e w'=>e = .returned (.int .i64 0)∧Ext w w':=by
 have hmay:=fun W h=>may_is W t A n c l ht h (b:=false) (by rw[beq_eq_false_iff_ne];exact hf);unfold pAgg at *;have Hmay:=hqd hmay;clear hmay hf;go_enter func78,ntmps78;go_wp2_with fail;refine(Hmay.out _ (hl.ext (Ext.alloc _ _))).mono ?_;rintro e w1 ⟨rfl,e1⟩;go_wp2_with fail;go_ret;exact⟨rfl,(Ext.alloc _ _).trans e1⟩
theorem run_yes(w:World)(b T:Nat){F:Nat→Prop}{rep:World→List Int→Bool→Prop}{G S:FuncId}(t:List UInt8)(A:Option Addr)(n c:Nat)(l:List OpT)(frame:Int)(Pa:Option Addr)(pn pc:Nat)(press:List UInt8)(g:List Int)
  (hM:MemI T b F rep G S) (ht:t.length≤1099511627776) (hl:Ro w A n c l) (hp:Rb w Pa pn pc press) {d:Bool} (hg:rep w g d) (hok:okG g) (hA:0<n→∀ a,A=some a→¬ F a.block) (hP:0<pn→∀ a,Pa=some a→¬ F a.block) (hf:faultL t l = -1) :
  Calls prog 78 #[pAgg t A n c,.iface T (.pointer (some ⟨b,0,none⟩)),.int .i64 frame,.slice Pa pn pc] w (RunOf w F rep d (runN t press frame l 200 0 g).1):=by
 have hmay:=fun W h=>may_is W t A n c l ht h (b:=true) (by rw[hf];rfl);obtain⟨hl1,hl64,_⟩:=form_len (fault_form hf);have hall:=fault_all hf;have hn:=hl.len;have hmx:=hl.max;unfold maxLen at hmx;unfold pAgg at *;have Hmay:=hqd hmay;have Hall:=hqd hall;have Hn:=hqd hn;clear hmay hf hall hn;obtain⟨G',hG'⟩:∃ x,(runN t press frame l 200 0 g).1=x:=⟨_,rfl⟩;rw[hG'];have HG:=hqd hG';clear hG';go_enter func78,ntmps78;go_wp2_with fail;refine(Hmay.out _ (hl.ext (Ext.alloc _ _))).mono ?_;rintro e w1 ⟨rfl,e1⟩;have x1:=(Ext.alloc w _).trans e1;have c0:=e1.cell (show(w.alloc (.cells #[.string (bs t),.slice A n c] 65)).cell? ⟨w.heap.size,0,none⟩=some (.string (bs t)) by go_simp);have c1:=e1.cell (show(w.alloc (.cells #[.string (bs t),.slice A n c] 65)).cell? ⟨w.heap.size,1,none⟩=some (.slice A n c) by go_simp);clear e1;go_wp2_with fail;generalize hV:World.alloc w1 _=V;have rV:Rn V w1.heap.size t A n c (.iface T (.pointer (some ⟨b,0,none⟩))) frame Pa pn pc 0:=by
  subst hV;refine⟨?_,?_,?_,?_,?_,?_,?_⟩<;>go_simp
 have eV:Ext w1 V:=by subst hV;exact Ext.alloc _ _
 have xV:=x1.trans eV;have d0:=eV.cell c0;have d1:=eV.cell c1;have hwR:w.heap.size≤w1.heap.size:=x1.size;have hw1:w.heap.size<w1.heap.size:=World.block_lt_of_cell? w1 _ c0;have hne:¬ F w1.heap.size:=fun e=>by have:=hM.lt _ _ _ hg _ e;omega
 clear hV c0 c1 eV x1;generalize w1.heap.size=R at *;go_loopw [10] (fun nv wr=>runRel t press frame l V R F rep A n c (.iface T (.pointer (some ⟨b,0,none⟩))) Pa pn pc d G' nv wr) (fun nv _=>200-(intOf nv).toNat)
 case atStart=>exact⟨0,0,g,d,rfl,by omega,by omega,rV,hM.ext hg xV,hok,Chg.refl _ _ _,fun h=>⟨h,HG.out⟩⟩
 case round =>
  obtain⟨i,k,gc,dc,rfl,hi,hk,hr,hgc,hokc,hch,hG⟩:=hrel;have HG2:=hqd hG;clear hG;have q1:wr.cell? ⟨w.heap.size,1,none⟩=some (.slice A n c):=by
   rw[World.cell?_of_block (a:=⟨w.heap.size,1,none⟩) (hch.block w.heap.size (World.block_lt_of_cell? V _ d1) (by omega) (fun e=>by have:=hM.lt _ _ _ hg _ e;omega))];exact d1
  obtain⟨r0,r1,r2,r3,r4,r5,r6⟩:=id hr;by_cases hi2:i<200
  ·have hid:decide ((i:Int)<200)=true:=decide_eq_true (by omega)
   by_cases hkn:k<n
   ·have hj:0<200-i:=by omega
    have hkd:decide (k<n)=true:=decide_eq_true hkn;go_wp2_with fail;apply wrA trivial;repeat first|apply lxA (fun _ h _=>aj (h.cell q1) (h.cell r5))|apply lxK trivial
    refine lex_nil ?_;intro W1 hR1 hΦ;clear hΦ;have hrW:=hr.ext hR1;have hgW:=hM.ext hgc hR1;have cW:=hch.trans (Chg.of_ext hR1 R F);have lW:Ro W1 A n c l:=Rd.chg hl xV hwR hA cW;have pW:∀ X,Chg W1 X R F→Rb X Pa pn pc press:=fun X hX=>Rd.chg hp xV hwR hP (cW.trans hX);have hkl:k<l.length:=by have:=Hn.out;omega
    have hmay:=Hall.out _ (List.getElem_mem hkl);clear r0 r1 r2 r3 r4 r5 r6;obtain⟨f,hf⟩:∃ f,200-i=f+1:=⟨199-i,by omega⟩;by_cases h0:l[k].1=0
    ·have hfin:(runN t press frame l (200-i) k gc)=(gc,1):=by rw[hf];exact runN_halt t press frame l f k gc hkl h0
     have hone:=one_halt W1 R b T t A n c l frame Pa pn pc k press gc hM hrW lW (pW _ (Chg.refl _ _ _)) hgW hokc hne hkl hl64 ht (xc:=l[k].1) (x:=l[k].2.1) (y:=l[k].2.2.1) (z:=l[k].2.2.2) rfl h0;have Hone:=hqd hone;have Hfin:=hqd hfin;clear hone hfin h0 hf hmay pW lW;go_wp2_with fail;refine Calls.mono Hone.out ?_;rintro e w2 ⟨rfl,hr2,hg2,hc2⟩;have hG:=HG2.out;rw[Hfin.out]at hG;have HG3:=hqd hG;clear hG;clear hi hk hi2 hkn hj hkl hid hkd;go_wp2_with fail;go_ret;obtain⟨g9,d9,rep9,ok9,h9⟩:=hg2;exact⟨⟨_,rfl⟩,⟨g9,d9,rep9,ok9,fun h=>by obtain⟨h1,h2⟩:=h9 h;obtain⟨h3,h4⟩:=HG3.out h1;exact⟨h3,h2.trans h4⟩⟩,Moved.of_chg xV (cW.trans hc2) hwR⟩
    ·have hgo:=runN_go t press frame l f k gc hkl h0
     rw[← hf]at hgo;obtain⟨k',hk'⟩:∃ x,(oneN t press frame gc k l[k]).2=x:=⟨_,rfl⟩;obtain⟨g',hg'⟩:∃ x,(oneN t press frame gc k l[k]).1=x:=⟨_,rfl⟩;have hok':okG g':=hg'▸oneN_ok t press frame hokc k l[k];have hk2:k'≤l.length:=hk'▸oneN_at hmay hkl;rw[hk',hg']at hgo;have hone:=one_any W1 R b T t A n c l frame Pa pn pc k press gc hM hrW lW pW hgW hokc hne hkl hl64 ht hmay h0 hk' hg';have Hone:=hqd hone;have Hgo:=hqd hgo;have Hf:=hqd hf;clear hone hgo h0 hf hmay pW lW hk' hg';go_wp2_with fail;refine Calls.mono Hone.out ?_;rintro e w2 ⟨rfl,hr2,hg2,hc2⟩;obtain⟨g9,d9,rep9,ok9,h9⟩:=hg2;have H9:=hqd h9;clear h9;go_wp2_with fail;have hG:=HG2.out;rw[Hgo.out]at hG;dsimp only at hG
     have hfi:200-(i+1)=f:=by have:=Hf.out;omega
     go_roundw
     case rel=>exact⟨i+1,k',g9,d9,by go_num,by omega,hk2,hr2,rep9,ok9,cW.trans hc2,fun h=>by obtain⟨h1,h2⟩:=H9.out h;rw[hfi,h2];exact hG h1⟩
     case measure=>simp[intOf];omega
   ·have hkd:decide (k<n)=false:=decide_eq_false hkn
    have hfin:(runN t press frame l (200-i) k gc)=(gc,0):=runN_end t press frame l _ k gc (by have:=Hn.out;omega);have hG:=HG2.out;rw[hfin]at hG;have HG3:=hqd hG;clear hG hfin;go_wp2_with fail;apply wrA trivial;repeat first|apply lxA (fun _ h _=>aj (h.cell q1) (h.cell r5))|apply lxK trivial
    refine lex_nil ?_;intro W1 hR1 hΦ;clear hΦ;go_wp2_with fail;go_ret;exact⟨⟨_,rfl⟩,⟨gc,dc,hM.ext hgc hR1,hokc,HG3.out⟩,Moved.of_chg xV (hch.trans (Chg.of_ext hR1 R F)) hwR⟩
  ·obtain rfl:i=200:=by omega
   have hG:=HG2.out;rw[Nat.sub_self,runN_zero]at hG;have HG3:=hqd hG;clear hG;go_wp2_with fail;apply wrA trivial;repeat first|apply lxA (fun _ h _=>aj (h.cell q1) (h.cell r5))|apply lxK trivial
   refine lex_nil ?_;intro W1 hR1 hΦ;clear hΦ;go_wp2_with fail;go_ret;exact⟨⟨_,rfl⟩,⟨gc,dc,hM.ext hgc hR1,hokc,HG3.out⟩,Moved.of_chg xV (hch.trans (Chg.of_ext hR1 R F)) hwR⟩
theorem run_any(w:World)(b T:Nat){F:Nat→Prop}{rep:World→List Int→Bool→Prop}{G S:FuncId}(t:List UInt8)(A:Option Addr)(n c:Nat)(l:List OpT)(frame:Int)(Pa:Option Addr)(pn pc:Nat)(press:List UInt8)(g:List Int)
  (hM:MemI T b F rep G S) (ht:t.length≤1099511627776) (hl:Ro w A n c l) (hp:Rb w Pa pn pc press) {d:Bool} (hg:rep w g d) (hok:okG g) (hA:0<n→∀ a,A=some a→¬ F a.block) (hP:0<pn→∀ a,Pa=some a→¬ F a.block)
  {G':List Int} (hG:(stepN t press frame l g).1=G') :
  Calls prog 78 #[pAgg t A n c,.iface T (.pointer (some ⟨b,0,none⟩)),.int .i64 frame,.slice Pa pn pc] w (RunOf w F rep d G'):=by
 subst hG;by_cases hf:faultL t l = -1
 ·have e:stepN t press frame l g=runN t press frame l 200 0 g:=if_pos hf
  rw[e];exact run_yes w b T t A n c l frame Pa pn pc press g hM ht hl hp hg hok hA hP hf
 ·have e:stepN t press frame l g=(g,0):=if_neg hf
  rw[e];exact(run_no w b T t A n c l frame Pa pn pc ht hl hf).mono fun _ _ ⟨h1,h2⟩=>⟨⟨0,h1⟩,⟨g,d,hM.ext hg h2,hok,fun h=>⟨h,rfl⟩⟩,Moved.of_ext F h2⟩
def gcs(g:List Int):Array Value:=(g.map (Value.int .i32)).toArray
theorem gcs_size(g:List Int):(gcs g).size=g.length:=by simp[gcs]
theorem gcs_at{g:List Int}{j:Nat}(h:j<g.length):(gcs g)[j]?=some (.int .i32 (g.getD j 0)):=by
 simp[gcs,List.getD,h]
theorem gcs_one(g:List Int):(gcs g).all (·.oneCell')=true:=by
 rw[Array.all_eq_true_iff_forall_mem];intro v hv;simp only[gcs,List.mem_toArray,List.mem_map]at hv;obtain⟨x,_,rfl⟩:=hv;rfl
def zeroG:List Int:=List.replicate 32 0
theorem zeroG_ok:okG zeroG:=by
 refine⟨rfl,fun x hx=>?_⟩;rw[List.eq_of_mem_replicate hx];simp[ok32]
section
variable {P:Program} {w w':World} {b:Nat} {g:List Int}
def Blk(w:World)(b:Nat)(T:TypeId)(g:List Int):Prop:=w.heap[b]?=some (.cells (gcs g) T (0,0))∧g.length=32
theorem Blk.gm{T:TypeId}(h:Blk w b T g):Gm w b g:=by
 refine⟨h.2,fun j hj=>⟨?_,by simp[World.frozen?,h.1]⟩⟩;rw[cell_of_row _ _ _ _ _ _ h.1];exact gcs_at (by rw[h.2];exact hj)
theorem Blk.ext{T:TypeId}(h:Blk w b T g)(e:Ext w w'):Blk w' b T g:=⟨(e.block b (Array.getElem?_eq_some_iff.1 h.1).1).trans h.1,h.2⟩
theorem Blk.new(w:World)(T:TypeId){g:List Int}(hg:g.length=32):Blk (w.alloc (.cells (gcs g) T)) w.heap.size T g:=⟨heap_alloc_new w _,hg⟩
theorem Blk.new'(w:World)(T:TypeId){g:List Int}(hg:g.length=32){b:Nat}(hb:b=w.heap.size):Blk (w.alloc (.cells (gcs g) T)) b T g:=hb▸Blk.new w T hg
theorem Blk.of_block{T:TypeId}(h:Blk w b T g)(e:w'.heap[b]?=w.heap[b]?):Blk w' b T g:=⟨e.trans h.1,h.2⟩
theorem Blk.grown{T:TypeId}(h:Blk w b T g){row:Option Nat}(hg:w.grownBy w' row)(hne:row≠some b):Blk w' b T g:=h.of_block (hg.block b (Array.getElem?_eq_some_iff.1 h.1).1 (fun e=>hne e.symm))
theorem Blk.lt{T:TypeId}(h:Blk w b T g):b<w.heap.size:=(Array.getElem?_eq_some_iff.1 h.1).1
theorem Blk.setRow{T:TypeId}(h:Blk w b T g){g':List Int}(hg:g'.length=32):Blk (w.setRow b (gcs g')) b T g':=⟨setRow_heap w b _ _ _ _ h.1,hg⟩
theorem Ext.setRow{a:World}(h:Ext w a){c:Nat}(hc:w.heap.size≤c)(cs:Array Value):Ext w (a.setRow c cs) :=
 ⟨h.os,h.tape,h.output,by simp;exact h.size,fun k hk=>(Go.setRow_other a c k cs (by omega)).trans (h.block k hk)⟩
theorem gm_load{ty e:TypeId}(hu:P.underlying ty=some (.array 32 e))(hi:(P.info? ty).map (·.size)=some 32)(h:Gm w b g):(loadVar ty ⟨b,0,none⟩).run P w = .ok (.agg (gcs g)) w:=by
 have hl:(loadCells ⟨b,0,none⟩ (g.map (Value.int .i32)).length).run P w = .ok (g.map (Value.int .i32)).toArray w :=
  run_loadCells_list (P:=P) w ⟨b,0,none⟩ _ (fun j v hv=>by
   rw[Addr.add_lit,Nat.zero_add];have hj:j<g.length:=by simpa using (List.getElem?_eq_some_iff.1 hv).1
   have h2:=gcs_at hj;simp only[gcs,List.getElem?_toArray]at h2;rw[hv]at h2;rw[(h.2 j (by rw[← h.1];exact hj)).1,← h2])
 cases hq:P.info? ty with
 | none=>simp[hq]at hi
 | some i =>
  have hs:i.size=32:=by simpa [hq] using hi
  have hagg:(isAgg ty).run P w = .ok true w:=by
   unfold isAgg;rw[Sem.run_bind,run_underlying hu w];simp
  rw[List.length_map,h.1]at hl;simp[loadVar,Sem.run_bind,hagg,sizeOf,typeInfo,hq,hs,hl,gcs]
theorem wpList_load_gm{ops:Array Oper}{rest:List Oper}{o:Oper}{a:Act}{Q:Exit→Act→World→Prop}(hgd:o.guard=none)(ty:TypeId)(x:Operand)(ho:o.op = .load ty x)
  (hx:a.eval x = .pointer (some ⟨b,0,none⟩)) {e:TypeId} (hu:P.underlying ty=some (.array 32 e)) (hi:(P.info? ty).map (·.size)=some 32) (h:Gm w b g)
  (hk:wpList P ops Q rest (a.put o.dst (.agg (gcs g))) w):wpList P ops Q (o::rest) a w:=by
 refine wpList_plain hgd fun K hK=>?_;unfold Oper.wp execOp;simp only[ho,hx,Instr.loadAt,Instr.sureAddr,Sem.run_bind,Sem.run_pure,Result.andThen_ok,gm_load hu hi h];exact hK _ _ hk
theorem wpList_store_blk{ops:Array Oper}{rest:List Oper}{o:Oper}{a:Act}{Q:Exit→Act→World→Prop}(hgd:o.guard=none)(ty:TypeId)(x y:Operand)(ho:o.op = .store ty x y)
  (hx:a.eval x = .pointer (some ⟨b,0,none⟩)) {g':List Int} (hy:a.eval y = .agg (gcs g')) {T:TypeId} (h:Blk w b T g) (hg:g'.length=32) (hi:(P.info? ty).map (·.size)=some 32)
  (hk:wpList P ops Q rest (a.put o.dst undef) (w.setRow b (gcs g'))):wpList P ops Q (o::rest) a w :=
 wpList_store_row hgd ty x y ho b (gcs g') hx hy T (gcs g) h.1 (by rw[hi,gcs_size,hg]) (by rw[gcs_size,gcs_size,hg,h.2]) (gcs_one _) hk
theorem wpList_put_game{ops:Array Oper}{rest:List Oper}{o:Oper}{a:Act}{Q:Exit→Act→World→Prop}(hgd:o.guard=none)(ty:TypeId)(x y:Operand)(ho:o.op = .store ty x y)
  (hx:a.eval x = .pointer (some ⟨b,0,none⟩)) {g':List Int} (hy:a.eval y = .agg (gcs g')) {T:TypeId} (h:Blk w b T g) (hg:g'.length=32) (hi:(P.info? ty).map (·.size)=some 32)
  (hk:∀ W2,Blk W2 b T g'→(∀ w0:World,Ext w0 w→w0.heap.size≤b→Ext w0 W2)→w.grownBy W2 (some b)→W2.heap.size=w.heap.size→wpList P ops Q rest (a.put o.dst undef) W2):wpList P ops Q (o::rest) a w :=
 wpList_store_blk hgd ty x y ho hx hy h hg hi (hk _ (h.setRow hg) (fun w0 e hb=>e.setRow hb _) ⟨rfl,rfl,rfl,by simp,fun k _ hk=>Go.setRow_other w b k _ (fun e=>hk (by rw[e]))⟩ (by simp))
theorem result_gm{fn:Func}{p:Tmp}{ty e:TypeId}(h:fn.results = #[.cell p ty])(tmps:Array Value)(hp:tmps.getD p undef = .pointer (some ⟨b,0,none⟩))(hg:Gm w b g)(hu:P.underlying ty=some (.array 32 e))(hi:(P.info? ty).map (·.size)=some 32) :
  (results fn tmps).run P w = .ok (.agg (gcs g)) w:=by
 have hp':tmps[p]?.getD undef = .pointer (some ⟨b,0,none⟩):=by simpa using hp
 simp[results,h,hp',asAddr,gm_load hu hi hg]
end
theorem foldSet_at:∀(xs:List Value) (k:Nat) (z:Array Value) (j:Nat),k+xs.length≤z.size→((xs.zipIdx k).foldl (fun cs (x:Value×Nat)=>cs.setIfInBounds x.2 x.1) z)[j]?=if k≤j∧j<k+xs.length then xs[j-k]? else z[j]?
 | [],k,z,j,_=>by rw[if_neg (by simp only[List.length_nil];omega)];rfl
 | x::xs,k,z,j,h=>by
  rw[List.zipIdx_cons,List.foldl_cons,foldSet_at xs (k+1) _ j (by simp at h ⊢;omega)];simp only[List.length_cons]at h ⊢;by_cases h1:k+1≤j∧j<k+1+xs.length
  ·rw[if_pos h1,if_pos (by omega),show j-k=(j-(k+1))+1 by omega,List.getElem?_cons_succ]
  ·rw[if_neg h1,Array.getElem?_setIfInBounds]
   by_cases h2:k=j
   ·subst h2
    rw[if_pos rfl,if_pos (by omega),if_pos (by omega),Nat.sub_self];rfl
   ·rw[if_neg h2,if_neg (by omega)]
theorem foldSet(g:List Int)(hg:g.length=32)(z:Array Value)(hz:32≤z.size) :
  Array.foldl (fun(cs:Array Value) (x:Value×Nat)=>cs.setIfInBounds x.snd x.fst) z (gcs g).zipIdx 0 32=gcs g++(z.toList.drop 32).toArray:=by
 have e:(gcs g).zipIdx.size=32:=by simp[gcs,hg]
 have hf:Array.foldl (fun(cs:Array Value) (x:Value×Nat)=>cs.setIfInBounds x.snd x.fst) z (gcs g).zipIdx 0 32=Array.foldl (fun(cs:Array Value) (x:Value×Nat)=>cs.setIfInBounds x.snd x.fst) z (gcs g).zipIdx:=by rw[e]
 rw[hf,← Array.foldl_toList];apply Array.ext_getElem?;intro j;have e2:(gcs g).zipIdx.toList=(g.map (Value.int .i32)).zipIdx 0:=by simp[gcs]
 rw[e2,foldSet_at _ _ _ _ (by simp[hg];exact hz),Array.getElem?_append];simp only[gcs_size,hg,List.length_map];by_cases h:j<32
 ·rw[if_pos (by omega),if_pos h];simp[gcs]
 ·rw[if_neg (by omega),if_neg h,← Array.getElem?_toList,← Array.getElem?_toList,List.getElem?_drop,show 32+(j-32)=j by omega]
theorem size_state:(prog.info? 205).map (·.size)=some 32:=by kernel_rfl
theorem step_any(w:World)(t:List UInt8)(A:Option Addr)(n c:Nat)(l:List OpT)(frame:Int)(Pa:Option Addr)(pn pc:Nat)(press:List UInt8)(g:List Int)
  (ht:t.length≤1099511627776) (hl:Ro w A n c l) (hp:Rb w Pa pn pc press) (hok:okG g) :
  Calls prog 172 #[pAgg t A n c,.agg (gcs g),.int .i64 frame,.slice Pa pn pc] w fun e w'=>e = .returned (.agg (gcs (stepN t press frame l g).1))∧Ext w w':=by
 have hg32:=hok.1;have hsz:(gcs g).size=32:=by rw[gcs_size,hg32]
 have hfold:=foldSet g hg32;obtain⟨G',hG'⟩:∃ x,(stepN t press frame l g).1=x:=⟨_,rfl⟩;have hokG:G'.length=32:=by rw[← hG'];exact(stepN_ok t press frame l hok).1
 rw[hG'];have HG':=hqd hG';have hl32':=hqd hokG;clear hG' hokG;unfold pAgg;go_enter func172,ntmps172;go_wp2_with (with_reducible refine wpList_load_gm rfl 205 (.tmp 5) rfl rfl underlying205 size_state (g:=g) ((Blk.new' _ _ hg32 (by simp)).gm.ext (Ext.alloc _ _)) ?_)
 generalize hV:World.alloc (World.alloc (World.alloc (World.alloc w _) _) _) _=V;have eV:Ext w V:=by subst hV;exact(((Ext.alloc _ _).trans (Ext.alloc _ _)).trans (Ext.alloc _ _)).trans (Ext.alloc _ _)
 have bR:Blk V (w.heap.size+1+1) 205 zeroG:=by subst hV;exact(Blk.new' _ _ rfl (by simp)).ext (Ext.alloc _ _)
 have bC:Gm V (w.heap.size+1+1+1) g:=by subst hV;exact(Blk.new' _ _ hg32 (by simp)).gm
 clear hV;have hrun:=run_any V (w.heap.size+1+1+1) 323 t A n c l frame Pa pn pc press g (memI_cells _) ht (hl.ext eV) (hp.ext eV) (d:=false) ⟨bC,rfl⟩ hok (fun h a ha=>by have:=Rd.lt hl (by omega) a ha;omega) (fun h a ha=>by have:=Rd.lt hp (by omega) a ha;omega) HG'.out;unfold pAgg at hrun;have Hrun:=hqd hrun;clear hrun hfold hsz hg32 hok;refine Calls.mono Hrun.out ?_;rintro e w1 ⟨⟨n9,rfl⟩,⟨g9,d9,⟨gW,hd9⟩,_,h9⟩,mW⟩;obtain⟨_,e9⟩:=h9 hd9;have e9:=e9.symm;subst e9;clear h9 hd9;have rW:Blk w1 (w.heap.size+1+1) 205 zeroG:=bR.of_block (mW.block _ bR.lt (by omega));have eW:Ext w w1:=Below.trans eV ⟨mW.os,mW.tape,mW.output,mW.size,fun k hk=>mW.block k (Nat.lt_of_lt_of_le hk eV.size) (by omega)⟩;go_wp2_with (first
  | (with_reducible refine wpList_load_gm rfl 205 (.tmp 21) rfl rfl underlying205 size_state gW ?_)
  | (with_reducible refine wpList_store_blk rfl 205 (.tmp 8) (.tmp 22) rfl rfl rfl rW hl32'.out size_state ?_))
 have hgm:=(rW.setRow hl32'.out).gm;exact bodyPost_ret (v:=.agg (gcs G')) (result_gm rfl _ rfl hgm underlying205 size_state) rfl ⟨rfl,eW.setRow (by omega) _⟩

section
variable {P:Program} {w w':World} {b:Nat} {vs:List Value}
def ArB(w:World)(b:Nat)(T:TypeId)(vs:List Value):Prop:=w.heap[b]?=some (.cells vs.toArray T (0,0))
theorem ArB.cell{T:TypeId}(h:ArB w b T vs){i:Nat}{v:Value}(hv:vs[i]?=some v):w.cell? ⟨b,i,none⟩=some v:=by
 rw[cell_of_row _ _ _ _ _ _ h];simpa using hv
theorem ArB.free{T:TypeId}(h:ArB w b T vs)(i:Nat):w.frozen? ⟨b,i,none⟩=false:=by simp[World.frozen?,show w.heap[b]?=_ from h]
theorem ArB.lt{T:TypeId}(h:ArB w b T vs):b<w.heap.size:=(Array.getElem?_eq_some_iff.1 h).1
theorem ArB.of_block{T:TypeId}(h:ArB w b T vs)(e:w'.heap[b]?=w.heap[b]?):ArB w' b T vs:=e.trans h
theorem ArB.ext{T:TypeId}(h:ArB w b T vs)(e:Ext w w'):ArB w' b T vs:=h.of_block (e.block b h.lt)
theorem ArB.grown{T:TypeId}(h:ArB w b T vs){row:Option Nat}(hg:w.grownBy w' row)(hne:row≠some b):ArB w' b T vs:=h.of_block (hg.block b h.lt (fun e=>hne e.symm))
theorem ArB.new(w:World)(T:TypeId)(vs:List Value):ArB (w.alloc (.cells vs.toArray T)) w.heap.size T vs:=heap_alloc_new w _
theorem ArB.set{T:TypeId}(h:ArB w b T vs)(i:Nat)(v:Value):ArB (w.setCell ⟨b,i,none⟩ v) b T (vs.set i v):=by
 show(w.setCell ⟨b,i,none⟩ v).heap[b]?=_
 simp only[World.setCell,Array.getElem?_modify,show w.heap[b]?=_ from h];simp
theorem ArB.setRow{T:TypeId}(h:ArB w b T vs)(us:List Value):ArB (w.setRow b us.toArray) b T us:=setRow_heap w b _ _ _ _ h
theorem ar_load{ty e:TypeId}{n:Nat}{T:TypeId}(hu:P.underlying ty=some (.array n e))(hi:(P.info? ty).map (·.size)=some n)(h:ArB w b T vs)(hn:vs.length=n):(loadVar ty ⟨b,0,none⟩).run P w = .ok (.agg vs.toArray) w:=by
 have hl:(loadCells ⟨b,0,none⟩ vs.length).run P w = .ok vs.toArray w :=
  run_loadCells_list (P:=P) w ⟨b,0,none⟩ _ (fun j v hv=>by
   rw[Addr.add_lit,Nat.zero_add];exact h.cell hv)
 cases hq:P.info? ty with
 | none=>simp[hq]at hi
 | some i =>
  have hs:i.size=n:=by simpa [hq] using hi
  have hagg:(isAgg ty).run P w = .ok true w:=by
   unfold isAgg;rw[Sem.run_bind,run_underlying hu w];simp
  rw[hn]at hl;simp[loadVar,Sem.run_bind,hagg,sizeOf,typeInfo,hq,hs,hl]
theorem exec_load_ar{o:Oper}{a:Act}(ty:TypeId)(x:Operand)(ho:o.op = .load ty x)(hx:a.eval x = .pointer (some ⟨b,0,none⟩)){e:TypeId}{n:Nat}{T:TypeId}(hu:P.underlying ty=some (.array n e))(hi:(P.info? ty).map (·.size)=some n)(h:ArB w b T vs)(hn:vs.length=n) :
  (execOp a.eval o).run P w = .ok (.value (.agg vs.toArray)) w:=by
 unfold execOp;simp only[ho,hx,Instr.loadAt,Instr.sureAddr,Sem.run_bind,Sem.run_pure,Result.andThen_ok,ar_load hu hi h hn]
theorem wpList_load_ar{ops:Array Oper}{rest:List Oper}{o:Oper}{a:Act}{Q:Exit→Act→World→Prop}(hgd:o.guard=none)(ty:TypeId)(x:Operand)(ho:o.op = .load ty x)
  (hx:a.eval x = .pointer (some ⟨b,0,none⟩)) {e:TypeId} {n:Nat} {T:TypeId} (hu:P.underlying ty=some (.array n e)) (hi:(P.info? ty).map (·.size)=some n) (h:ArB w b T vs) (hn:vs.length=n)
  (hk:wpList P ops Q rest (a.put o.dst (.agg vs.toArray)) w):wpList P ops Q (o::rest) a w:=by
 refine wpList_plain hgd fun K hK=>?_;unfold Oper.wp;rw[exec_load_ar ty x ho hx hu hi h hn];exact hK _ _ hk
theorem wpList_store_ar{ops:Array Oper}{rest:List Oper}{o:Oper}{a:Act}{Q:Exit→Act→World→Prop}(hgd:o.guard=none)(ty:TypeId)(x y:Operand)(ho:o.op = .store ty x y)
  (hx:a.eval x = .pointer (some ⟨b,0,none⟩)) {us:List Value} (hy:a.eval y = .agg us.toArray) {T:TypeId} (h:ArB w b T vs) {n:Nat} (hl:us.length=n) (hv:vs.length=n) (hi:(P.info? ty).map (·.size)=some n) (h1:∀ u∈us,u.oneCell'=true)
  (hk:∀ W2,ArB W2 b T us→w.grownBy W2 (some b)→W2.heap.size=w.heap.size→wpList P ops Q rest (a.put o.dst undef) W2):wpList P ops Q (o::rest) a w :=
 wpList_store_row hgd ty x y ho b us.toArray hx hy T vs.toArray h (by simp[hi,hl]) (by simp[hl,hv]) (by rw[List.all_toArray];exact List.all_eq_true.2 h1)
  (hk _ (h.setRow us) ⟨rfl,rfl,rfl,by simp,fun k _ hk=>Go.setRow_other w b k _ (fun e=>hk (by rw[e]))⟩ (by simp))
theorem run_alloc_ar{ty:TypeId}{i:TypeInfo}(hi:P.info? ty=some i){zs:List Value}(hz:i.zero=some (.agg zs.toArray))(w:World):(Instr.alloc ty true (.tuple #[])).run P w = .ok (.pointer (some ⟨w.heap.size,0,none⟩)) (w.alloc (.cells zs.toArray ty)):=by
 simp[Instr.alloc,zeroValue,typeInfo,hi,hz,newVar,newRow,newObj,Value.cells]
 rfl
theorem wpList_alloc_ar{ops:Array Oper}{rest:List Oper}{o:Oper}{a:Act}{Q:Exit→Act→World→Prop}(hgd:o.guard=none)(ty:TypeId)(ho:o.op = .alloc ty){i:TypeInfo}(hi:P.info? ty=some i){zs:List Value}(hz:i.zero=some (.agg zs.toArray))
  (hk:∀ W2,ArB W2 w.heap.size ty zs→Ext w W2→W2.heap.size=w.heap.size+1→wpList P ops Q rest (a.put o.dst (.pointer (some ⟨w.heap.size,0,none⟩))) W2):wpList P ops Q (o::rest) a w:=by
 refine wpList_plain hgd fun K hK=>?_;unfold Oper.wp execOp;simp only[ho,Sem.run_bind,run_alloc_ar hi hz,Result.andThen_ok,Sem.run_pure];exact hK _ _ (hk _ (ArB.new w ty zs) (Ext.alloc _ _) (by simp))
theorem result_ar{fn:Func}{p:Tmp}{ty e:TypeId}(h:fn.results = #[.cell p ty])(tmps:Array Value)(hp:tmps.getD p undef = .pointer (some ⟨b,0,none⟩)){n:Nat}{T:TypeId}(hg:ArB w b T vs)(hn:vs.length=n)(hu:P.underlying ty=some (.array n e))(hi:(P.info? ty).map (·.size)=some n) :
  (results fn tmps).run P w = .ok (.agg vs.toArray) w:=by
 have hp':tmps[p]?.getD undef = .pointer (some ⟨b,0,none⟩):=by simpa using hp
 simp[results,h,hp',asAddr,ar_load hu hi hg hn]
end
section
variable {P:Program} {w w':World} {b:Nat} {vs:List Value}
theorem st_load{ty:TypeId}{fs:Array Field}{o:Nat}(hu:P.underlying ty=some (.struct fs))(hi:(P.info? ty).map (·.size)=some vs.length)(h:∀ i v,vs[i]?=some v→w.cell? ⟨b,o+i,none⟩=some v):(loadVar ty ⟨b,o,none⟩).run P w = .ok (.agg vs.toArray) w:=by
 have hl:(loadCells ⟨b,o,none⟩ vs.length).run P w = .ok vs.toArray w :=
  run_loadCells_list (P:=P) w ⟨b,o,none⟩ _ (fun j v hv=>by
   rw[Addr.add_lit];exact h j v hv)
 cases hq:P.info? ty with
 | none=>simp[hq]at hi
 | some i =>
  have hs:i.size=vs.length:=by simpa [hq] using hi
  have hagg:(isAgg ty).run P w = .ok true w:=by
   unfold isAgg;rw[Sem.run_bind,run_underlying hu w];simp
  simp[loadVar,Sem.run_bind,hagg,sizeOf,typeInfo,hq,hs,hl]
theorem exec_load_st{o:Oper}{a:Act}(ty:TypeId)(x:Operand)(ho:o.op = .load ty x){k:Nat}(hx:a.eval x = .pointer (some ⟨b,k,none⟩)){fs:Array Field}(hu:P.underlying ty=some (.struct fs))(hi:(P.info? ty).map (·.size)=some vs.length)(h:∀ i v,vs[i]?=some v→w.cell? ⟨b,k+i,none⟩=some v) :
  (execOp a.eval o).run P w = .ok (.value (.agg vs.toArray)) w:=by
 unfold execOp;simp only[ho,hx,Instr.loadAt,Instr.sureAddr,Sem.run_bind,Sem.run_pure,Result.andThen_ok,st_load hu hi h]
theorem wpList_load_st{n:Nat}{ops:Array Oper}{rest:List Oper}{o:Oper}{a:Act}{Q:Exit→Act→World→Prop}(hgd:o.guard=none)(ty:TypeId)(x:Operand)(ho:o.op = .load ty x)
  {k:Nat} (hx:a.eval x = .pointer (some ⟨b,k,none⟩)) {fs:Array Field} (hu:P.underlying ty=some (.struct fs)) (hi:(P.info? ty).map (·.size)=some n) (hn:vs.length=n) (h:∀ i v,vs[i]?=some v→w.cell? ⟨b,k+i,none⟩=some v)
  (hk:wpList P ops Q rest (a.put o.dst (.agg vs.toArray)) w):wpList P ops Q (o::rest) a w:=by
 refine wpList_plain hgd fun K hK=>?_;unfold Oper.wp;subst hn;rw[exec_load_st ty x ho hx hu hi h];exact hK _ _ hk
theorem Has.all{T:Tg}{t:Nat}(h:Has w T t b vs):∀ i v,vs[i]?=some v→w.cell? ⟨b,0+i,none⟩=some v:=fun i v hv=>by rw[Nat.zero_add];exact h.cell hv
theorem wpList_store_st{n:Nat}{ops:Array Oper}{rest:List Oper}{o:Oper}{a:Act}{Q:Exit→Act→World→Prop}(hgd:o.guard=none)(ty:TypeId)(x y:Operand)(ho:o.op = .store ty x y)
  (hx:a.eval x = .pointer (some ⟨b,0,none⟩)) {us:List Value} (hy:a.eval y = .agg us.toArray) {T:Tg} {t:Nat} (h:Has w T t b vs) (hl:us.length=n) (hv:vs.length=n) (hi:(P.info? ty).map (·.size)=some n) (h1:∀ u∈us,u.oneCell'=true)
  (hk:∀ W2,Has W2 T t b us→w.grownBy W2 (some b)→W2.heap.size=w.heap.size→wpList P ops Q rest (a.put o.dst undef) W2):wpList P ops Q (o::rest) a w:=by
 obtain⟨ht,e,hb⟩:=h;exact wpList_store_row hgd ty x y ho b us.toArray hx hy e vs.toArray hb (by simp[hi,hl]) (by simp[hl,hv]) (by rw[List.all_toArray];exact List.all_eq_true.2 h1)
  (hk _ ⟨ht,e,setRow_heap w b _ _ _ _ hb⟩ ⟨rfl,rfl,rfl,by simp,fun k _ hk=>Go.setRow_other w b k _ (fun e=>hk (by rw[e]))⟩ (by simp))
theorem result_st{fn:Func}{p:Tmp}{ty:TypeId}(h:fn.results = #[.cell p ty])(tmps:Array Value)(hp:tmps.getD p undef = .pointer (some ⟨b,0,none⟩)){T:Tg}{t:Nat}(hg:Has w T t b vs){fs:Array Field}(hu:P.underlying ty=some (.struct fs))(hi:(P.info? ty).map (·.size)=some vs.length) :
  (results fn tmps).run P w = .ok (.agg vs.toArray) w:=by
 have hp':tmps[p]?.getD undef = .pointer (some ⟨b,0,none⟩):=by simpa using hp
 simp[results,h,hp',asAddr,st_load hu hi hg.all]
theorem result_st2{fn:Func}{p q:Tmp}{ty:TypeId}(h:fn.results = #[.cell p ty,.tmp q])(tmps:Array Value)(hp:tmps.getD p undef = .pointer (some ⟨b,0,none⟩)){T:Tg}{t:Nat}(hg:Has w T t b vs){fs:Array Field}(hu:P.underlying ty=some (.struct fs))(hi:(P.info? ty).map (·.size)=some vs.length) :
  (results fn tmps).run P w = .ok (.tuple #[.agg vs.toArray,tmps.getD q undef]) w:=by
 have hp':tmps[p]?.getD undef = .pointer (some ⟨b,0,none⟩):=by simpa using hp
 simp[results,h,hp',asAddr,st_load hu hi hg.all]
end
end Go.Proofs.YtffcefoadaogbaaGreat
