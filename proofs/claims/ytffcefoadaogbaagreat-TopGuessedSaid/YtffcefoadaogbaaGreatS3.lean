/- A part of the proof: texts put together and cut down by a program of mine (wip/gen/mini.py). -/
import Derived.Test.YtffcefoadaogbaaGreatS2
import Derived.Test.YtffcefoadaogbaaGreatRows
import Derived.Maps.OwnSet
import Derived.Deep.DeepCutAuto
namespace Go.Proofs.YtffcefoadaogbaaGreat
open Go.RowKit
open Go.Proofs.Tryz
set_option linter.unusedVariables false
set_option maxRecDepth 100000
set_option maxHeartbeats 16000000
structure Room(w:World)(b g n:Nat)(rf:Nat→Int)(vs:Nat→Nat→Int):Prop where
 ne:b≠g
 hd:w.cell? ⟨b,0,none⟩=some (.slice (some ⟨g,0,none⟩) n n)
 small:n≤200
 refs:∀ k,k<n→w.cell? ⟨g,k*9+8,none⟩=some (.int .i64 (rf k))
 vals:∀ k i,k<n→i<8→w.cell? ⟨g,k*9+i,none⟩=some (.int .i32 (vs k i))
 free:∀ o,w.frozen? ⟨g,o,none⟩=false
 lt:g<w.heap.size
def Found(n:Nat)(rf:Nat→Int)(pg:Int)(k:Nat):Prop:=k<n∧pg=(k:Int)+1∧rf k≠0
def Lost(n:Nat)(rf:Nat→Int)(pg:Int):Prop:=pg<1∨(n:Int)<pg∨∃ k,k<n∧pg=(k:Int)+1∧rf k=0
theorem at_yes{w:World}{b g n:Nat}{rf:Nat→Int}{vs:Nat→Nat→Int}(h:Room w b g n rf vs){pg:Int}{k:Nat}(hf:Found n rf pg k) :
  Calls prog 149 #[.pointer (some ⟨b,0,none⟩),.int .i64 pg] w fun e w'=>e = .returned (.pointer (some ⟨g,k*9,none⟩))∧w=w':=by
 obtain⟨hk,rfl,hne⟩:=hf;have c0:=h.hd;have c1:=h.refs k hk;have hs:=h.small;have hz:(rf k==0)=false:=by simpa using hne
 have hi:(k:Int)+1-1=(k:Int):=by omega
 clear h hne;go_enter func149,ntmps149;go_wp2_with fail;go_ret;exact⟨rfl,rfl⟩
theorem at_no{w:World}{b g n:Nat}{rf:Nat→Int}{vs:Nat→Nat→Int}(h:Room w b g n rf vs){pg:Int}(hl:-9223372036854775808≤pg)(hu:pg≤9223372036854775807)(hf:Lost n rf pg) :
  Calls prog 149 #[.pointer (some ⟨b,0,none⟩),.int .i64 pg] w fun e w'=>e = .returned (.pointer none)∧w=w':=by
 have c0:=h.hd;have hs:=h.small;rcases hf with hf|hf|⟨k,hk,rfl,hf⟩
 ·clear h
  go_enter func149,ntmps149;go_wp2_with fail;go_ret;exact⟨rfl,rfl⟩
 ·clear h
  go_enter func149,ntmps149;go_wp2_with fail;go_ret;exact⟨rfl,rfl⟩
 ·have c1:=h.refs k hk
  rw[hf]at c1;have hi:(k:Int)+1-1=(k:Int):=by omega
  clear h hf hl hu;go_enter func149,ntmps149;go_wp2_with fail;go_ret;exact⟨rfl,rfl⟩
def updP{α:Type}(f:Nat→α)(k:Nat)(x:α):Nat→α:=fun j=>if j=k then x else f j
theorem updP_same{α:Type}(f:Nat→α)(k:Nat)(x:α):updP f k x k=x:=by simp[updP]
theorem updP_other{α:Type}(f:Nat→α){k j:Nat}(x:α)(h:j≠k):updP f k x j=f j:=by simp[updP,h]
theorem frozen_set(w:World)(a:Addr)(u:Value)(p:Addr):(w.setCell a u).frozen? p=w.frozen? p:=by simp
theorem Room.setRef{w:World}{b g n:Nat}{rf:Nat→Int}{vs:Nat→Nat→Int}(h:Room w b g n rf vs){k:Nat}(hk:k<n)(x:Int) :
  Room (w.setCell ⟨g,k*9+8,none⟩ (.int .i64 x)) b g n (updP rf k x) vs:=by
 refine⟨h.ne,?_,h.small,fun j hj=>?_,fun j i hj hi=>?_,fun o=>?_,?_⟩
 ·rw[World.cell?_setCell_other _ _ _ _ (by intro e;injection e with e1;exact h.ne e1.symm)]
  exact h.hd
 ·by_cases e:j=k
  ·subst e
   rw[updP_same];exact World.cell?_setCell_same _ _ _ (h.refs j hj)
  ·rw[updP_other _ _ e,World.cell?_setCell_other _ _ _ _ (by intro e';injection e' with _ e2;omega)]
   exact h.refs j hj
 ·rw[World.cell?_setCell_other _ _ _ _ (by intro e';injection e' with _ e2;omega)]
  exact h.vals j i hj hi
 ·rw[frozen_set];exact h.free o
 ·simpa [World.setCell] using h.lt
theorem Room.setVal{w:World}{b g n:Nat}{rf:Nat→Int}{vs:Nat→Nat→Int}(h:Room w b g n rf vs){k i:Nat}(hk:k<n)(hi:i<8)(x:Int) :
  Room (w.setCell ⟨g,k*9+i,none⟩ (.int .i32 x)) b g n rf (updP vs k (updP (vs k) i x)):=by
 refine⟨h.ne,?_,h.small,fun j hj=>?_,fun j i' hj hi'=>?_,fun o=>?_,?_⟩
 ·rw[World.cell?_setCell_other _ _ _ _ (by intro e;injection e with e1;exact h.ne e1.symm)]
  exact h.hd
 ·rw[World.cell?_setCell_other _ _ _ _ (by intro e';injection e' with _ e2;omega)]
  exact h.refs j hj
 ·by_cases e:j=k
  ·subst e
   rw[updP_same];by_cases e':i'=i
   ·subst e'
    rw[updP_same];exact World.cell?_setCell_same _ _ _ (h.vals j i' hj hi')
   ·rw[updP_other _ _ e',World.cell?_setCell_other _ _ _ _ (by intro e';injection e' with _ e2;omega)]
    exact h.vals j i' hj hi'
  ·rw[updP_other _ _ e,World.cell?_setCell_other _ _ _ _ (by intro e';injection e' with _ e2;omega)]
   exact h.vals j i' hj hi'
 ·rw[frozen_set];exact h.free o
 ·simpa [World.setCell] using h.lt
theorem Room.congr{w:World}{b g n:Nat}{rf rf':Nat→Int}{vs vs':Nat→Nat→Int}(h:Room w b g n rf vs)(h1:∀ k,k<n→rf' k=rf k)(h2:∀ k i,k<n→i<8→vs' k i=vs k i):Room w b g n rf' vs' :=
 ⟨h.ne,h.hd,h.small,fun k hk=>by rw[h1 k hk];exact h.refs k hk,fun k i hk hi=>by rw[h2 k i hk hi];exact h.vals k i hk hi,h.free,h.lt⟩
theorem Room.ext{w w':World}{b g n:Nat}{rf:Nat→Int}{vs:Nat→Nat→Int}(h:Room w b g n rf vs)(e:Ext w w'):Room w' b g n rf vs :=
 ⟨h.ne,e.cell h.hd,h.small,fun k hk=>e.cell (h.refs k hk),fun k i hk hi=>e.cell (h.vals k i hk hi),fun o=>(Below.frozen e (p:=⟨g,o,none⟩) h.lt).trans (h.free o),Nat.lt_of_lt_of_le h.lt e.size⟩
theorem grown_set(w:World){g:Nat}(a:Addr)(ha:a.block=g)(u:Value):w.grownBy (w.setCell a u) (some g) :=
 ⟨rfl,rfl,rfl,by simp[World.setCell],fun k _ hk=>Below.heap_setCell w a u k (by rintro rfl;exact hk (by rw[ha]))⟩
def Left(w:World)(b g n:Nat)(rf:Nat→Int)(vs:Nat→Nat→Int)(v:Value)(e:Ending)(w':World):Prop:=e = .returned v∧Room w' b g n rf vs∧w.grownBy w' (some g)
theorem Left.same{w:World}{b g n:Nat}{rf:Nat→Int}{vs:Nat→Nat→Int}(h:Room w b g n rf vs)(v:Value):Left w b g n rf vs v (.returned v) w:=⟨rfl,h,World.grownBy.refl _ _⟩
section
variable {w:World} {b g n:Nat} {rf:Nat→Int} {vs:Nat→Nat→Int}
theorem hold_yes(h:Room w b g n rf vs){pg:Int}{k:Nat}(hf:Found n rf pg k)(hb0:-1000000≤rf k)(hb:rf k≤1000000) :
  Calls prog 103 #[.pointer (some ⟨b,0,none⟩),.int .i64 pg] w (Left w b g n (updP rf k (rf k+1)) vs (.bool true)):=by
 have H:=hqd (at_yes h hf);have c1:=h.refs k hf.1;have hfr:=h.free (k*9+8);have Hf:=hqd (h.setRef hf.1 (rf k+1));clear h hf;go_enter func103,ntmps103;go_wp2_with fail;refine H.out.mono ?_;rintro e w1 ⟨rfl,rfl⟩;go_wp2_with fail;go_ret;exact⟨rfl,Hf.out,grown_set _ _ rfl _⟩
theorem drop_yes(h:Room w b g n rf vs){pg:Int}{k:Nat}(hf:Found n rf pg k)(hb0:-1000000≤rf k)(hb:rf k≤1000000) :
  Calls prog 110 #[.pointer (some ⟨b,0,none⟩),.int .i64 pg] w (Left w b g n (updP rf k (rf k-1)) vs (.bool true)):=by
 have H:=hqd (at_yes h hf);have c1:=h.refs k hf.1;have hfr:=h.free (k*9+8);have Hf:=hqd (h.setRef hf.1 (rf k-1));clear h hf;go_enter func110,ntmps110;go_wp2_with fail;refine H.out.mono ?_;rintro e w1 ⟨rfl,rfl⟩;go_wp2_with fail;go_ret;exact⟨rfl,Hf.out,grown_set _ _ rfl _⟩
theorem refs_yes(h:Room w b g n rf vs){pg:Int}{k:Nat}(hf:Found n rf pg k) :
  Calls prog 128 #[.pointer (some ⟨b,0,none⟩),.int .i64 pg] w fun e w'=>e = .returned (.int .i64 (rf k))∧w=w':=by
 have H:=hqd (at_yes h hf);have c1:=h.refs k hf.1;clear h hf;go_enter func128,ntmps128;go_wp2_with fail;refine H.out.mono ?_;rintro e w1 ⟨rfl,rfl⟩;go_wp2_with fail;go_ret;exact⟨rfl,rfl⟩
theorem get_yes(h:Room w b g n rf vs){pg:Int}{k:Nat}(hf:Found n rf pg k){i:Nat}(hi:i<8) :
  Calls prog 313 #[.pointer (some ⟨b,0,none⟩),.int .i64 pg,.int .i64 (i:Nat)] w fun e w'=>e = .returned (.tuple #[.int .i32 (vs k i),.bool true])∧w=w':=by
 have H:=hqd (at_yes h hf);have c1:=h.vals k i hf.1 hi;clear h hf;go_enter func313,ntmps313;go_wp2_with fail;refine H.out.mono ?_;rintro e w1 ⟨rfl,rfl⟩;go_wp2_with fail;go_ret2
 exact⟨rfl,rfl⟩
theorem set_yes(h:Room w b g n rf vs){pg:Int}{k:Nat}(hf:Found n rf pg k)(h1:rf k≤1){i:Nat}(hi:i<8)(x:Int) :
  Calls prog 165 #[.pointer (some ⟨b,0,none⟩),.int .i64 pg,.int .i64 (i:Nat),.int .i32 x] w (Left w b g n rf (updP vs k (updP (vs k) i x)) (.bool true)):=by
 have H:=hqd (at_yes h hf);have c0:=h.refs k hf.1;have c1:=h.vals k i hf.1 hi;have hfr:=h.free (k*9+i);have Hf:=hqd (h.setVal hf.1 hi x);clear h hf;go_enter func165,ntmps165;go_wp2_with fail;refine H.out.mono ?_;rintro e w1 ⟨rfl,rfl⟩;go_wp2_with fail;go_ret;exact⟨rfl,Hf.out,grown_set _ _ rfl _⟩
end
section
variable {w:World} {b g n:Nat} {rf:Nat→Int} {vs:Nat→Nat→Int}
theorem room_taken(h:Room w b g n rf vs){k:Nat}(hk:k<n) :
  Room (((((((((w.setCell ⟨g,k*9,none⟩ (.int .i32 0)).setCell ⟨g,k*9+1,none⟩ (.int .i32 0)).setCell ⟨g,k*9+2,none⟩ (.int .i32 0)).setCell ⟨g,k*9+3,none⟩ (.int .i32 0)).setCell ⟨g,k*9+4,none⟩ (.int .i32 0)).setCell
   ⟨g,k*9+5,none⟩ (.int .i32 0)).setCell ⟨g,k*9+6,none⟩ (.int .i32 0)).setCell ⟨g,k*9+7,none⟩ (.int .i32 0)).setCell ⟨g,k*9+8,none⟩ (.int .i64 1)) b g n (updP rf k 1) (updP vs k (fun _=>0)):=by
 have h1:=(((((((((h.setVal hk (i:=0) (by omega) 0).setVal hk (i:=1) (by omega) 0).setVal hk (i:=2) (by omega) 0).setVal hk (i:=3) (by omega) 0).setVal hk (i:=4) (by omega) 0).setVal hk (i:=5) (by omega) 0).setVal hk (i:=6) (by omega) 0).setVal hk (i:=7) (by omega) 0).setRef hk 1);refine Room.congr h1 (fun _ _=>rfl) fun j i _ hi=>?_;by_cases e:j=k
 ·subst e
  simp only[updP_same];simp only[updP];repeat' split
  all_goals first|rfl|omega
 ·simp only[updP_other _ _ e]
theorem take_yes(h:Room w b g n rf vs){k:Nat}(hk:k<n)(h0:rf k=0)(hall:∀ j,j<k→rf j≠0) :
  Calls prog 163 #[.pointer (some ⟨b,0,none⟩)] w (Left w b g n (updP rf k 1) (updP vs k (fun _=>0)) (.tuple #[.int .i64 ((k:Int)+1),.bool true])):=by
 have c0:=h.hd;have hs:=h.small;go_enter func163,ntmps163;go_wp2_with fail;go_loop [12] (fun i=>∃ j:Nat,i = .int .i64 j∧j≤k) (fun i=>n-(intOf i).toNat)
 case atStart=>exact⟨0,rfl,Nat.zero_le _⟩
 case round =>
  obtain⟨j,rfl,hj⟩:=hrel;by_cases hjk:j=k
  ·subst hjk
   have c1:=h.refs j hk;rw[h0]at c1;have hfr:=h.free;have v0:=h.vals j 0 hk (by omega);have v1:=h.vals j 1 hk (by omega);have v2:=h.vals j 2 hk (by omega);have v3:=h.vals j 3 hk (by omega);have v4:=h.vals j 4 hk (by omega);have v5:=h.vals j 5 hk (by omega);have v6:=h.vals j 6 hk (by omega);have v7:=h.vals j 7 hk (by omega);simp only[Nat.add_zero]at v0;have H:=hqd h;clear h hall h0;go_wp2_with fail;go_ret2
   exact⟨rfl,room_taken H.out hk,by
    repeat refine grown_trans ?_ (grown_set _ _ rfl _)
    exact World.grownBy.refl _ _⟩
  ·have c1:=h.refs j (by omega)
   have hz:(rf j==0)=false:=by simpa using hall j (by omega)
   have hjn:j<n:=by omega
   clear hall;go_wp2_with fail;go_round
   case rel=>exact⟨j+1,by go_num,by omega⟩
   case measure=>simp[intOf];omega
theorem take_no(h:Room w b g n rf vs)(hall:∀ j,j<n→rf j≠0) :
  Calls prog 163 #[.pointer (some ⟨b,0,none⟩)] w (Left w b g n rf vs (.tuple #[.int .i64 0,.bool false])):=by
 have c0:=h.hd;have hs:=h.small;go_enter func163,ntmps163;go_wp2_with fail;go_loop [12] (fun i=>∃ j:Nat,i = .int .i64 j∧j≤n) (fun i=>n-(intOf i).toNat)
 case atStart=>exact⟨0,rfl,Nat.zero_le _⟩
 case round =>
  obtain⟨j,rfl,hj⟩:=hrel;by_cases hjn:j<n
  ·have c1:=h.refs j (by omega)
   have hz:(rf j==0)=false:=by simpa using hall j (by omega)
   clear hall;go_wp2_with fail;go_round
   case rel=>exact⟨j+1,by go_num,by omega⟩
   case measure=>simp[intOf];omega
  ·have H:=hqd h
   clear h hall;go_wp2_with fail;go_ret2
   exact Left.same H.out _
def used(n:Nat)(rf:Nat→Int):Nat:=(List.range n).countP fun k=>decide (0<rf k)
theorem used_succ(n:Nat)(rf:Nat→Int):used (n+1) rf=used n rf+if 0<rf n then 1 else 0:=by
 unfold used;rw[List.range_succ,List.countP_append];simp[List.countP_cons]
theorem used_le(n:Nat)(rf:Nat→Int):used n rf≤n:=by
 have:=List.countP_le_length (p:=fun k=>decide (0<rf k)) (l:=List.range n);simpa [used] using this
def UsedRel(w:World)(n:Nat)(rf:Nat→Int)(c i:Value)(wr:World):Prop:=∃ j:Nat,i = .int .i64 j∧j≤n∧c = .int .i64 (used j rf:Nat)∧Ext w wr
theorem used_any(h:Room w b g n rf vs) :
  Calls prog 126 #[.pointer (some ⟨b,0,none⟩)] w fun e w'=>e = .returned (.int .i64 (used n rf:Nat))∧Ext w w':=by
 have c0:=h.hd;have hs:=h.small;go_enter func126,ntmps126;go_wp2_with fail;go_loopw [3,13] (fun c i wr=>UsedRel w n rf c i wr) (fun _ i _=>n-(intOf i).toNat)
 case atStart=>exact⟨0,rfl,Nat.zero_le _,rfl,Ext.refl _⟩
 case round =>
  obtain⟨j,rfl,hj,rfl,e1⟩:=hrel;by_cases hjn:j<n
  ·have h':=h.ext e1
   have c1:=h'.refs j hjn;have v0:=h'.vals j 0 hjn (by omega);have v1:=h'.vals j 1 hjn (by omega);have v2:=h'.vals j 2 hjn (by omega);have v3:=h'.vals j 3 hjn (by omega);have v4:=h'.vals j 4 hjn (by omega);have v5:=h'.vals j 5 hjn (by omega);have v6:=h'.vals j 6 hjn (by omega);have v7:=h'.vals j 7 hjn (by omega);simp only[Nat.add_zero]at v0;have hu:=hqd (used_succ j rf);have hul:=used_le j rf;clear h' h c0;by_cases hp:0<rf j
   all_goals
    go_wp2_with fail;go_roundw
    case rel =>
     refine⟨j+1,by go_num,hjn,?_,?_⟩
     ·rw[hu.out]
      first|(rw[if_pos hp];go_num)|(rw[if_neg hp];rfl)
     ·exact e1.trans (Ext.alloc _ _)
    case measure=>simp[intOf];omega
  ·obtain rfl:j=n:=by omega
   go_wp2_with fail;go_ret;exact⟨rfl,e1⟩
end
theorem info_one:(prog.info? 267).map (fun i=>(i.zero,i.size,i.bytes))=some (some (.agg #[.int .i32 0,.int .i32 0,.int .i32 0,.int .i32 0,.int .i32 0,.int .i32 0,.int .i32 0,.int .i32 0,.int .i64 0]),9,40):=by kernel_rfl
def onez:Array Value:=#[.int .i32 0,.int .i32 0,.int .i32 0,.int .i32 0,.int .i32 0,.int .i32 0,.int .i32 0,.int .i32 0,.int .i64 0]
theorem made_at(m k i:Nat)(hk:k<m)(hi:i<9):(madeCells onez (m*9))[k*9+i]?=some (onez[i]'hi):=by
 have hlt:k*9+i<m*9:=by omega
 unfold madeCells;rw[Array.getElem?_map,Array.getElem?_range,if_pos hlt];simp only[Option.map_some];have e:(k*9+i) % onez.size=i:=by show(k*9+i) % 9=i;omega
 rw[e,getElem!_pos onez i hi]
theorem onez_at:∀ i (h:i<8),onez[i]'(Nat.lt_succ_of_lt h) = .int .i32 0
 | 0,_=>rfl|1,_=>rfl|2,_=>rfl|3,_=>rfl|4,_=>rfl|5,_=>rfl|6,_=>rfl|7,_=>rfl
 | n+8,h=>by omega
theorem room_made(w:World)(m:Nat)(hm:m≤200) :
  Room ((w.alloc (.cells (madeCells onez (m*9)) 267)).alloc (.cells #[.slice (some ⟨w.heap.size,0,none⟩) m m] 286)) (w.heap.size+1) w.heap.size m (fun _=>0) (fun _ _=>0):=by
 have hcell:∀ o v,(madeCells onez (m*9))[o]?=some v→((w.alloc (.cells (madeCells onez (m*9)) 267)).alloc (.cells #[.slice (some ⟨w.heap.size,0,none⟩) m m] 286)).cell? ⟨w.heap.size,o,none⟩=some v:=by
  intro o v h;have h1:(w.alloc (.cells (madeCells onez (m*9)) 267)).cell? ⟨w.heap.size,o,none⟩=some v:=by
   rw[cell_of_row _ _ _ _ _ _ (heap_alloc_new w _)];exact h
  exact(Ext.alloc _ _).cell h1
 refine⟨by omega,?_,hm,fun k hk=>?_,fun k i hk hi=>?_,fun o=>?_,?_⟩
 ·have h:=cell_of_row _ _ 0 _ _ _ (heap_alloc_new (w.alloc (.cells (madeCells onez (m*9)) 267)) (.cells #[.slice (some ⟨w.heap.size,0,none⟩) m m] 286))
  rw[World.size_alloc]at h;exact h
 ·exact hcell _ _ (made_at m k 8 hk (by omega))
 ·have h:=made_at m k i hk (by omega)
  rw[hcell _ _ h];exact congrArg some (onez_at i hi)
 ·have h1:(w.alloc (.cells (madeCells onez (m*9)) 267)).frozen? ⟨w.heap.size,o,none⟩=false:=by
   simp only[World.frozen?];rw[heap_alloc_new];simp
  exact(Below.frozen (Ext.alloc _ _) (p:=⟨w.heap.size,o,none⟩) (by simp)).trans h1
 ·simp only[World.size_alloc];omega
def NewRoom(w:World)(m:Nat)(e:Ending)(w':World):Prop:=∃ b g,e = .returned (.pointer (some ⟨b,0,none⟩))∧w.heap.size≤b∧w.heap.size≤g∧Ext w w'∧Room w' b g m (fun _=>0) (fun _ _=>0)
theorem new_any(w:World)(x:Int)(m:Nat)(hx:x≤0∧m=0∨x=m)(hm:m≤200) :
  Calls prog 161 #[.int .i64 x] w (NewRoom w m):=by
 obtain⟨i,hi,hz0,hz1,hz2⟩:=info_parts info_one;have hmk:∀ W:World,(Instr.makeSlice 284 (.int .i64 (m:Int)) (.int .i64 (m:Int))).run prog W = .ok (.slice (some ⟨W.heap.size,0,none⟩) m m) (W.alloc (.cells (madeCells onez (m*9)) 267)):=by
  intro W;have h:=run_make (P:=prog) W 284 267 i _ underlying284 hi hz0 .i64 .i64 (m:Int) (m:Int) (by omega) (Int.le_refl _) (by rw[hz2];omega) (by omega);rw[hz1]at h;exact h
 have hr:=hqd (room_made w m hm);have he:=hqd ((Ext.alloc w (.cells (madeCells onez (m*9)) 267)).trans (Ext.alloc _ (.cells #[.slice (some ⟨w.heap.size,0,none⟩) m m] 286)));have goal:∀ w',w'=((w.alloc (.cells (madeCells onez (m*9)) 267)).alloc (.cells #[.slice (some ⟨w.heap.size,0,none⟩) m m] 286))→NewRoom w m (.returned (.pointer (some ⟨w.heap.size+1,0,none⟩))) w':=by
  rintro w' rfl;exact⟨_,_,rfl,by omega,Nat.le_refl _,he.out,hr.out⟩
 have Hg:=hqd goal;clear goal hi hz0 hz1 hz2;by_cases hp:0<x
 ·have hxm:x=m:=by omega
  subst hxm;clear hx;go_enter func161,ntmps161;go_wp2_with fail;go_ret;exact Hg.out _ rfl
 ·have hm0:m=0:=by omega
  subst hm0;simp only[Int.natCast_zero]at hmk;clear hx;go_enter func161,ntmps161;by_cases hx0:x<0
  ·go_wp2_with fail
   go_ret;exact Hg.out _ rfl
  ·obtain rfl:x=0:=by omega
   go_wp2_with fail;go_ret;exact Hg.out _ rfl
section
variable {w:World} {b g n:Nat} {rf:Nat→Int} {vs:Nat→Nat→Int}
theorem room_copied(h:Room w b g n rf vs){j:Nat}(hj:j<n)(u:Nat→Int) :
  Room ((((((((w.setCell ⟨g,j*9,none⟩ (.int .i32 (u 0))).setCell ⟨g,j*9+1,none⟩ (.int .i32 (u 1))).setCell ⟨g,j*9+2,none⟩ (.int .i32 (u 2))).setCell ⟨g,j*9+3,none⟩ (.int .i32 (u 3))).setCell ⟨g,j*9+4,none⟩ (.int .i32 (u 4))).setCell
   ⟨g,j*9+5,none⟩ (.int .i32 (u 5))).setCell ⟨g,j*9+6,none⟩ (.int .i32 (u 6))).setCell ⟨g,j*9+7,none⟩ (.int .i32 (u 7))) b g n rf (updP vs j u):=by
 have h1:=(((((((h.setVal hj (i:=0) (by omega) (u 0)).setVal hj (i:=1) (by omega) (u 1)).setVal hj (i:=2) (by omega) (u 2)).setVal hj (i:=3) (by omega) (u 3)).setVal hj (i:=4) (by omega) (u 4)).setVal hj (i:=5) (by omega) (u 5)).setVal hj (i:=6) (by omega) (u 6)).setVal hj (i:=7) (by omega) (u 7);refine Room.congr h1 (fun _ _=>rfl) fun j' i _ hi=>?_;by_cases e:j'=j
 ·subst e
  simp only[updP_same];simp only[updP];repeat' split
  all_goals first|(subst_vars;rfl)|omega
 ·simp only[updP_other _ _ e]
theorem copy_yes(h:Room w b g n rf vs){pg:Int}{k:Nat}(hf:Found n rf pg k){j:Nat}(hj:j<n)(h0:rf j=0)(hall:∀ i,i<j→rf i≠0) :
  Calls prog 336 #[.pointer (some ⟨b,0,none⟩),.int .i64 pg] w (Left w b g n (updP rf j 1) (updP vs j (vs k)) (.tuple #[.int .i64 ((j:Int)+1),.bool true])):=by
 have hkj:k≠j:=fun e=>hf.2.2 (by rw[e];exact h0);have H1:=hqd (at_yes h hf);have H2:=hqd (take_yes h hj h0 hall);have hk:=hf.1;have hs:=h.small;clear h hf hall;go_enter func336,ntmps336;go_wp2_with fail;refine H1.out.mono ?_;rintro e w1 ⟨rfl,rfl⟩;go_wp2_with fail;refine H2.out.mono ?_;rintro e w1 ⟨rfl,hr,hg⟩;have hf1:Found n (updP rf j 1) ((j:Int)+1) j:=⟨hj,rfl,by rw[updP_same];decide⟩
 have H3:∀ W,Dr w1 W→Calls prog 149 #[.pointer (some ⟨b,0,none⟩),.int .i64 ((j:Int)+1)] W fun e w'=>e = .returned (.pointer (some ⟨g,j*9,none⟩))∧W=w':=fun W hW=>at_yes (hr.ext hW.ext) hf1;have H3':=hqd H3;clear H3;have hv:∀ i,i<8→w1.cell? ⟨g,k*9+i,none⟩=some (.int .i32 (vs k i)):=fun i hi=>by
  have:=hr.vals k i hk hi;rwa[updP_other _ _ hkj]at this
 have v0:=hv 0 (by omega);have v1:=hv 1 (by omega);have v2:=hv 2 (by omega);have v3:=hv 3 (by omega);have v4:=hv 4 (by omega);have v5:=hv 5 (by omega);have v6:=hv 6 (by omega);have v7:=hv 7 (by omega);have hw:=fun i hi=>hr.vals j i hj hi;have u0:=hw 0 (by omega);have u1:=hw 1 (by omega);have u2:=hw 2 (by omega);have u3:=hw 3 (by omega);have u4:=hw 4 (by omega);have u5:=hw 5 (by omega);have u6:=hw 6 (by omega);have u7:=hw 7 (by omega);simp only[Nat.add_zero]at v0 u0;have hfr:=hr.free;have Hr0:∀ W,Dr w1 W→Room W b g n (updP rf j 1) (updP vs j fun _=>0):=fun W hW=>hr.ext hW.ext;have Hr:=hqd Hr0;clear hv hw hr hf1 Hr0;go_wp2_with fail;apply wp_region_lex_tail 9 (R:=Dr) (by rfl) (by rfl) (by rfl) (by kernel_rfl) (by kernel_rfl) (by kernel_rfl) Dr.refl (fun _ _ _=>Dr.trans) (Dr.drew _);simp only[tk];iterate 2
  apply lex_ex Dr.refl
  ·rfl
  ·intro W hR hΦ
   obtain⟨nq,rfl⟩:=hR;go_simp;first|done|with_reducible rfl
  simp only[pu]
 apply lex_callx (u:=.pointer (some ⟨g,j*9,none⟩))
 ·rfl
 ·intro W
  go_simp;exact⟨rfl,rfl⟩
 ·intro W hR hΦ
  exact(H3'.out W hR).mono fun _ _ hh=>⟨hh.1,hh.2▸Dr.refl _⟩
 simp only[pu];repeat
  apply lex_ex Dr.refl
  ·rfl
  ·intro W hR hΦ
   obtain⟨nq,rfl⟩:=hR;go_simp;first|done|with_reducible rfl
  simp only[pu]
 refine lex_nil ?_;intro W hR _;obtain⟨nq,rfl⟩:=hR;go_wp2_with fail;go_ret2
 have hr2:=room_copied (Hr.out _ ⟨nq,rfl⟩) hj (vs k);refine⟨rfl,Room.congr hr2 (fun _ _=>rfl) fun j' i _ _=>?_,?_⟩
 ·by_cases e:j'=j
  ·subst e
   simp only[updP_same]
  ·simp only[updP_other _ _ e]
 ·repeat refine grown_trans ?_ (grown_set _ _ rfl _)
  exact grown_ext hg (Dr.ext ⟨nq,rfl⟩)
theorem copy_no(h:Room w b g n rf vs){pg:Int}(hl:-9223372036854775808≤pg)(hu:pg≤9223372036854775807)(hf:Lost n rf pg∨(∃ k,Found n rf pg k)∧∀ j,j<n→rf j≠0) :
  Calls prog 336 #[.pointer (some ⟨b,0,none⟩),.int .i64 pg] w (Left w b g n rf vs (.tuple #[.int .i64 0,.bool false])):=by
 rcases hf with hf|⟨⟨k,hf⟩,hall⟩
 ·have H1:=hqd (at_no h hl hu hf)
  have H:=hqd h;clear h hf hl hu;go_enter func336,ntmps336;go_wp2_with fail;refine H1.out.mono ?_;rintro e w1 ⟨rfl,rfl⟩;go_wp2_with fail;go_ret2
  exact Left.same H.out _
 ·have H1:=hqd (at_yes h hf)
  have H2:=hqd (take_no h hall);clear h hf hl hu hall;go_enter func336,ntmps336;go_wp2_with fail;refine H1.out.mono ?_;rintro e w1 ⟨rfl,rfl⟩;go_wp2_with fail;refine H2.out.mono ?_;rintro e w1 ⟨rfl,hr,hg⟩;go_wp2_with fail;go_ret2
  exact⟨rfl,hr,hg⟩
end

def Held(n:Nat)(rf:Nat→Int)(L:List Nat):Prop:=(∀ k∈L,k<n)∧∀ k,k<n→rf k=(L.count k:Nat)
section
variable {n:Nat} {rf:Nat→Int} {L L':List Nat}
theorem Held.perm(h:Held n rf L)(p:L.Perm L'):Held n rf L':=⟨fun k hk=>h.1 k (p.mem_iff.2 hk),fun k hk=>by rw[h.2 k hk,p.count_eq]⟩
theorem Held.nil_(n:Nat):Held n (fun _=>0) []:=⟨fun k hk=>by simp at hk,fun k hk=>by simp⟩
theorem count_cons'(k j:Nat)(L:List Nat):((k::L).count j:Nat)=L.count j+if j=k then 1 else 0:=by
 rw[List.count_cons];by_cases e:j=k
 ·subst e;simp
 ·rw[if_neg e,if_neg (by simpa using fun h=>e h.symm)]
theorem Held.add(h:Held n rf L){k:Nat}(hk:k<n):Held n (updP rf k (rf k+1)) (k::L):=by
 refine⟨fun j hj=>?_,fun j hj=>?_⟩
 ·rcases List.mem_cons.1 hj with rfl|hj
  ·exact hk
  ·exact h.1 j hj
 ·rw[count_cons']
  by_cases e:j=k
  ·subst e
   have:=h.2 j hk;rw[updP_same,if_pos rfl];omega
  ·rw[updP_other _ _ e,if_neg e,h.2 j hj]
   rfl
theorem Held.take(h:Held n rf L){k:Nat}(hk:k<n)(h0:rf k=0):Held n (updP rf k 1) (k::L):=by
 have:=h.add hk;rwa[h0]at this
theorem Held.sub{k:Nat}(h:Held n rf (k::L)):Held n (updP rf k (rf k-1)) L:=by
 refine⟨fun j hj=>h.1 j (List.mem_cons_of_mem _ hj),fun j hj=>?_⟩;have h2:=h.2 j hj;rw[count_cons']at h2;by_cases e:j=k
 ·subst e
  rw[if_pos rfl]at h2;rw[updP_same];omega
 ·rw[if_neg e]at h2
  rw[updP_other _ _ e];exact h2
theorem Held.pos(h:Held n rf L){k:Nat}(hk:k<n):0≤rf k:=by rw[h.2 k hk];omega
theorem Held.mem(h:Held n rf L){k:Nat}(hk:k∈L):1≤rf k:=by
 have:=List.count_pos_iff.2 hk;rw[h.2 k (h.1 k hk)];omega
theorem Held.le(h:Held n rf L){k:Nat}(hk:k<n):rf k≤L.length:=by
 have:=List.count_le_length (a:=k) (l:=L);rw[h.2 k hk];omega
theorem used_far(f:Nat→Int)(a:Nat)(x:Int):∀ n:Nat,n≤a→used n (updP f a x)=used n f
 | 0,_=>rfl
 | n+1,h=>by rw[used_succ,used_succ,used_far f a x n (by omega),updP_other _ _ (by omega)]
theorem used_upd(f:Nat→Int)(a:Nat)(x:Int):∀ n:Nat,a<n→used n (updP f a x)+(if 0<f a then 1 else 0)=used n f+(if 0<x then 1 else 0)
 | 0,h=>by omega
 | n+1,h=>by
  rw[used_succ,used_succ];by_cases e:a=n
  ·subst e
   rw[used_far f a x a (Nat.le_refl _),updP_same];omega
  ·rw[updP_other _ _ (Ne.symm e)]
   have:=used_upd f a x n (by omega);omega
theorem used_zero(f:Nat→Int):∀ n:Nat,(∀ k,k<n→f k=0)→used n f=0
 | 0,_=>rfl
 | n+1,h=>by rw[used_succ,used_zero f n (fun k hk=>h k (by omega)),h n (by omega)];rfl
theorem Held.used_le:∀(L:List Nat) {rf:Nat→Int},Held n rf L→used n rf≤L.length
 | [],rf,h=>by rw[used_zero rf n (fun k hk=>by rw[h.2 k hk];rfl)];exact Nat.zero_le _
 | k::L,rf,h=>by
  have h1:=Held.used_le L h.sub;have h2:=used_upd rf k (rf k-1) n (h.1 k List.mem_cons_self);rw[List.length_cons];split at h2<;>split at h2<;>omega
theorem least{P:Nat→Prop}(hP:∀ k,P k∨¬ P k):∀ n:Nat,(∃ k,k<n∧P k)→∃ k,k<n∧P k∧∀ j,j<k→¬ P j
 | 0,⟨k,hk,_⟩=>by omega
 | n+1,⟨k,hk,h⟩=>by
  by_cases e:∃ j,j<n∧P j
  ·obtain⟨j,h1,h2,h3⟩:=least hP n e
   exact⟨j,by omega,h2,h3⟩
  ·obtain rfl:k=n:=by
    rcases Nat.lt_or_ge k n with h9|h9
    ·exact absurd ⟨k,h9,h⟩ e
    ·omega
   exact⟨k,hk,h,fun j hj hp=>e ⟨j,hj,hp⟩⟩
theorem used_all(f:Nat→Int):∀ n:Nat,(∀ k,k<n→0<f k)→used n f=n
 | 0,_=>rfl
 | n+1,h=>by rw[used_succ,used_all f n (fun k hk=>h k (by omega)),if_pos (h n (by omega))]
theorem free_some(h:Held n rf L)(hu:used n rf<n):∃ k,k<n∧rf k=0∧∀ j,j<k→rf j≠0:=by
 refine least (fun k=>Int.decEq (rf k) 0 |>.em) n ?_;apply Classical.byContradiction;intro hn;have:=used_all rf n (fun k hk=>by
  have:=h.pos hk;rcases Int.lt_or_eq_of_le this with h1|h1
  ·exact h1
  ·exact absurd ⟨k,hk,h1.symm⟩ hn)
 omega
theorem Held.none_free(h:Held n rf L)(hu:n≤used n rf):∀ j,j<n→rf j≠0:=by
 intro j hj h0;have h1:=used_upd rf j 1 n hj;have h2:=Proofs.YtffcefoadaogbaaGreat.used_le n (updP rf j 1);rw[h0,if_neg (by decide),if_pos (by decide)]at h1;omega
end
structure Pic where
 id:Nat
 bl:Nat
 pg:List Nat
def refsOf(ps:List Pic):List Nat:=ps.flatMap Pic.pg
def cellOf(vs:Nat→Nat→Int)(p:Pic)(i:Nat):Int:=vs (p.pg.getD (i / 8) 0) (i % 8)
def gameOf(vs:Nat→Nat→Int)(p:Pic):List Int:=(List.range 32).map (cellOf vs p)
structure Pics(n:Nat)(rf:Nat→Int)(ps:List Pic)(last:Nat):Prop where
 held:Held n rf (refsOf ps)
 four:∀ p∈ps,p.pg.length=4
 ids:(ps.map Pic.id).Nodup
 low:∀ p∈ps,p.id≤last
 bls:(ps.map Pic.bl).Nodup
theorem gameOf_len(vs:Nat→Nat→Int)(p:Pic):(gameOf vs p).length=32:=by simp[gameOf]
theorem gameOf_get(vs:Nat→Nat→Int)(p:Pic){i:Nat}(hi:i<32):(gameOf vs p)[i]?=some (cellOf vs p i):=by
 unfold gameOf;rw[List.getElem?_map,List.getElem?_range hi];rfl
theorem count_two{l:List Nat}{k i j:Nat}(hi:l[i]?=some k)(hj:l[j]?=some k)(h:i<j):2≤l.count k:=by
 rw[← List.take_append_drop j l,List.count_append];have h1:0<(l.take j).count k:=List.count_pos_iff.2 (List.mem_iff_getElem?.2 ⟨i,by rw[List.getElem?_take,if_pos h];exact hi⟩);have h2:0<(l.drop j).count k:=List.count_pos_iff.2 (List.mem_iff_getElem?.2 ⟨0,by rw[List.getElem?_drop];exact hj⟩);omega
section
variable {n last:Nat} {rf:Nat→Int} {ps:List Pic} {vs:Nat→Nat→Int} {p q:Pic} {s s' k:Nat}
theorem refsOf_app(a b:List Pic):refsOf (a++b)=refsOf a++refsOf b:=by simp[refsOf]
theorem refsOf_cons(a:Pic)(b:List Pic):refsOf (a::b)=a.pg++refsOf b:=by simp[refsOf]
theorem mem_refs(hq:q∈ps)(hs:q.pg[s]?=some k):k∈refsOf ps:=List.mem_flatMap.2 ⟨q,hq,List.mem_iff_getElem?.2 ⟨s,hs⟩⟩
theorem refs_len(h:∀ p∈ps,p.pg.length=4):(refsOf ps).length=4*ps.length:=by
 induction ps with
 | nil=>rfl
 | cons a b ih=>rw[refsOf_cons,List.length_append,h a List.mem_cons_self,ih (fun p hp=>h p (List.mem_cons_of_mem _ hp)),List.length_cons];omega
theorem Pics.alone(h:Pics n rf ps last)(hp:p∈ps)(hs:p.pg[s]?=some k)(h1:rf k≤1)(hq:q∈ps)(hs':q.pg[s']?=some k):q=p∧s'=s:=by
 have hkn:=h.held.1 k (mem_refs hp hs);obtain⟨l1,l2,rfl⟩:=List.append_of_mem hp;have hc:=h.held.2 k hkn;rw[refsOf_app,refsOf_cons,List.count_append,List.count_append]at hc;have hpos:0<p.pg.count k:=List.count_pos_iff.2 (List.mem_iff_getElem?.2 ⟨s,hs⟩);have e1:(refsOf l1).count k=0:=by omega
 have e2:(refsOf l2).count k=0:=by omega
 have e3:p.pg.count k=1:=by omega
 have hqp:q=p:=by
  rcases List.mem_append.1 hq with h9|h9
  ·have:=List.count_pos_iff.2 (mem_refs h9 hs');omega
  ·rcases List.mem_cons.1 h9 with rfl|h9
   ·rfl
   ·have:=List.count_pos_iff.2 (mem_refs h9 hs');omega
 subst hqp;refine⟨rfl,?_⟩;rcases Nat.lt_trichotomy s s' with h9|h9|h9
 ·have:=count_two hs hs' h9;omega
 ·exact h9.symm
 ·have:=count_two hs' hs h9;omega
theorem Pics.slot(h:Pics n rf ps last)(hp:p∈ps){i:Nat}(hi:i<32):∃ k,p.pg[i / 8]?=some k∧p.pg.getD (i / 8) 0=k∧k<n∧1≤rf k:=by
 have h4:=h.four p hp;have hlt:i / 8<p.pg.length:=by omega
 have hm:=mem_refs hp (List.getElem?_eq_getElem hlt);exact⟨p.pg[i / 8],List.getElem?_eq_getElem hlt,by rw[List.getD_eq_getElem?_getD,List.getElem?_eq_getElem hlt];rfl,h.held.1 _ hm,h.held.mem hm⟩
theorem gameOf_congr{vs vs':Nat→Nat→Int}{p p':Pic}(h:∀ i,i<32→cellOf vs p i=cellOf vs' p' i):gameOf vs p=gameOf vs' p':=List.map_congr_left fun i hi=>h i (List.mem_range.1 hi)
theorem Pics.set_same(h:Pics n rf ps last)(hp:p∈ps){i:Nat}(hi:i<32)(hs:p.pg[i / 8]?=some k)(h1:rf k≤1)(x:Int):gameOf (updP vs k (updP (vs k) (i % 8) x)) p=(gameOf vs p).set i x:=by
 apply List.ext_getElem?;intro j;rw[List.getElem?_set,gameOf_len];by_cases hj:j<32
 ·rw[gameOf_get _ _ hj,gameOf_get _ _ hj]
  obtain⟨k',h2,h3,_,_⟩:=h.slot hp hj;unfold cellOf;rw[h3];by_cases e:i=j
  ·subst e
   rw[if_pos rfl,if_pos hj];rw[hs]at h2;cases h2
   rw[updP_same,updP_same]
  ·rw[if_neg e]
   by_cases e2:k'=k
   ·subst e2
    have:=(h.alone hp hs h1 hp h2).2;rw[updP_same,updP_other _ _ (by omega)]
   ·rw[updP_other _ _ e2]
 ·have e1:∀ vs,(gameOf vs p)[j]?=none:=fun vs=>List.getElem?_eq_none (by rw[gameOf_len];omega)
  rw[e1,e1,if_neg (by omega)]
theorem Pics.set_other(h:Pics n rf ps last)(hp:p∈ps)(hs:p.pg[s]?=some k)(h1:rf k≤1)(hq:q∈ps)(hne:q≠p)(u:Nat→Int):gameOf (updP vs k u) q=gameOf vs q:=gameOf_congr fun i hi=>by
 obtain⟨k',h2,h3,_,_⟩:=h.slot hq hi;unfold cellOf;rw[h3,updP_other];rintro rfl;exact hne (h.alone hp hs h1 hq h2).1
theorem Pics.set_free(h:Pics n rf ps last)(h0:rf k=0)(hq:q∈ps)(u:Nat→Int):gameOf (updP vs k u) q=gameOf vs q:=gameOf_congr fun i hi=>by
 obtain⟨k',h2,h3,_,h5⟩:=h.slot hq hi;unfold cellOf;rw[h3,updP_other];rintro rfl;omega
end
theorem eq_of_id:∀ {ps:List Pic},(ps.map Pic.id).Nodup→∀ {p q:Pic},p∈ps→q∈ps→p.id=q.id→p=q
 | [],_,p,q,hp,_,_=>by simp at hp
 | a::b,h,p,q,hp,hq,e=>by
  rw[List.map_cons,List.nodup_cons]at h;rcases List.mem_cons.1 hp with rfl|hp2<;>rcases List.mem_cons.1 hq with rfl|hq2
  ·rfl
  ·exact absurd (show p.id∈b.map Pic.id from List.mem_map.2 ⟨q,hq2,e.symm⟩) h.1
  ·exact absurd (show q.id∈b.map Pic.id from List.mem_map.2 ⟨p,hp2,e⟩) h.1
  ·exact eq_of_id h.2 hp2 hq2 e
theorem eq_of_bl:∀ {ps:List Pic},(ps.map Pic.bl).Nodup→∀ {p q:Pic},p∈ps→q∈ps→p.bl=q.bl→p=q
 | [],_,p,q,hp,_,_=>by simp at hp
 | a::b,h,p,q,hp,hq,e=>by
  rw[List.map_cons,List.nodup_cons]at h;rcases List.mem_cons.1 hp with rfl|hp2<;>rcases List.mem_cons.1 hq with rfl|hq2
  ·rfl
  ·exact absurd (show p.bl∈b.map Pic.bl from List.mem_map.2 ⟨q,hq2,e.symm⟩) h.1
  ·exact absurd (show q.bl∈b.map Pic.bl from List.mem_map.2 ⟨p,hp2,e⟩) h.1
  ·exact eq_of_bl h.2 hp2 hq2 e
def delP(ps:List Pic)(x:Nat):List Pic:=ps.filter fun q=>q.id != x
def putP(ps:List Pic)(x s j:Nat):List Pic:=ps.map fun q=>if q.id=x then {q with pg:=q.pg.set s j} else q
section
variable {n last:Nat} {rf:Nat→Int} {ps:List Pic} {vs:Nat→Nat→Int} {p q:Pic} {s j k:Nat}
theorem mem_delP{x:Nat}:q∈delP ps x↔q∈ps∧q.id≠x:=by simp[delP,List.mem_filter]
theorem filter_ids:∀ {l:List Pic} {x:Nat},x∉l.map Pic.id→l.filter (fun q=>q.id != x)=l
 | [],_,_=>rfl
 | a::b,x,h=>by
  rw[List.map_cons,List.mem_cons,not_or]at h;rw[List.filter_cons_of_pos (by simpa using fun e=>h.1 e.symm),filter_ids h.2]
theorem delP_split{l1 l2:List Pic}(h:((l1++p::l2).map Pic.id).Nodup):delP (l1++p::l2) p.id=l1++l2:=by
 rw[List.map_append,List.map_cons,List.nodup_append]at h;obtain⟨_,h2,h3⟩:=h;rw[List.nodup_cons]at h2;unfold delP;rw[List.filter_append,List.filter_cons_of_neg (by simp),filter_ids (fun hm=>h3 _ hm _ List.mem_cons_self rfl),filter_ids h2.1]
theorem putP_off{x:Nat}:∀ {l:List Pic},x∉l.map Pic.id→putP l x s j=l
 | [],_=>rfl
 | a::b,h=>by
  rw[List.map_cons,List.mem_cons,not_or]at h;have:=putP_off h.2;unfold putP at this ⊢;rw[List.map_cons,if_neg (fun e=>h.1 e.symm),this]
theorem putP_split{l1 l2:List Pic}(h:((l1++p::l2).map Pic.id).Nodup):putP (l1++p::l2) p.id s j=l1++{p with pg:=p.pg.set s j}::l2:=by
 rw[List.map_append,List.map_cons,List.nodup_append]at h;obtain⟨_,h2,h3⟩:=h;rw[List.nodup_cons]at h2;have e1:=putP_off (s:=s) (j:=j) (fun hm=>h3 _ hm _ List.mem_cons_self rfl:p.id∉l1.map Pic.id);have e2:=putP_off (s:=s) (j:=j) h2.1;unfold putP at *;rw[List.map_append,List.map_cons,e1,e2,if_pos rfl]
theorem refs_split{l1 l2:List Pic}:(refsOf (l1++p::l2)).Perm (p.pg++refsOf (l1++l2)):=by
 rw[refsOf_app,refsOf_cons,refsOf_app,← List.append_assoc,← List.append_assoc];exact List.Perm.append_right _ List.perm_append_comm
theorem Pics.new_(n:Nat):Pics n (fun _=>0) [] 0:=⟨Held.nil_ n,fun p hp=>by simp at hp,by simp,fun p hp=>by simp at hp,by simp⟩
theorem Pics.add(h:Pics n rf ps last){rf':Nat→Int}{pg:List Nat}{b:Nat}(hh:Held n rf' (pg++refsOf ps))(h4:pg.length=4)(hb:∀ p∈ps,p.bl≠b):Pics n rf' (ps++[⟨last+1,b,pg⟩]) (last+1):=by
 refine⟨hh.perm ?_,fun p hp=>?_,?_,fun p hp=>?_,?_⟩
 ·rw[refsOf_app,refsOf_cons]
  simpa [refsOf] using List.perm_append_comm
 ·rcases List.mem_append.1 hp with hp|hp
  ·exact h.four p hp
  ·rw[List.mem_singleton.1 hp];exact h4
 ·rw[List.map_append,List.nodup_append]
  refine⟨h.ids,by simp,fun a ha b' hb' e=>?_⟩;obtain⟨p,hp,rfl⟩:=List.mem_map.1 ha;have:=h.low p hp;simp at hb'
  omega
 ·rcases List.mem_append.1 hp with hp|hp
  ·have:=h.low p hp;omega
  ·rw[List.mem_singleton.1 hp];exact Nat.le_refl _
 ·rw[List.map_append,List.nodup_append]
  refine⟨h.bls,by simp,fun a ha b' hb' e=>?_⟩;obtain⟨p,hp,rfl⟩:=List.mem_map.1 ha;simp at hb'
  exact hb p hp (e.trans hb')
theorem Pics.put(h:Pics n rf ps last)(hp:p∈ps)(hs:p.pg[s]?=some k)(hj:j<n)(h0:rf j=0):Pics n (updP (updP rf j 1) k (updP rf j 1 k-1)) (putP ps p.id s j) last:=by
 have hkj:k≠j:=fun e=>by have:=h.held.mem (mem_refs hp hs);rw[e,h0]at this;omega
 obtain⟨l1,l2,rfl⟩:=List.append_of_mem hp;have hh:=(h.held.take hj h0);have hlt:=(List.getElem?_eq_some_iff.1 hs).1;obtain⟨a,c,hpg,hset⟩:∃ a c,p.pg=a++k::c∧p.pg.set s j=a++j::c:=by
  refine⟨p.pg.take s,p.pg.drop (s+1),?_,?_⟩
  ·rw[List.getElem?_eq_getElem hlt]at hs
   cases hs
   rw[List.getElem_cons_drop,List.take_append_drop]
  ·rw[List.set_eq_take_append_cons_drop,if_pos hlt]
 rw[putP_split h.ids];refine⟨?_,fun q hq=>?_,?_,fun q hq=>?_,?_⟩
 ·refine Held.sub (k:=k) (hh.perm ?_)
  rw[refsOf_app,refsOf_cons,refsOf_app,refsOf_cons,hset,hpg];simp only[List.append_assoc,List.cons_append];rw[List.perm_iff_count];intro x;simp only[List.count_append,List.count_cons];omega
 ·rcases List.mem_append.1 hq with hq|hq
  ·exact h.four q (List.mem_append_left _ hq)
  ·rcases List.mem_cons.1 hq with rfl|hq
   ·simp only[List.length_set];exact h.four p hp
   ·exact h.four q (List.mem_append_right _ (List.mem_cons_of_mem _ hq))
 ·have:=h.ids
  simpa using this
 ·rcases List.mem_append.1 hq with hq|hq
  ·exact h.low q (List.mem_append_left _ hq)
  ·rcases List.mem_cons.1 hq with rfl|hq
   ·exact h.low p hp
   ·exact h.low q (List.mem_append_right _ (List.mem_cons_of_mem _ hq))
 ·have:=h.bls
  simpa using this
theorem gameOf_put(hs:p.pg[s]?=some k)(hlen:p.pg.length=4){vs:Nat→Nat→Int}(hj:∀ i,i<32→p.pg.getD (i / 8) 0≠j):gameOf (updP vs j (vs k)) {p with pg:=p.pg.set s j}=gameOf vs p:=gameOf_congr fun i hi=>by
 have hlt:=(List.getElem?_eq_some_iff.1 hs).1;unfold cellOf;simp only[List.getD_eq_getElem?_getD,List.getElem?_set]at hj ⊢;by_cases e:s=i / 8
 ·subst e
  rw[if_pos rfl,if_pos hlt,hs];simp[updP_same]
 ·rw[if_neg e,updP_other _ _ (hj i hi)]
end
def ent(p:Pic):Lit×DataW Nat:=(.int .i64 (p.id:Nat),.lit (.int .i64 (p.bl:Nat)))
def picR:Value→Option (DataW Nat×List MemPlace)
 | .pointer none=>some (.nil,[])
 | .pointer (some ⟨b,0,none⟩)=>some (.lit (.int .i64 (b:Nat)),[])
 | _=>none
theorem picR_ptr(b:Nat):picR (ptrV b)=some (.lit (.int .i64 (b:Nat)),[]):=rfl
theorem picR_inv{v:Value}{b:Nat}{l:List MemPlace}(h:picR v=some (.lit (.int .i64 (b:Nat)),l)):v=ptrV b:=by
 unfold picR at h;split at h
 ·cases h
 ·injection h with h
  injection h with h _
  injection h with h
  injection h with _ h
  obtain rfl:_=b:=Int.ofNat.inj h;rfl
 ·cases h
def DM(D:DataW Nat)(ps:List Pic):Prop:=∃ es,D = .map es∧es.Perm (ps.map ent)
section
variable {D:DataW Nat} {ps:List Pic} {p:Pic} {x:Nat}
theorem DM.nil_:DM (.map []) []:=⟨[],rfl,.nil⟩
theorem DM.size(h:DM D ps):Maps.size D=ps.length:=by
 obtain⟨es,rfl,hp⟩:=h;rw[Maps.size_eq,hp.length_eq,List.length_map]
theorem ent_key{x y:Nat}(h:(Lit.int .i64 (x:Int)) = .int .i64 (y:Int)):x=y:=by injection h with _ h;omega
theorem isKey(x:Nat):WideAt.IsKeyLit (.int .i64 (x:Int)):=by simp[WideAt.IsKeyLit]
theorem DM.has_not(h:DM D ps)(hx:x∉ps.map Pic.id):Maps.has D (.int .i64 (x:Nat))=false:=by
 obtain⟨es,rfl,hpm⟩:=h;rw[Maps.has_eq,List.any_eq_false];intro q hq hk;obtain⟨p,hp,rfl⟩:=List.mem_map.1 (hpm.mem_iff.1 hq);exact hx (List.mem_map.2 ⟨p,hp,ent_key (WideAt.sameKey_eq hk)⟩)
theorem DM.at_(h:DM D ps)(hn:(ps.map Pic.id).Nodup)(hp:p∈ps)(z:DataW Nat):D.atKey (.int .i64 (p.id:Nat)) z = .lit (.int .i64 (p.bl:Nat)):=by
 obtain⟨es,rfl,hpm⟩:=h;refine WideAt.atKey_mem z (isKey _) ?_ (hpm.mem_iff.2 (List.mem_map.2 ⟨p,hp,rfl⟩));refine(hpm.pairwise_iff (R:=fun a b=>a.1≠b.1) (fun {a b} h=>h.symm)).2 ?_;rw[List.pairwise_map];rw[List.Nodup,List.pairwise_map]at hn;exact hn.imp fun {a b} h e=>h (ent_key e)
theorem DM.put_(h:DM D ps){b:Nat}{pg:List Nat}(hx:x∉ps.map Pic.id):DM (D.put (.int .i64 (x:Nat)) (.lit (.int .i64 (b:Nat)))) (ps++[⟨x,b,pg⟩]):=by
 have hh:=h.has_not hx;obtain⟨es,rfl,hpm⟩:=h;refine⟨_,rfl,(WideShapes.insert_perm _ _).trans ?_⟩;rw[List.filter_eq_self.2 (fun p hp=>by simpa using (List.any_eq_false.1 hh) p hp),List.map_append];exact(List.Perm.cons _ hpm).trans (List.perm_append_comm (l₁:=[ent ⟨x,b,pg⟩]))
theorem DM.del_(h:DM D ps)(x:Nat):DM (D.del (.int .i64 (x:Nat))) (delP ps x):=by
 obtain⟨es,rfl,hpm⟩:=h;refine⟨_,rfl,(hpm.filter _).trans ?_⟩;unfold delP;rw[List.filter_map];apply List.Perm.of_eq;congr 1
 apply List.filter_congr;intro p _;show(!(Lit.int .i64 (p.id:Int)).sameKey (.int .i64 (x:Int)))=(p.id != x)
 by_cases e:p.id=x
 ·subst e
  rw[WideAt.sameKey_self (isKey _)];simp
 ·rw[Maps.sameKey_ne (fun h=>e (ent_key h))]
  simp[e]
end
theorem cell_blk{w w':World}{g o:Nat}(e:w'.heap[g]?=w.heap[g]?):w'.cell? ⟨g,o,none⟩=w.cell? ⟨g,o,none⟩:=by simp only[World.cell?,e]
theorem frozen_blk{w w':World}{g o:Nat}(e:w'.heap[g]?=w.heap[g]?):w'.frozen? ⟨g,o,none⟩=w.frozen? ⟨g,o,none⟩:=by simp only[World.frozen?,e]
theorem Room.of_blocks{w w':World}{b g n:Nat}{rf:Nat→Int}{vs:Nat→Nat→Int}(h:Room w b g n rf vs)(hb:w'.heap[b]?=w.heap[b]?)(hg:w'.heap[g]?=w.heap[g]?)(hs:w.heap.size≤w'.heap.size):Room w' b g n rf vs :=
 ⟨h.ne,(cell_blk hb).trans h.hd,h.small,fun k hk=>(cell_blk hg).trans (h.refs k hk),fun k i hk hi=>(cell_blk hg).trans (h.vals k i hk hi),fun o=>(frozen_blk hg).trans (h.free o),Nat.lt_of_lt_of_le h.lt hs⟩
theorem Room.ltb{w:World}{b g n:Nat}{rf:Nat→Int}{vs:Nat→Nat→Int}(h:Room w b g n rf vs):b<w.heap.size:=World.block_lt_of_cell? w _ h.hd
theorem Room.turn{w w':World}{T T':Tg}{S:Nat→Prop}{b g n:Nat}{rf:Nat→Int}{vs:Nat→Nat→Int}(h:Room w b g n rf vs)(hT:Turn S w T w' T')(hb:¬ S (T b))(hg:¬ S (T g)):Room w' b g n rf vs :=
 h.of_blocks (hT.block b h.ltb hb) (hT.block g h.lt hg) hT.size
def picC(p:Pic):List Value:=p.pg.map (fun k:Nat=>Value.int .i64 ((k:Int)+1))++[.int .i64 1]
def storeC(rb mb last:Nat):List Value:=[ptrV rb,.map (some mb),.int .i64 (last:Nat)]
structure StoreMid(w:World)(T:Tg)(t b rb g mb n:Nat)(rf:Nat→Int)(vs:Nat→Nat→Int)(pm ps:List Pic)(last:Nat):Prop where
 hd:Has w T t b (storeC rb mb last)
 tm:T mb=t+1
 tr:T rb=t+2
 tg:T g=t+3
 map_:∃ D,w.ownsMap prog 110 picR mb pm.length D∧DM D pm
 room:Room w rb g n rf vs
 pics:∀ p∈ps,Has w T (t+4) p.bl (picC p)
abbrev StoreIn(w:World)(T:Tg)(t b rb g mb n:Nat)(rf:Nat→Int)(vs:Nat→Nat→Int)(ps:List Pic)(last:Nat):Prop:=StoreMid w T t b rb g mb n rf vs ps ps last
section
variable {w w':World} {T T':Tg} {t b rb g mb n last:Nat} {rf:Nat→Int} {vs:Nat→Nat→Int} {pm ps:List Pic}
theorem ownsMap_block{P:Program}{k:TypeId}{R:Value→Option (DataW Nat×List MemPlace)}{b n:Nat}{D:DataW Nat}(h:w.ownsMap P k R b n D)(e:w'.heap[b]?=w.heap[b]?):w'.ownsMap P k R b n D:=by
 obtain⟨es,clock,hb,F,hs,hD⟩:=h;exact⟨es,clock,e.trans hb,F,hs,hD⟩
theorem ownsMap_tight{P:Program}{k:TypeId}{R:Value→Option (DataW Nat×List MemPlace)}{b n:Nat}{D:DataW Nat}(h:w.ownsMap P k R b n D):w.ownsMap P k R b (Maps.size D) D:=by
 obtain⟨es,clock,hb,F,hs,rfl⟩:=h;refine⟨es,clock,hb,F,?_,rfl⟩;simp[Maps.size,length_sorted]
theorem StoreMid.turn{S:Nat→Prop}(h:StoreMid w T t b rb g mb n rf vs pm ps last)(hT:Turn S w T w' T')(hs:∀ k,In t 5 k→¬ S k):StoreMid w' T' t b rb g mb n rf vs pm ps last:=by
 obtain⟨D,h1,h2⟩:=h.map_;have i0:In t 5 t:=by unfold In;omega
 have i1:In t 5 (t+1):=by unfold In;omega
 have i2:In t 5 (t+2):=by unfold In;omega
 have i3:In t 5 (t+3):=by unfold In;omega
 have i4:In t 5 (t+4):=by unfold In;omega
 exact⟨h.hd.turn hT (hs _ i0),(hT.tag mb h1.lt).trans h.tm,(hT.tag rb h.room.ltb).trans h.tr,(hT.tag g h.room.lt).trans h.tg,⟨D,ownsMap_block h1 (hT.block mb h1.lt (by rw[h.tm];exact hs _ i1)),h2⟩,h.room.turn hT (by rw[h.tr];exact hs _ i2) (by rw[h.tg];exact hs _ i3),fun p hp=>(h.pics p hp).turn hT (hs _ i4)⟩
theorem StoreMid.ext(h:StoreMid w T t b rb g mb n rf vs pm ps last)(e:Ext w w'):StoreMid w' T t b rb g mb n rf vs pm ps last:=by
 obtain⟨D,h1,h2⟩:=h.map_;exact⟨h.hd.ext e,h.tm,h.tr,h.tg,⟨D,ownsMap_block h1 (e.block mb h1.lt),h2⟩,h.room.ext e,fun p hp=>(h.pics p hp).ext e⟩
theorem StoreMid.left(h:StoreMid w T t b rb g mb n rf vs pm ps last)(ht:0<t){rf':Nat→Int}{vs':Nat→Nat→Int}(hr:Room w' rb g n rf' vs')(hg:w.grownBy w' (some g)):StoreMid w' T t b rb g mb n rf' vs' pm ps last:=by
 obtain⟨D,h1,h2⟩:=h.map_;have hne:∀ {x tt:Nat},T x=tt→tt≠t+3→some g≠some x:=fun hx hn e=>hn (by rw[← hx,← Option.some.inj e];exact h.tg);exact⟨h.hd.grown hg (hne h.hd.1 (by omega)),h.tm,h.tr,h.tg,⟨D,ownsMap_block h1 (hg.block mb h1.lt (fun e=>hne h.tm (by omega) e.symm)),h2⟩,hr,fun p hp=>(h.pics p hp).grown hg (hne (h.pics p hp).1 (by omega))⟩
theorem StoreMid.turned(h:StoreMid w T t b rb g mb n rf vs pm ps last)(hu:Unborn w T)(hg:w.grownBy w' (some g)):Turn (In t 5) w T w' T:=Turn.of_grown hu hg fun k hk=>by cases hk;rw[h.tg];unfold In;omega
theorem StoreMid.putLast(h:StoreMid w T t b rb g mb n rf vs pm ps last)(hu:Unborn w T)(x:Nat):Turn (· = t) w T (w.setCell ⟨b,2,none⟩ (.int .i64 (x:Nat))) T∧StoreMid (w.setCell ⟨b,2,none⟩ (.int .i64 (x:Nat))) T t b rb g mb n rf vs pm ps x:=by
 obtain⟨D,h1,h2⟩:=h.map_;obtain⟨hT,hH⟩:=h.hd.put (S:=(· = t)) hu 2 (.int .i64 (x:Nat)) rfl;have n1:∀ {y tt:Nat},T y=tt→tt≠t→¬ (T y=t):=fun h1 h2 h3=>h2 (h1.symm.trans h3);exact⟨hT,hH,h.tm,h.tr,h.tg,⟨D,ownsMap_block h1 (hT.block mb h1.lt (n1 h.tm (by omega))),h2⟩,h.room.turn hT (n1 h.tr (by omega)) (n1 h.tg (by omega)),fun p hp=>(h.pics p hp).turn hT (by omega)⟩
theorem StoreMid.other(h:StoreMid w T t b rb g mb n rf vs pm ps last){a:Addr}(ha:T a.block=t+4)(hn:∀ p∈ps,p.bl≠a.block)(v:Value):StoreMid (w.setCell a v) T t b rb g mb n rf vs pm ps last:=by
 obtain⟨D,h1,h2⟩:=h.map_;have n1:∀ {y tt:Nat},T y=tt→tt≠t+4→a.block≠y:=fun h1 h2 h3=>h2 (h1.symm.trans (h3▸ha));have hb:∀ {y:Nat},a.block≠y→(w.setCell a v).heap[y]?=w.heap[y]?:=fun hne=>Below.heap_setCell w a v _ (fun e=>hne e.symm);exact⟨h.hd.set_other (n1 h.hd.1 (by omega)) v,h.tm,h.tr,h.tg,⟨D,ownsMap_block h1 (hb (n1 h.tm (by omega))),h2⟩,h.room.of_blocks (hb (n1 h.tr (by omega))) (hb (n1 h.tg (by omega))) (by simp[World.setCell]),fun p hp=>(h.pics p hp).set_other (fun e=>hn p hp e.symm) v⟩
theorem StoreMid.fewer(h:StoreMid w T t b rb g mb n rf vs pm ps last){ps':List Pic}(hs:∀ p∈ps',p∈ps):StoreMid w T t b rb g mb n rf vs pm ps' last:=⟨h.hd,h.tm,h.tr,h.tg,h.map_,h.room,fun p hp=>h.pics p (hs p hp)⟩
theorem StoreMid.map(h:StoreMid w T t b rb g mb n rf vs pm ps last)(ht:0<t){D:DataW Nat}{pm':List Pic}(hm:w'.ownsMap prog 110 picR mb pm'.length D)(hD:DM D pm')(hg:w.grownBy w' (some mb)):StoreMid w' T t b rb g mb n rf vs pm' ps last:=by
 have hne:∀ {x tt:Nat},T x=tt→tt≠t+1→some mb≠some x:=fun hx hn e=>hn (by rw[← hx,← Option.some.inj e];exact h.tm);exact⟨h.hd.grown hg (hne h.hd.1 (by omega)),h.tm,h.tr,h.tg,⟨D,hm,hD⟩,h.room.of_blocks (hg.block rb h.room.ltb (fun e=>hne h.tr (by omega) e.symm)) (hg.block g h.room.lt (fun e=>hne h.tg (by omega) e.symm)) hg.size,fun p hp=>(h.pics p hp).grown hg (hne (h.pics p hp).1 (by omega))⟩
theorem StoreMid.turnedM(h:StoreMid w T t b rb g mb n rf vs pm ps last)(hu:Unborn w T)(hg:w.grownBy w' (some mb)):Turn (In t 5) w T w' T:=Turn.of_grown hu hg fun k hk=>by cases hk;rw[h.tm];unfold In;omega
theorem picC_set(p:Pic){s:Nat}(hs:s<p.pg.length)(j:Nat):(picC p).set s (.int .i64 ((j:Int)+1))=picC {p with pg:=p.pg.set s j}:=by
 unfold picC;rw[List.set_append_left _ _ (by simpa using hs),List.map_set]
theorem StoreIn.putPage(h:StoreIn w T t b rb g mb n rf vs ps last){rf0:Nat→Int}(ho:Pics n rf0 ps last)(hu:Unborn w T){p:Pic}(hp:p∈ps){s j:Nat}(hs:s<4):Turn (· = t+4) w T (w.setCell ⟨p.bl,s,none⟩ (.int .i64 ((j:Int)+1))) T∧StoreIn (w.setCell ⟨p.bl,s,none⟩ (.int .i64 ((j:Int)+1))) T t b rb g mb n rf vs (putP ps p.id s j) last:=by
 obtain⟨hT,hH⟩:=(h.pics p hp).put (S:=(· = t+4)) hu s (.int .i64 ((j:Int)+1)) rfl;rw[picC_set p (by rw[ho.four p hp];exact hs)]at hH;have hm:StoreMid (w.setCell ⟨p.bl,s,none⟩ (.int .i64 ((j:Int)+1))) T t b rb g mb n rf vs ps (delP ps p.id) last :=
  (h.fewer (ps':=delP ps p.id) fun q hq=>(mem_delP.1 hq).1).other (a:=⟨p.bl,s,none⟩) (h.pics p hp).1 (fun q hq e=>by
   have:=mem_delP.1 hq;exact this.2 (by rw[eq_of_bl ho.bls this.1 hp e])) _
 obtain⟨D,h1,es,h2,h3⟩:=hm.map_;have hmap:(putP ps p.id s j).map ent=ps.map ent:=by
  unfold putP;rw[List.map_map];apply List.map_congr_left;intro q _;simp only[Function.comp];split<;>rfl
 refine⟨hT,hm.hd,hm.tm,hm.tr,hm.tg,⟨D,?_,es,h2,by rw[hmap];exact h3⟩,hm.room,fun q hq=>?_⟩
 ·rw[show(putP ps p.id s j).length=ps.length by simp[putP]];exact h1
 ·obtain⟨q',hq',rfl⟩:=List.mem_map.1 hq
  by_cases e:q'.id=p.id
  ·obtain rfl:=eq_of_id ho.ids hq' hp e
   rw[if_pos rfl];exact hH
  ·rw[if_neg e]
   exact hm.pics q' (mem_delP.2 ⟨hq',e⟩)
def StoreAt(w:World)(T:Tg)(t b n free last:Nat)(gs:List (Nat×List Int)):Prop :=
 ∃ rb g mb rf vs ps,StoreIn w T t b rb g mb n rf vs ps last∧Pics n rf ps last∧free+used n rf=n∧gs=ps.map fun p=>(p.id,gameOf vs p)
theorem StoreAt.turn{S:Nat→Prop}{free:Nat}{gs:List (Nat×List Int)}(h:StoreAt w T t b n free last gs)(hT:Turn S w T w' T')(hs:∀ k,In t 5 k→¬ S k):StoreAt w' T' t b n free last gs:=by
 obtain⟨rb,g,mb,rf,vs,ps,h1,h2⟩:=h;exact⟨rb,g,mb,rf,vs,ps,h1.turn hT hs,h2⟩
theorem StoreAt.ext{free:Nat}{gs:List (Nat×List Int)}(h:StoreAt w T t b n free last gs)(e:Ext w w'):StoreAt w' T t b n free last gs:=by
 obtain⟨rb,g,mb,rf,vs,ps,h1,h2⟩:=h;exact⟨rb,g,mb,rf,vs,ps,h1.ext e,h2⟩
theorem StoreAt.room_{free:Nat}{gs:List (Nat×List Int)}(h:StoreAt w T t b n free last gs):n≤free+4*gs.length:=by
 obtain⟨rb,g,mb,rf,vs,ps,h1,h2,h3,rfl⟩:=h;have:=Held.used_le _ h2.held;rw[refs_len h2.four]at this;rw[List.length_map];omega
end
theorem sym_calls{P:Program}{f:FuncId}{args:Array Value}{w:World}{v:Ending}(h:Calls P f args w fun e w'=>e=v∧w=w'):Calls P f args w fun e w'=>e=v∧w'=w:=h.mono fun _ _ h=>⟨h.1,h.2.symm⟩
theorem wf_id{x:Nat}(h:x<4611686018427387904):(Lit.int .i64 (x:Int)).wf=true:=by
 show(decide ((-9223372036854775808:Int)≤x)&&decide ((x:Int)≤9223372036854775807))=true
 rw[Bool.and_eq_true];exact⟨decide_eq_true (by omega),decide_eq_true (by omega)⟩
section
variable {w w':World} {T T':Tg} {t b rb g mb n last:Nat} {rf:Nat→Int} {vs:Nat→Nat→Int} {ps:List Pic} {p:Pic}
theorem snap_key{x:Nat}(h:x<4611686018427387904):keyOf prog 110 (.int .i64 (x:Nat))=some (.int .i64 (x:Nat)):=Maps.keyOf_int_mk underlying110 (wf_id h)
theorem zero_pic(w:World):(zeroValue 215).run prog w = .ok (.pointer none) w:=by kernel_rfl
theorem snap_look(h:StoreIn w T t b rb g mb n rf vs ps last)(hi:(ps.map Pic.id).Nodup)(hp:p∈ps)(hx:p.id<4611686018427387904):(Instr.lookup 221 (.map (some mb)) (.int .i64 (p.id:Nat)) false).run prog w = .ok (ptrV p.bl) w:=by
 obtain⟨D,h1,h2⟩:=h.map_;obtain⟨v,l,hrun,hv⟩:=h1.lookup (Maps.int_keyed underlying110) underlying221 (zero_pic w) (zd:=.nil) (zp:=[]) rfl (snap_key hx);rw[h2.at_ hi hp]at hv;rw[picR_inv hv]at hrun;exact hrun
theorem snap_at(h:StoreIn w T t b rb g mb n rf vs ps last)(hi:(ps.map Pic.id).Nodup)(hp:p∈ps)(hx:p.id<4611686018427387904):Calls prog 102 #[ptrV b,.int .i64 (p.id:Nat)] w fun e w'=>e = .returned (ptrV p.bl)∧w'=w:=by
 have L:=snap_look h hi hp hx;have c1:=h.hd.cell (i:=1) rfl;unfold ptrV at *;clear h;go_enter func102,ntmps102;go_wp2_with fail;go_ret;exact⟨rfl,rfl⟩
theorem room_free(h:Room w rb g n rf vs):Calls prog 188 #[ptrV rb] w fun e w'=>e = .returned (.int .i64 ((n:Nat)-(used n rf:Nat)))∧Ext w w':=by
 have HU:=hqd fun W (e:Ext w W)=>used_any (h.ext e);have c0:=h.hd;have hs:=h.small;have hu:=used_le n rf;have hw:IntKind.i64.wrap ((n:Int)-(used n rf:Nat))=(n:Int)-(used n rf:Nat):=IntWalk.i64_in _ (by omega);unfold ptrV;clear h;go_enter func188,ntmps188;go_wp2_with fail;apply wrA trivial;repeat apply lxA (fun _ h _=>h.cell c0)
 apply lxC (fun W hR=>HU.out W hR);repeat apply lxA (fun _ h _=>h.cell c0)
 refine lex_nil ?_;intro Wx hWx hΦ;go_wp2_with fail;go_ret;exact⟨rfl,hWx⟩
theorem room_at(h:StoreIn w T t b rb g mb n rf vs ps last):w.cell? ⟨b,0,none⟩=some (ptrV rb):=h.hd.cell (i:=0) rfl
theorem snap_has(h:StoreIn w T t b rb g mb n rf vs ps last)(k:Nat):Calls prog 162 #[ptrV b,.int .i64 (k:Nat)] w fun e w'=>e = .returned (.bool (decide (k+used n rf≤n)))∧Ext w w':=by
 have HF:=hqd (room_free h.room);have c0:=room_at h;have hs:=h.room.small;have hu:=used_le n rf;unfold ptrV at *;clear h;by_cases hk:k+used n rf≤n
 ·have d1:decide ((k:Int)≤(n:Nat)-(used n rf:Nat))=true:=decide_eq_true (by omega)
  rw[decide_eq_true hk];go_enter func162,ntmps162;go_wp2_with fail;refine HF.out.mono ?_;rintro e w1 ⟨rfl,e1⟩;go_wp2_with fail;go_ret;exact⟨rfl,e1⟩
 ·have d1:decide ((k:Int)≤(n:Nat)-(used n rf:Nat))=false:=decide_eq_false (by omega)
  rw[decide_eq_false hk];go_enter func162,ntmps162;go_wp2_with fail;refine HF.out.mono ?_;rintro e w1 ⟨rfl,e1⟩;go_wp2_with fail;go_ret;exact⟨rfl,e1⟩
theorem picC_refs(p:Pic)(h4:p.pg.length=4):(picC p)[4]?=some (.int .i64 1):=by
 unfold picC;rw[List.getElem?_append_right (by simp[h4])];simp[h4]
theorem picC_page(p:Pic){i k:Nat}(h:p.pg[i]?=some k):(picC p)[i]?=some (.int .i64 ((k:Int)+1)):=by
 unfold picC;have:=(List.getElem?_eq_some_iff.1 h).1;rw[List.getElem?_append_left (by simpa using this),List.getElem?_map,h];rfl
theorem snap_refs(h:StoreIn w T t b rb g mb n rf vs ps last)(ho:Pics n rf ps last)(hl:last<4611686018427387904)(hp:p∈ps):Calls prog 113 #[ptrV b,.int .i64 (p.id:Nat)] w fun e w'=>e = .returned (.int .i64 1)∧w'=w:=by
 have HA:=hqd (snap_at h ho.ids hp (Nat.lt_of_le_of_lt (ho.low p hp) hl));have c4:=(h.pics p hp).cell (picC_refs p (ho.four p hp));unfold ptrV at *;clear h ho;go_enter func113,ntmps113;go_wp2_with fail;refine HA.out.mono ?_;rintro e w1 ⟨rfl,rfl⟩;go_wp2_with fail;go_ret;exact⟨rfl,rfl⟩
theorem snap_get(h:StoreIn w T t b rb g mb n rf vs ps last)(ho:Pics n rf ps last)(hl:last<4611686018427387904)(hp:p∈ps){i:Nat}(hi:i<32):Calls prog 298 #[ptrV b,.int .i64 (p.id:Nat),.int .i64 (i:Nat)] w fun e w'=>e = .returned (.tuple #[.int .i32 (cellOf vs p i),.bool true])∧Ext w w':=by
 have HA:=hqd (snap_at h ho.ids hp (Nat.lt_of_le_of_lt (ho.low p hp) hl));have c0:=room_at h;obtain⟨k,h1,h2,h3,h4⟩:=ho.slot hp hi;have c1:=(h.pics p hp).cell (picC_page p h1);have HG:=hqd fun W (e:Ext w W)=>sym_calls (get_yes (h.room.ext e) (pg:=(k:Int)+1) (k:=k) ⟨h3,rfl,by omega⟩ (i:=i % 8) (by omega));have hc:cellOf vs p i=vs k (i % 8):=by unfold cellOf;rw[h2]
 rw[hc];have d1:(i:Int) / 8=((i / 8:Nat):Int):=by omega
 have d2:(i:Int).tmod 8=((i % 8:Nat):Int):=by rw[Int.tmod_eq_emod_of_nonneg (by omega)];omega
 have hb1:i / 8<4:=by omega
 generalize hq:i / 8=q at *;generalize hr:i % 8=r at *;have hbi:((q:Int)<4)=True:=eq_true (by omega);have w1:IntKind.i64.wrap (q:Int)=q:=IntWalk.i64_in _ (by omega);have w2:IntKind.i64.wrap (r:Int)=r:=IntWalk.i64_in _ (by omega);clear hc h1 h2 h ho;unfold ptrV at *;go_enter func298,ntmps298;go_wp2_with fail;refine HA.out.mono ?_;rintro e w1 ⟨rfl,rfl⟩;go_wp2_with fail;apply wrA trivial;repeat apply lxA (fun _ h _=>aj (h.cell c0) (h.cell c1))
 apply lxC (fun W hR=>HG.out W hR);repeat apply lxA (fun _ _ _=>trivial)
 refine lex_nil ?_;intro Wx hWx hΦ;go_wp2_with fail;go_ret2
 exact⟨rfl,hWx⟩
end
section
variable {w w':World} {T T':Tg} {t b rb g mb n last:Nat} {rf:Nat→Int} {vs:Nat→Nat→Int} {ps:List Pic} {p:Pic}
theorem StoreIn.none_new(h:StoreIn w T t b rb g mb n rf vs ps last):∀ p∈ps,p.bl≠w.heap.size:=fun p hp e=>by have:=(h.pics p hp).lt;omega
def Added(w:World)(T:Tg)(t b rb g mb n:Nat)(rf:Nat→Int)(vs:Nat→Nat→Int)(ps:List Pic)(last:Nat)(pg:List Nat)(v:Value)(w':World)(T':Tg):Prop :=
 v = .int .i64 ((last+1:Nat):Int)∧∃ nb,(∀ p∈ps,p.bl≠nb)∧StoreIn w' T' t b rb g mb n rf vs (ps++[⟨last+1,nb,pg⟩]) (last+1)
theorem snap_add(h:StoreIn w T t b rb g mb n rf vs ps last)(hlow:∀ p∈ps,p.id≤last)(hu:Unborn w T)(ht:0<t)(hl:last<4611686018427387903)(hn:ps.length≤1000)(k0 k1 k2 k3:Nat)(r:Int) :
  Calls prog 104 #[ptrV b,.agg #[.int .i64 ((k0:Int)+1),.int .i64 ((k1:Int)+1),.int .i64 ((k2:Int)+1),.int .i64 ((k3:Int)+1),.int .i64 r]] w (Gives (In t 5) w T (Added w T t b rb g mb n rf vs ps last [k0,k1,k2,k3])):=by
 have hx:last+1∉ps.map Pic.id:=fun hm=>by
  obtain⟨p,hp,e⟩:=List.mem_map.1 hm;have:=hlow p hp;omega
 obtain⟨hT0,hH0⟩:=Has.fresh hu [.int .i64 ((k0:Int)+1),.int .i64 ((k1:Int)+1),.int .i64 ((k2:Int)+1),.int .i64 ((k3:Int)+1),.int .i64 r] 219 (t+4);have hS0:=h.turn hT0 (fun k _ h=>h);have hnb:=h.none_new;have hsz:w.heap.size<(w.alloc (.cells #[.int .i64 ((k0:Int)+1),.int .i64 ((k1:Int)+1),.int .i64 ((k2:Int)+1),.int .i64 ((k3:Int)+1),.int .i64 r] 219)).heap.size:=by simp
 unfold ptrV;go_enter func104,ntmps104;go_upto_region 1 with fail
 generalize hT1:give T (one w.heap.size) (t+4)=T1 at *;obtain⟨nb,hnbe⟩:∃ nb,nb=w.heap.size:=⟨_,rfl⟩;rw[← hnbe]at hH0 hnb hsz ⊢;generalize hW0:World.alloc w _=W0 at *;clear hW0 hT1;have HT0:=hqd hT0;have HN:=hqd hnb;have hu0:=hT0.unborn;clear hT0 hnb h hnbe;have c2:=hS0.hd.cell (i:=2) rfl;have f2:=hS0.hd.free 2;obtain⟨hTa,hSa⟩:=hS0.putLast hu0 (last+1);have hcast:((last+1:Nat):Int)=(last:Int)+1:=by omega
 rw[hcast]at hTa hSa;have hPa:=hH0.turn hTa (by omega);have HTa:=hqd hTa;clear hTa hH0 hS0;have hw1:IntKind.i64.wrap ((last:Int)+1)=(last:Int)+1:=IntWalk.i64_in _ (by omega);go_upto_region 2 with fail
 generalize hWa:World.setCell W0 _ _=Wa at *;clear hWa c2 f2;have f1:=hPa.free 4;have e1:=hPa.cell (i:=4) rfl;obtain⟨hTb,hHb⟩:=hPa.put (S:=(· = t+4)) HTa.out.unborn 4 (.int .i64 1) rfl;have hSb:=hSa.other (a:=⟨nb,4,none⟩) hPa.1 (fun p hp=>HN.out p hp) (.int .i64 1);have HTb:=hqd hTb;clear hTb hPa hSa;go_upto_region 3 with fail
 generalize hWb:World.setCell Wa _ _=Wb at *;clear hWb f1 e1;have d1:=hSb.hd.cell (i:=1) rfl;have d2:=hSb.hd.cell (i:=2) rfl;have HS:=hqd hSb;have HB:=hqd hHb;obtain⟨D,hD1,hD2⟩:=hSb.map_;have hkey:=snap_key (x:=last+1) (by omega);clear hSb hHb;apply wrN 8;simp only[tk];repeat apply lxA (fun _ h _=>aj (h.cell d1) (h.cell d2))
 refine lex_nil ?_;intro Wx hWx hΦ;clear hΦ;simp only[dk];have hDx:=ownsMap_block hD1 (hWx.block mb hD1.lt);have c2:=hWx.cell d2;rw[hcast]at hkey c2;have HK:=hqd fun(W:World) (hg:Wx.grownBy W (some mb))=>(cell_blk (hg.block b (HS.out.hd.ext hWx).lt (fun e=>by have h1:=HS.out.hd.1;have h2:=HS.out.tm;rw[Option.some.inj e]at h1;omega))).trans c2;go_wp2_with (first|(at_mapUpdate;refine wpList_mapUpdate_own _ rfl (.tmp 16) (.tmp 20) (.tmp 3) 221 rfl 110 215 (Maps.int_keyed underlying110) underlying221 picR mb ps.length D rfl hDx (by unfold maxLen;omega) _ _ _ rfl rfl hkey _ _ (picR_ptr nb) ?_;intro w9 hown9 hg9;have c2:=HK.out w9 hg9));go_ret;have hSx:=HS.out.ext hWx;have hux:=HTb.out.unborn.ext hWx;rw[← hcast]at hown9;have hm:=hSx.map ht (pm':=ps++[⟨last+1,nb,[k0,k1,k2,k3]⟩]) (by rw[List.length_append];exact hown9) (hD2.put_ hx) hg9;have hBx:=(HB.out.ext hWx).grown hg9 (fun e=>by
  have h1:=HB.out.1;have h2:=HS.out.tm;rw[← Option.some.inj e]at h1;omega)
 refine⟨_,rfl,T1,?_,by rw[hcast];rfl,nb,HN.out,hm.hd,hm.tm,hm.tr,hm.tg,hm.map_,hm.room,fun p hp=>?_⟩
 ·exact((((HT0.out.mono fun k hk=>hk.elim).trans (HTa.out.mono fun k hk=>by subst hk;unfold In;omega)).trans (HTb.out.mono fun k hk=>by subst hk;unfold In;omega)).ext hWx).trans (hSx.turnedM hux hg9)
 ·rcases List.mem_append.1 hp with hp|hp
  ·exact hm.pics p hp
  ·rw[List.mem_singleton.1 hp]
   exact hBx
end
end Go.Proofs.YtffcefoadaogbaaGreat
