/- A part of the proof: texts put together and cut down by a program of mine (wip/gen/mini.py). -/
import Derived.WalkKit
import Derived.WalkSpells
import Derived.WalkLawsBesides
import Derived.Maps.AppendAt
import Derived.Lib.Hide
import Derived.Handy
import Derived.Laws.BytesString
import Derived.Lib.AppendStr
import Derived.ArgAppend
import Derived.Test.YtffcefoadaogbaaGreatRows
import Derived.Orders
import Derived.Deep.Draws
namespace Go.Proofs.YtffcefoadaogbaaGreat
open Go.RowKit
open Go.Proofs.Tryz
set_option linter.unusedVariables false
set_option maxRecDepth 100000
set_option maxHeartbeats 16000000
def Ext(w w':World):Prop:=Below w.heap.size w w'
theorem Ext.refl(w:World):Ext w w:=Below.refl _ _
theorem Ext.trans{a b c:World}(h:Ext a b)(k:Ext b c):Ext a c:=Below.trans h (Below.mono k h.size)
theorem Ext.drew(w:World):Ext w w.drew:=(Below.refl _ _).drew
theorem Ext.alloc(w:World)(o:Obj):Ext w (w.alloc o):=(Below.refl _ _).alloc (Nat.le_refl _) o
theorem Ext.cell{w w':World}(h:Ext w w'){p:Addr}{v:Value}(hc:w.cell? p=some v):w'.cell? p=some v :=
 (Below.cell h (World.block_lt_of_cell? w p hc)).trans hc
theorem Ext.grownBy{w w':World}(h:Ext w w')(row:Option Nat):w.grownBy w' row:=⟨h.os,h.tape,h.output,h.size,fun k hk _=>h.block k hk⟩
theorem ext_of_grown{w w':World}(h:w.grownBy w' none):Ext w w':=⟨h.os,h.tape,h.output,h.size,fun k hk=>h.block k hk (by simp)⟩
theorem below_of_grown{B:Nat}{w w':World}{row:Option Nat}(hg:w.grownBy w' row)(hB:B≤w.heap.size)(hr:∀ k,row=some k→B≤k):Below B w w':=(Below.refl B w).grown hg hB hr
theorem grown_trans{a b c:World}{row:Option Nat}(h:a.grownBy b row)(k:b.grownBy c row):a.grownBy c row :=
 ⟨k.os.trans h.os,k.tape.trans h.tape,k.output.trans h.output,Nat.le_trans h.size k.size,fun i hi hn=>(k.block i (Nat.lt_of_lt_of_le hi h.size) hn).trans (h.block i hi hn)⟩
def Rd(w:World)(size:Nat)(A:Option Addr)(n c:Nat)(xs:List Value):Prop :=
 xs.length=n*size∧n≤c∧c≤maxLen∧(0<n*size→∃ b o,A=some ⟨b,o,none⟩∧∀ j u,xs[j]?=some u→w.cell? ⟨b,o+j,none⟩=some u)
theorem Rd.nil_(w:World)(size:Nat):Rd w size none 0 0 []:=⟨by simp,Nat.le_refl _,Nat.zero_le _,fun h=>by simp at h⟩
theorem Rd.ext{w w':World}{size:Nat}{A:Option Addr}{n c:Nat}{xs:List Value}(h:Rd w size A n c xs)(he:Ext w w'):Rd w' size A n c xs:=by
 refine⟨h.1,h.2.1,h.2.2.1,fun hn=>?_⟩;obtain⟨b,o,e,hc⟩:=h.2.2.2 hn;exact⟨b,o,e,fun j u hu=>he.cell (hc j u hu)⟩
theorem Rd.keep{w w':World}{size:Nat}{A:Option Addr}{n c:Nat}{xs:List Value}(h:Rd w size A n c xs)(hk:∀ p:Addr,∀ v,A.map (·.block)=some p.block→w.cell? p=some v→w'.cell? p=some v):Rd w' size A n c xs:=by
 refine⟨h.1,h.2.1,h.2.2.1,fun hn=>?_⟩;obtain⟨b,o,e,hc⟩:=h.2.2.2 hn;exact⟨b,o,e,fun j u hu=>hk _ _ (by rw[e];rfl) (hc j u hu)⟩
theorem Rd.grown{w w':World}{size:Nat}{A:Option Addr}{n c:Nat}{xs:List Value}(h:Rd w size A n c xs){row:Option Nat}(hg:w.grownBy w' row)(hne:∀ a,A=some a→row≠some a.block):Rd w' size A n c xs:=by
 refine h.keep fun p v hp hc=>hg.cell hc ?_;obtain⟨a,ha,hb⟩:=Option.map_eq_some_iff.1 hp;rw[← hb];exact fun e=>hne a ha e.symm
theorem Rd.lt{w:World}{size:Nat}{A:Option Addr}{n c:Nat}{xs:List Value}(h:Rd w size A n c xs)(hn:0<n*size):∀ a,A=some a→a.block<w.heap.size:=by
 intro a ha;obtain⟨b,o,e,hc⟩:=h.2.2.2 hn;obtain rfl:a=⟨b,o,none⟩:=by rw[e]at ha;exact(Option.some.inj ha).symm
 have h0:0<xs.length:=by rw[h.1];exact hn
 exact World.block_lt_of_cell? w _ (hc 0 _ (List.getElem?_eq_getElem h0))
theorem Rd.take{w:World}{size:Nat}{A:Option Addr}{n c:Nat}{xs:List Value}(h:Rd w size A n c xs){k:Nat}(hk:k≤n):Rd w size A k c (xs.take (k*size)):=by
 have hle:k*size≤n*size:=Nat.mul_le_mul_right _ hk;refine⟨by rw[List.length_take,h.1];omega,Nat.le_trans hk h.2.1,h.2.2.1,fun hn=>?_⟩;obtain⟨b,o,e,hc⟩:=h.2.2.2 (by omega);refine⟨b,o,e,fun j u hu=>hc j u ?_⟩;rw[List.getElem?_take]at hu;split at hu
 ·exact hu
 ·cases hu
theorem Rd.drop{w:World}{size:Nat}{A:Option Addr}{n c:Nat}{xs:List Value}(h:Rd w size A n c xs){k:Nat}(hk:k≤n) :
  Rd w size (if c=k then A else A.map (·.add (k*size))) (n-k) (c-k) (xs.drop (k*size)):=by
 refine⟨by rw[List.length_drop,h.1,Nat.sub_mul],by have:=h.2.1;omega,by have:=h.2.2.1;omega,fun hn=>?_⟩;have hpos:0<n*size:=Nat.lt_of_lt_of_le hn (Nat.mul_le_mul_right _ (Nat.sub_le _ _));obtain⟨b,o,rfl,hc⟩:=h.2.2.2 hpos;have hlt:k<n:=by
  rcases Nat.lt_or_ge k n with h1|h1
  ·exact h1
  ·rw[Nat.sub_eq_zero_of_le h1]at hn;simp at hn
 rw[if_neg (by have:=h.2.1;omega)];refine⟨b,o+k*size,?_,fun j u hu=>?_⟩
 ·simp only[Option.map_some,Addr.add_lit]
 ·rw[Nat.add_assoc]
  exact hc _ u (by rw[← hu,List.getElem?_drop])
theorem Rd.at_{w:World}{A:Option Addr}{n c:Nat}{xs:List Value}(h:Rd w 1 A n c xs){k:Nat}(hk:k<n) :
  ∃ b o,A=some ⟨b,o,none⟩∧∃ u,xs[k]?=some u∧w.cell? ⟨b,o+k,none⟩=some u:=by
 obtain⟨b,o,e,hc⟩:=h.2.2.2 (by omega);have hl:k<xs.length:=by have:=h.1;omega
 exact⟨b,o,e,xs[k],List.getElem?_eq_getElem hl,hc k _ (List.getElem?_eq_getElem hl)⟩
def Own(w:World)(base:Nat)(e:TypeId)(size:Nat)(A:Option Addr)(n c:Nat)(xs:List Value):Prop:=w.ownsRow base e size (.slice A n c) n xs
def blk(A:Option Addr):Option Nat:=A.map (·.block)
theorem ownBlock_slice(A:Option Addr)(n c:Nat):(Value.slice A n c).ownBlock=blk A:=by cases A<;>rfl
theorem Own.nil_(w:World)(base:Nat)(e:TypeId)(size:Nat):Own w base e size none 0 0 []:=World.ownsRow_nil w base e size
theorem Own.of_row{w:World}{base:Nat}{e:TypeId}{size:Nat}{v:Value}{n:Nat}{xs:List Value}(h:w.ownsRow base e size v n xs) :
  ∃ A c,v = .slice A n c∧Own w base e size A n c xs:=by
 rcases h.2 with ⟨rfl,rfl⟩|⟨g,cap,cur,rfl,_⟩
 ·exact⟨none,0,rfl,h⟩
 ·exact⟨_,cap,rfl,h⟩
theorem Own.rd{w:World}{base:Nat}{e:TypeId}{size:Nat}{A:Option Addr}{n c:Nat}{xs:List Value}(h:Own w base e size A n c xs):Rd w size A n c xs:=by
 rcases h.2 with ⟨hv,rfl⟩|⟨g,cap,cur,hv,hbg,hg,hnc,hcm,hcs,htake⟩
 ·injection hv with h1 h2 h3
  subst h1;subst h3;have:xs=[]:=List.eq_nil_of_length_eq_zero (by simpa using h.1);subst this;exact Rd.nil_ w size
 ·injection hv with h1 _ h3
  subst h1;subst h3;refine⟨h.1,hnc,hcm,fun _=>⟨g,0,rfl,fun j u hu=>?_⟩⟩;have:=World.ownsRow.cells h (g:=g) rfl j u hu;simpa [Addr.add_lit] using this
theorem Own.base_le{w:World}{base:Nat}{e:TypeId}{size:Nat}{A:Option Addr}{n c:Nat}{xs:List Value}(h:Own w base e size A n c xs):∀ a,A=some a→base≤a.block∧a.block<w.heap.size:=by
 intro a ha;subst ha;exact World.ownsRow.lt h a.block rfl
theorem Own.blk_ge{w:World}{base:Nat}{e:TypeId}{size:Nat}{A:Option Addr}{n c:Nat}{xs:List Value}(h:Own w base e size A n c xs):∀ k,blk A=some k→base≤k:=by
 intro k hk;obtain⟨a,ha,rfl⟩:=Option.map_eq_some_iff.1 hk;exact(h.base_le a ha).1
theorem Own.kept{w w':World}{base:Nat}{e:TypeId}{size:Nat}{A:Option Addr}{n c:Nat}{xs:List Value}(h:Own w base e size A n c xs){row:Option Nat}(hg:w.grownBy w' row)(hne:blk A=none∨blk A≠row):Own w' base e size A n c xs :=
 World.ownsRow.kept h hg (by rw[ownBlock_slice];exact hne)
theorem Own.ext{w w':World}{base:Nat}{e:TypeId}{size:Nat}{A:Option Addr}{n c:Nat}{xs:List Value}(h:Own w base e size A n c xs)(he:Ext w w'):Own w' base e size A n c xs :=
 h.kept (he.grownBy none) (by cases blk A<;>simp)
theorem Own.mono{w:World}{base base':Nat}{e:TypeId}{size:Nat}{A:Option Addr}{n c:Nat}{xs:List Value}(h:Own w base e size A n c xs)(hb:base'≤base):Own w base' e size A n c xs:=by
 refine⟨h.1,?_⟩;rcases h.2 with h2|⟨g,cap,cur,hv,hbg,rest⟩
 ·exact .inl h2
 ·exact .inr ⟨g,cap,cur,hv,Nat.le_trans hb hbg,rest⟩
theorem Own.len{w:World}{base:Nat}{e:TypeId}{size:Nat}{A:Option Addr}{n c:Nat}{xs:List Value}(h:Own w base e size A n c xs):xs.length=n*size:=h.1
theorem Own.made(w:World)(base:Nat)(e:TypeId)(size:Nat)(cs:List Value)(n:Nat)(hb:base≤w.heap.size)(hm:n≤maxLen)(hs:cs.length=n*size) :
  Own (w.alloc (.cells cs.toArray e)) base e size (some ⟨w.heap.size,0,none⟩) n n cs :=
 ⟨hs,.inr ⟨w.heap.size,n,cs.toArray,rfl,hb,heap_alloc_new w _,Nat.le_refl _,hm,by simpa using hs,by rw[← hs];simp⟩⟩
section
variable {P:Program} (w:World)
theorem run_append_to(base:Nat)(t ty e:TypeId)(i:TypeInfo)(z:Value)(size bytes:Nat)(ht:P.underlying t=some (.slice e))(hi:P.info? e=some i)(hz:i.zero=some z)
  (hsize:i.size=size) (hby:i.bytes=bytes) (hzs:z.cells.size=size) (hsz:0<size)
  (A:Option Addr) (n c:Nat) (xs:List Value) (hown:Own w base e size A n c xs)
  (A':Option Addr) (m c':Nat) (news:List Value) (hr:Rd w size A' m c' news) (h1:∀ u∈news,u.oneCell'=true)
  (h63:n+m≤maxLen) (hbytes:(n+m)*bytes≤140737488355328) (hbase:base≤w.heap.size) :
  ∃ B d w',(Builtin.append_ #[t,t] ty #[.slice A n c,.slice A' m c']).run P w = .ok (.slice B (n+m) d) w'∧Own w' base e size B (n+m) d (xs++news)∧w.grownBy w' (blk A) ∧
   (blk B=blk A∨blk B=some w.heap.size):=by
 rcases Nat.eq_zero_or_pos m with h0|h0
 ·subst h0
  have hn:news=[]:=List.eq_nil_of_length_eq_zero (by simpa using hr.1);subst hn;refine⟨A,c,w,?_,by simpa using hown,World.grownBy.refl w _,.inl rfl⟩;rcases hown.2 with ⟨hv,rfl⟩|⟨g,cap,cur,hv,_,hg,hnc,_⟩
  ·injection hv with h1 h2 h3
   subst h1;subst h3;cases A'<;>simp[Builtin.append_,run_underlying ht,sizeOf,typeInfo,hi,Builtin.lenOf,Builtin.firstCells,loadCells,loadCellsFrom]
  ·injection hv with h1 h2 h3
   subst h1;subst h3;cases A'<;>simp[Builtin.append_,run_underlying ht,sizeOf,typeInfo,hi,Builtin.lenOf,Builtin.firstCells,hnc,storeCells,loadCells,loadCellsFrom]
 ·obtain⟨b,o,rfl,hcells⟩:=hr.2.2.2 (Nat.mul_pos h0 hsz)
  obtain⟨v',w',hrun,h2,h3,_,h5⟩:=run_append_own_at (P:=P) w base t ty e i z size bytes ht hi hz hsize hby hzs hsz (.slice A n c) n xs hown ⟨b,o,none⟩ m c' news hr.1
   (fun j u hu=>by rw[Addr.add_lit];exact hcells j u hu) h1 h63 hbytes hbase
  obtain⟨B,d,rfl,h6⟩:=Own.of_row h2;refine⟨B,d,w',hrun,h6,by rw[ownBlock_slice]at h3;exact h3,by simpa [ownBlock_slice] using h5⟩
theorem wpList_append_to{ops:Array Oper}{rest:List Oper}{o:Oper}{a:Act}{Q:Exit→Act→World→Prop}(hgd:o.guard=none)(s x:Operand)(t:TypeId)
  (ho:o.op = .call {callee:=.builtin .append,args:=#[s,x],argTypes:=#[t,t]})
  (base:Nat) (e:TypeId) (i:TypeInfo) (z:Value) (size bytes:Nat) (ht:P.underlying t=some (.slice e)) (hi:P.info? e=some i) (hz:i.zero=some z)
  (hsize:i.size=size) (hby:i.bytes=bytes) (hzs:z.cells.size=size) (hsz:0<size)
  (A:Option Addr) (n c:Nat) (xs:List Value) (hs:a.eval s = .slice A n c) (hown:Own w base e size A n c xs)
  (A':Option Addr) (m c':Nat) (news:List Value) (hx:a.eval x = .slice A' m c') (hr:Rd w size A' m c' news) (h1:∀ u∈news,u.oneCell'=true)
  (h63:n+m≤maxLen) (hbytes:(n+m)*bytes≤140737488355328) (hbase:base≤w.heap.size)
  (h:∀ B d w',Own w' base e size B (n+m) d (xs++news)→w.grownBy w' (blk A)→(blk B=blk A∨blk B=some w.heap.size)→wpList P ops Q rest (a.put o.dst (.slice B (n+m) d)) w') :
  wpList P ops Q (o::rest) a w:=by
 refine wpList_plain hgd fun K hK=>?_;obtain⟨B,d,w',hr,h2,h3,h5⟩:=run_append_to (P:=P) w base t o.type e i z size bytes ht hi hz hsize hby hzs hsz A n c xs hown A' m c' news hr h1 h63 hbytes hbase;unfold Oper.wp execOp;simp only[ho,resolve,invoke,builtin,Sem.run_bind,Sem.run_pure,Result.andThen_ok,List.map_toArray,List.map_cons,List.map_nil,hs,hx,hr];exact hK _ _ (h B d w' h2 h3 h5)
theorem wpList_append_nil{ops:Array Oper}{rest:List Oper}{o:Oper}{a:Act}{Q:Exit→Act→World→Prop}(hgd:o.guard=none)(s x:Operand)(t:TypeId)
  (ho:o.op = .call {callee:=.builtin .append,args:=#[s,x],argTypes:=#[t,t]})
  (base:Nat) (e:TypeId) (i:TypeInfo) (z:Value) (size bytes:Nat) (ht:P.underlying t=some (.slice e)) (hi:P.info? e=some i) (hz:i.zero=some z)
  (hsize:i.size=size) (hby:i.bytes=bytes) (hzs:z.cells.size=size) (hsz:0<size) (hs:a.eval s = .slice none 0 0)
  (A':Option Addr) (m c':Nat) (news:List Value) (hx:a.eval x = .slice A' m c') (hr:Rd w size A' m c' news) (h1:∀ u∈news,u.oneCell'=true)
  (h63:m≤maxLen) (hbytes:m*bytes≤140737488355328) (hbase:base≤w.heap.size)
  (h:∀ B d w',Own w' base e size B m d news→Ext w w'→wpList P ops Q rest (a.put o.dst (.slice B m d)) w') :
  wpList P ops Q (o::rest) a w:=by
 refine wpList_append_to w hgd s x t ho base e i z size bytes ht hi hz hsize hby hzs hsz none 0 0 [] hs (Own.nil_ _ _ _ _) A' m c' news hx hr h1 (by omega) (by rw[Nat.zero_add];exact hbytes) hbase ?_;intro B d w' h2 h3 _;rw[Nat.zero_add]at h2 ⊢;rw[List.nil_append]at h2;exact h B d w' h2 (ext_of_grown h3)
theorem Rd.made(t:TypeId)(size:Nat)(cs:List Value)(n:Nat)(hs:cs.length=n*size)(hm:n≤maxLen):Rd (w.alloc (.cells cs.toArray t)) size (some ⟨w.heap.size,0,none⟩) n n cs :=
 ⟨hs,Nat.le_refl _,hm,fun _=>⟨w.heap.size,0,rfl,fun j u hu=>by rw[cell_of_row _ _ _ _ _ _ (heap_alloc_new w _)];simpa using hu⟩⟩
theorem wpList_append_new{ops:Array Oper}{rest:List Oper}{o:Oper}{a:Act}{Q:Exit→Act→World→Prop}(hgd:o.guard=none)(s x:Operand)(t:TypeId)
  (ho:o.op = .call {callee:=.builtin .append,args:=#[s,x],argTypes:=#[t,t]})
  (base:Nat) (e:TypeId) (i:TypeInfo) (z:Value) (size bytes:Nat) (ht:P.underlying t=some (.slice e)) (hi:P.info? e=some i) (hz:i.zero=some z)
  (hsize:i.size=size) (hby:i.bytes=bytes) (hzs:z.cells.size=size) (hsz:0<size)
  (A:Option Addr) (n c:Nat) (xs:List Value) (hs:a.eval s = .slice A n c) (hown:Own w base e size A n c xs)
  (m:Nat) (cs:List Value) (hx:a.eval x = .slice (some ⟨w.heap.size,0,none⟩) m m) (hl:cs.length=m*size) (h1:∀ u∈cs,u.oneCell'=true)
  (h63:n+m≤maxLen) (hbytes:(n+m)*bytes≤140737488355328) (hbase:base≤w.heap.size)
  (h:∀ B d w',Own w' base e size B (n+m) d (xs++cs)→w.grownBy w' (blk A)→(blk B=blk A∨∀ k,blk B=some k→w.heap.size≤k)→wpList P ops Q rest (a.put o.dst (.slice B (n+m) d)) w') :
  wpList P ops Q (o::rest) a (w.alloc (.cells cs.toArray e)):=by
 refine wpList_append_to _ hgd s x t ho base e i z size bytes ht hi hz hsize hby hzs hsz A n c xs hs (hown.ext (Ext.alloc _ _)) _ m m cs hx (Rd.made w e size cs m hl (by omega)) h1 h63 hbytes (by simp;omega) ?_;intro B d w' h2 h3 h4;refine h B d w' h2 (grown_trans ((Ext.alloc w _).grownBy _) h3) ?_;rcases h4 with h4|h4
 ·exact .inl h4
 ·exact .inr fun k hk=>by rw[h4]at hk;cases hk;simp
end
def Went(w:World)(A B:Option Addr):Prop:=blk B=blk A∨∀ k,blk B=some k→w.heap.size≤k
theorem Went.refl(w:World)(A:Option Addr):Went w A A:=.inl rfl
theorem Went.of{w:World}{A B:Option Addr}(h:blk B=blk A∨blk B=some w.heap.size):Went w A B:=by
 rcases h with h|h
 ·exact .inl h
 ·exact .inr fun k hk=>by rw[h]at hk;cases hk;exact Nat.le_refl _
theorem Went.trans{w w':World}{A B C:Option Addr}(h:Went w A B)(hs:w.heap.size≤w'.heap.size)(k:Went w' B C):Went w A C:=by
 rcases k with k|k
 ·rcases h with h|h
  ·exact .inl (k.trans h)
  ·exact .inr fun i hi=>h i (by rw[← k];exact hi)
 ·exact .inr fun i hi=>Nat.le_trans hs (k i hi)
theorem grown_went{a b c:World}{A B:Option Addr}(h:a.grownBy b (blk A))(hw:Went a A B)(k:b.grownBy c (blk B)):a.grownBy c (blk A) :=
 ⟨k.os.trans h.os,k.tape.trans h.tape,k.output.trans h.output,Nat.le_trans h.size k.size,fun i hi hn=>(k.block i (Nat.lt_of_lt_of_le hi h.size) (by
  rcases hw with hw|hw
  ·rw[hw];exact hn
  ·intro e;have:=hw i e.symm;omega)).trans (h.block i hi hn)⟩
theorem grown_ext{a b c:World}{row:Option Nat}(h:a.grownBy b row)(k:Ext b c):a.grownBy c row:=grown_trans h (k.grownBy row)
theorem Ext.own{w a b:World}(h:Ext w a){B:Option Addr}(hg:a.grownBy b (blk B))(hB:∀ k,blk B=some k→w.heap.size≤k):Ext w b :=
 Below.trans h (below_of_grown hg h.size hB)
def Appended(w:World)(base:Nat)(e:TypeId)(size:Nat)(A:Option Addr)(xs:List Value)(r:Ending)(w':World):Prop :=
 ∃ B m d,r = .returned (.slice B m d)∧Own w' base e size B m d xs∧w.grownBy w' (blk A)∧Went w A B
def Made(w:World)(e:TypeId)(size:Nat)(xs:List Value)(r:Ending)(w':World):Prop :=
 ∃ B m d,r = .returned (.slice B m d)∧Own w' w.heap.size e size B m d xs∧Ext w w'
def bcs(l:List UInt8):List Value:=l.map fun u=>.int .u8 (u.toNat:Int)
def bs(l:List UInt8):ByteArray:=⟨l.toArray⟩
theorem bcs_length(l:List UInt8):(bcs l).length=l.length:=by simp[bcs]
theorem bcs_append(a b:List UInt8):bcs (a++b)=bcs a++bcs b:=by simp[bcs]
theorem bcs_take(l:List UInt8)(k:Nat):(bcs l).take k=bcs (l.take k):=by simp[bcs,List.map_take]
theorem bcs_drop(l:List UInt8)(k:Nat):(bcs l).drop k=bcs (l.drop k):=by simp[bcs,List.map_drop]
theorem bcs_one(l:List UInt8):∀ u∈bcs l,u.oneCell'=true:=by
 intro u hu;obtain⟨_,_,rfl⟩:=List.mem_map.1 hu;rfl
theorem bcs_get{l:List UInt8}{k:Nat}(hk:k<l.length):(bcs l)[k]?=some (.int .u8 ((l[k]).toNat:Int)):=by simp[bcs,hk]
@[go_sem] theorem bs_size (l:List UInt8):(bs l).size=l.length:=by simp[bs,ByteArray.size]
@[go_sem] theorem bs_toList (l:List UInt8):(bs l).toList=l:=by rw[ByteArray.toList_eq];rfl
def Rb(w:World)(A:Option Addr)(n c:Nat)(l:List UInt8):Prop:=Rd w 1 A n c (bcs l)
theorem Rb.len{w:World}{A:Option Addr}{n c:Nat}{l:List UInt8}(h:Rb w A n c l):n=l.length:=by have:=h.1;rw[bcs_length]at this;omega
theorem Rb.ext{w w':World}{A:Option Addr}{n c:Nat}{l:List UInt8}(h:Rb w A n c l)(he:Ext w w'):Rb w' A n c l:=Rd.ext h he
theorem Rb.of{w:World}{A:Option Addr}{n c:Nat}{l:List UInt8}{xs:List Value}(h:Rd w 1 A n c xs)(e:xs=bcs l):Rb w A n c l:=by subst e;exact h
theorem Rb.nil_(w:World):Rb w none 0 0 []:=Rd.nil_ w 1
theorem Rb.take{w:World}{A:Option Addr}{n c:Nat}{l:List UInt8}(h:Rb w A n c l){k:Nat}(hk:k≤n):Rb w A k c (l.take k):=by
 have:=Rd.take h hk;rw[Nat.mul_one,bcs_take]at this;exact this
theorem Rb.drop{w:World}{A:Option Addr}{n c:Nat}{l:List UInt8}(h:Rb w A n c l){k:Nat}(hk:k≤n):Rb w (if c=k then A else A.map (·.add k)) (n-k) (c-k) (l.drop k):=by
 have:=Rd.drop h hk;rw[Nat.mul_one,bcs_drop]at this;exact this
theorem Rb.cut{w:World}{A:Option Addr}{n c:Nat}{l:List UInt8}(h:Rb w A n c l){k:Nat}(hk:k≤n):∃ A',(if c=k then A else Option.map (fun x=>x.add k) A)=A'∧Rb w A' (n-k) (c-k) (l.drop k):=⟨_,rfl,h.drop hk⟩
theorem Rb.at_{w:World}{A:Option Addr}{n c:Nat}{l:List UInt8}(h:Rb w A n c l){k:Nat}(hk:k<l.length) :
  ∃ b o,A=some ⟨b,o,none⟩∧w.cell? ⟨b,o+k,none⟩=some (.int .u8 ((l[k]).toNat:Int)):=by
 obtain⟨b,o,e,u,hu,hc⟩:=Rd.at_ h (k:=k) (by have:=h.len;omega);rw[bcs_get hk]at hu;cases hu
 exact⟨b,o,e,hc⟩
theorem Rb.max{w:World}{A:Option Addr}{n c:Nat}{l:List UInt8}(h:Rb w A n c l):n≤c∧c≤maxLen:=⟨h.2.1,h.2.2.1⟩
theorem run_string_of{P:Program}(w:World)(src dst e:TypeId)(hs:P.underlying src=some (.slice e))(he:P.underlying e=some (.int .u8))(hd:P.underlying dst=some .string)
  (A:Option Addr) (n c:Nat) (l:List UInt8) (h:Rb w A n c l):(convert src dst (.slice A n c)).run P w = .ok (.string (bs l)) w:=by
 rw[run_convert_bytes_string w src dst e A n c hs he hd];cases A with
 | none =>
  have hl:l=[]:=by
   rcases Nat.eq_zero_or_pos n with h0|h0
   ·exact List.eq_nil_of_length_eq_zero (by have:=h.len;omega)
   ·obtain⟨b,o,e,_⟩:=h.2.2.2 (by omega)
    cases e
  subst hl;simp[Conv.bytesToString]
  rfl
 | some a =>
  have hload:(loadCells a n).run P w = .ok ((l.map fun u=>(u.toNat:Int)).map (Value.int .u8)).toArray w:=by
   have hm:(l.map fun u:UInt8=>(u.toNat:Int)).map (Value.int .u8)=bcs l:=by simp[bcs]
   rw[hm];rcases Nat.eq_zero_or_pos n with h0|h0
   ·subst h0
    obtain rfl:l=[]:=List.eq_nil_of_length_eq_zero h.len.symm;simpa [bcs] using run_loadCells_list (P:=P) w a [] (fun j v hj=>by simp at hj)
   ·obtain⟨b,o,e,hc⟩:=h.2.2.2 (by omega)
    injection e with e
    subst e;have:=run_loadCells_list (P:=P) w ⟨b,o,none⟩ (bcs l) (fun j v hj=>by rw[Addr.add_lit];exact hc j v hj);rw[bcs_length,← h.len]at this;exact this
  rw[run_bytesToString w a n c _ hload];congr 2
  have:∀(ns:List UInt8) (s:ByteArray),(ns.map fun u=>(u.toNat:Int)).foldl (fun r n=>r.push (UInt8.ofNat n.toNat)) s=⟨s.data++ns.toArray⟩:=by
   intro ns;induction ns with
   | nil=>intro s;simp
   | cons x ns ih=>intro s;simp only[List.map_cons,List.foldl_cons];rw[ih];simp[ByteArray.push]
  rw[this];simp[bs,ByteArray.empty,ByteArray.emptyWithCapacity]
  rfl
def Yes(w:World)(e:Ending)(w':World):Prop:=e = .returned (.bool true)∧Ext w w'
theorem run_append_text{P:Program}(w:World)(base:Nat)(t u ty e:TypeId)(i:TypeInfo)(ht:P.underlying t=some (.slice e))(hu:P.underlying u=some .string)(hi:P.info? e=some i)(hz:i.zero=some (.int .u8 0))
  (hsize:i.size=1) (hby:i.bytes=1) (A:Option Addr) (n c:Nat) (xs:List Value) (hown:Own w base e 1 A n c xs) (l:List UInt8)
  (h63:n+l.length≤maxLen) (hbytes:n+l.length≤140737488355328) (hbase:base≤w.heap.size) :
  ∃ B d w',(Builtin.append_ #[t,u] ty #[.slice A n c,.string (bs l)]).run P w = .ok (.slice B (n+l.length) d) w'∧Own w' base e 1 B (n+l.length) d (xs++bcs l)∧w.grownBy w' (blk A)∧Went w A B:=by
 have hsz:=bs_size l;obtain⟨v',w',hr,h2,h3,_⟩:=Lib.run_append_own_string (P:=P) w base t u ty e i ht hu hi hz hsize hby (.slice A n c) n xs hown (bs l) (by rw[hsz];exact h63) (by rw[hsz];exact hbytes) hbase;rw[hsz]at h2;obtain⟨B,d,rfl,h6⟩:=Own.of_row h2;refine⟨B,d,w',hr,h6,by rw[ownBlock_slice]at h3;exact h3,?_⟩;have hsm:n+l.length≤9223372036854775807:=by simp only[maxLen]at h63;omega
 rcases hown.2 with ⟨hv,rfl⟩|⟨g,cap,cur,hv,hbg,hg,hnc,hcm,hcs,htake⟩
 ·injection hv with h7 _ h8
  subst h7;subst h8;by_cases hm:l.length=0
  ·obtain rfl:l=[]:=List.eq_nil_of_length_eq_zero hm
   have hf:=Lib.run_firstCells_string (P:=P) w 1 (bs []);have e0:(bs []).size=0:=rfl;rw[e0]at hf;simp[Builtin.append_,run_underlying ht,run_underlying hu,sizeOf,typeInfo,hi,hsize,Builtin.lenOf,e0,hf]at hr
   rw[← hr.1.1];exact Went.refl w none
  ·have hr2:=run_append_nil_string (P:=P) w t u ty e i (.int .u8 0) ht hu hi hz (bs l) (by omega) (by omega) (by rw[hby];omega)
   rw[hr2]at hr;injection hr with h9 _
   injection h9 with h9 _ _
   rw[← h9];exact .inr fun k hk=>by cases hk;exact Nat.le_refl _
 ·injection hv with h7 _ h8
  subst h7;subst h8;by_cases hroom:n+l.length≤c
  ·have hr2:=Lib.run_append_room_string (P:=P) w t u ty e i ht hu hi hsize g n c cur hg (bs l) (by rw[hsz];exact hroom) (by omega)
   rw[hr2]at hr;injection hr with h9 _
   injection h9 with h9 _ _
   rw[← h9];exact Went.refl w _
  ·have hr2:=Lib.run_append_grow_string (P:=P) w t u ty e i (.int .u8 0) ht hu hi hz ⟨g,0,none⟩ n c xs (by rw[hsize];exact hown.1) (World.ownsRow.cells hown (g:=g) rfl) (bs l) (by omega) (by omega) (by rw[hby];exact growslice_fits (by omega) (by omega))
   rw[hr2]at hr;injection hr with h9 _
   injection h9 with h9 _ _
   rw[← h9];exact .inr fun k hk=>by cases hk;exact Nat.le_refl _
theorem wpList_append_text{P:Program}(w:World){ops:Array Oper}{rest:List Oper}{o:Oper}{a:Act}{Q:Exit→Act→World→Prop}(hgd:o.guard=none)(s x:Operand)(t u:TypeId)
  (ho:o.op = .call {callee:=.builtin .append,args:=#[s,x],argTypes:=#[t,u]})
  (base:Nat) (e:TypeId) (i:TypeInfo) (ht:P.underlying t=some (.slice e)) (hu:P.underlying u=some .string) (hi:P.info? e=some i) (hz:i.zero=some (.int .u8 0))
  (hsize:i.size=1) (hby:i.bytes=1) (A:Option Addr) (n c:Nat) (xs:List Value) (hs:a.eval s = .slice A n c) (hown:Own w base e 1 A n c xs) (l:List UInt8) (hx:a.eval x = .string (bs l))
  (h63:n+l.length≤maxLen) (hbytes:n+l.length≤140737488355328) (hbase:base≤w.heap.size)
  (h:∀ B d w',Own w' base e 1 B (n+l.length) d (xs++bcs l)→w.grownBy w' (blk A)→Went w A B→wpList P ops Q rest (a.put o.dst (.slice B (n+l.length) d)) w') :
  wpList P ops Q (o::rest) a w:=by
 refine wpList_plain hgd fun K hK=>?_;obtain⟨B,d,w',hr,h2,h3,h5⟩:=run_append_text (P:=P) w base t u o.type e i ht hu hi hz hsize hby A n c xs hown l h63 hbytes hbase;unfold Oper.wp execOp;simp only[ho,resolve,invoke,builtin,Sem.run_bind,Sem.run_pure,Result.andThen_ok,List.map_toArray,List.map_cons,List.map_nil,hs,hx,hr];exact hK _ _ (h B d w' h2 h3 h5)
theorem hqd{p:Prop}(h:p):Hid p:=h
abbrev Tg:=Nat→Nat
def Unborn(w:World)(T:Tg):Prop:=∀ k,w.heap.size≤k→T k=0
structure Turn(S:Nat→Prop)(w:World)(T:Tg)(w':World)(T':Tg):Prop where
 os:w'.os=w.os
 tape:w'.tape=w.tape
 output:w'.output=w.output
 size:w.heap.size≤w'.heap.size
 block:∀ k,k<w.heap.size→¬ S (T k)→w'.heap[k]?=w.heap[k]?
 tag:∀ k,k<w.heap.size→T' k=T k
 unborn:Unborn w' T'
theorem Turn.refl{w:World}{T:Tg}(S:Nat→Prop)(h:Unborn w T):Turn S w T w T:=⟨rfl,rfl,rfl,Nat.le_refl _,fun _ _ _=>rfl,fun _ _=>rfl,h⟩
theorem Turn.trans{S:Nat→Prop}{a b c:World}{T U V:Tg}(h:Turn S a T b U)(k:Turn S b U c V):Turn S a T c V :=
 ⟨k.os.trans h.os,k.tape.trans h.tape,k.output.trans h.output,Nat.le_trans h.size k.size,fun i hi hn=>(k.block i (Nat.lt_of_lt_of_le hi h.size) (by rw[h.tag i hi];exact hn)).trans (h.block i hi hn),fun i hi=>(k.tag i (Nat.lt_of_lt_of_le hi h.size)).trans (h.tag i hi),k.unborn⟩
theorem Turn.mono{S S':Nat→Prop}{w w':World}{T T':Tg}(h:Turn S w T w' T')(hs:∀ t,S t→S' t):Turn S' w T w' T' :=
 ⟨h.os,h.tape,h.output,h.size,fun k hk hn=>h.block k hk (fun e=>hn (hs _ e)),h.tag,h.unborn⟩
theorem Turn.of_ext{w w':World}{T:Tg}(S:Nat→Prop)(hu:Unborn w T)(h:Ext w w'):Turn S w T w' T :=
 ⟨h.os,h.tape,h.output,h.size,fun k hk _=>h.block k hk,fun _ _=>rfl,fun k hk=>hu k (Nat.le_trans h.size hk)⟩
theorem Turn.of_grown{w w':World}{T:Tg}{S:Nat→Prop}(hu:Unborn w T){row:Option Nat}(h:w.grownBy w' row)(hs:∀ g,row=some g→S (T g)):Turn S w T w' T :=
 ⟨h.os,h.tape,h.output,h.size,fun k hk hn=>h.block k hk (fun e=>hn (hs k e.symm)),fun _ _=>rfl,fun k hk=>hu k (Nat.le_trans h.size hk)⟩
theorem Turn.of_set{w:World}{T:Tg}{S:Nat→Prop}(hu:Unborn w T)(a:Addr)(v:Value)(hs:S (T a.block)):Turn S w T (w.setCell a v) T :=
 ⟨rfl,rfl,rfl,by simp[World.setCell],fun k _ hn=>Below.heap_setCell w a v k (fun e=>hn (by rw[e];exact hs)),fun _ _=>rfl,fun k hk=>hu k (by simpa [World.setCell] using hk)⟩
theorem Turn.ext{w w' w'':World}{T T':Tg}{S:Nat→Prop}(h:Turn S w T w' T')(e:Ext w' w''):Turn S w T w'' T':=h.trans (Turn.of_ext S h.unborn e)
theorem Turn.grown{w w' w'':World}{T T':Tg}{S:Nat→Prop}(h:Turn S w T w' T'){row:Option Nat}(e:w'.grownBy w'' row)(hs:∀ g,row=some g→S (T' g)∨w.heap.size≤g):Turn S w T w'' T' :=
 ⟨e.os.trans h.os,e.tape.trans h.tape,e.output.trans h.output,Nat.le_trans h.size e.size,fun k hk hn=>(e.block k (Nat.lt_of_lt_of_le hk h.size) (fun e'=>by
   rcases hs k e'.symm with h1|h1
   ·exact hn (by rw[← h.tag k hk];exact h1)
   ·omega)).trans (h.block k hk hn),h.tag,fun k hk=>h.unborn k (Nat.le_trans e.size hk)⟩
theorem Turn.set{w w':World}{T T':Tg}{S:Nat→Prop}(h:Turn S w T w' T')(a:Addr)(v:Value)(hs:S (T' a.block)∨w.heap.size≤a.block):Turn S w T (w'.setCell a v) T' :=
 h.grown (row:=some a.block) ⟨rfl,rfl,rfl,by simp[World.setCell],fun k _ hk=>Below.heap_setCell w' a v k (by rintro rfl;exact hk rfl)⟩ (by rintro g e;cases e;exact hs)
def give(T:Tg)(K:Nat→Bool)(t:Nat):Tg:=fun k=>if K k then t else T k
theorem give_in{T:Tg}{K:Nat→Bool}{t k:Nat}(h:K k=true):give T K t k=t:=by simp[give,h]
theorem give_out{T:Tg}{K:Nat→Bool}{t k:Nat}(h:K k=false):give T K t k=T k:=by simp[give,h]
theorem Turn.give{w w':World}{T T':Tg}{S:Nat→Prop}(h:Turn S w T w' T')(K:Nat→Bool)(t:Nat)(hk:∀ k,K k=true→w.heap.size≤k∧k<w'.heap.size):Turn S w T w' (give T' K t) :=
 ⟨h.os,h.tape,h.output,h.size,h.block,fun k hk'=>by
  by_cases e:K k=true
  ·have:=(hk k e).1;omega
  ·rw[give_out (by simpa using e)];exact h.tag k hk',fun k hk'=>by
  by_cases e:K k=true
  ·have:=(hk k e).2;omega
  ·rw[give_out (by simpa using e)];exact h.unborn k hk'⟩
def Kept(T T':Tg):Prop:=∀ k,T k≠0→T' k=T k
theorem Kept.give{T:Tg}{K:Nat→Bool}{t:Nat}(h:∀ k,K k=true→T k=0):Kept T (give T K t):=fun k hk=>by
 by_cases e:K k=true
 ·exact absurd (h k e) hk
 ·exact give_out (by simpa using e)
def Has(w:World)(T:Tg)(t b:Nat)(vs:List Value):Prop:=T b=t∧∃ ty,w.heap[b]?=some (.cells vs.toArray ty (0,0))
section
variable {w w':World} {T T':Tg} {t b:Nat} {vs:List Value}
theorem Has.lt(h:Has w T t b vs):b<w.heap.size:=by obtain⟨_,ty,h⟩:=h;exact(Array.getElem?_eq_some_iff.1 h).1
theorem Has.cell(h:Has w T t b vs){i:Nat}{v:Value}(hv:vs[i]?=some v):w.cell? ⟨b,i,none⟩=some v:=by
 obtain⟨_,ty,h⟩:=h;rw[cell_of_row _ _ _ _ _ _ h];simpa using hv
theorem Has.free(h:Has w T t b vs)(i:Nat):w.frozen? ⟨b,i,none⟩=false:=by
 obtain⟨_,ty,h⟩:=h;simp only[World.frozen?,h];simp
theorem Has.of_block(h:Has w T t b vs)(e:w'.heap[b]?=w.heap[b]?)(ht:T' b=T b):Has w' T' t b vs:=⟨ht.trans h.1,by obtain⟨_,ty,h⟩:=h;exact⟨ty,e.trans h⟩⟩
theorem Has.turn{S:Nat→Prop}(h:Has w T t b vs)(hT:Turn S w T w' T')(hs:¬ S t):Has w' T' t b vs:=h.of_block (hT.block b h.lt (by rw[h.1];exact hs)) (hT.tag b h.lt)
theorem Has.ext(h:Has w T t b vs)(e:Ext w w'):Has w' T t b vs:=h.of_block (e.block b h.lt) rfl
theorem Has.grown(h:Has w T t b vs){row:Option Nat}(e:w.grownBy w' row)(hne:row≠some b):Has w' T t b vs:=h.of_block (e.block b h.lt (fun e=>hne e.symm)) rfl
theorem Has.kept(h:Has w T t b vs)(ht:t≠0)(hk:Kept T T'):Has w T' t b vs:=h.of_block rfl (hk b (by rw[h.1];exact ht))
theorem Has.set(h:Has w T t b vs)(i:Nat)(v:Value):Has (w.setCell ⟨b,i,none⟩ v) T t b (vs.set i v):=by
 obtain⟨ht,ty,h⟩:=h;refine⟨ht,ty,?_⟩;simp only[World.setCell,Array.getElem?_modify,h];simp
theorem Has.set_other(h:Has w T t b vs){a:Addr}(hne:a.block≠b)(v:Value):Has (w.setCell a v) T t b vs:=h.of_block (Below.heap_setCell w a v b (fun e=>hne e.symm)) rfl
theorem Has.new(w:World)(T:Tg)(vs:List Value)(ty:TypeId)(hb:b=w.heap.size):Has (w.alloc (.cells vs.toArray ty)) T (T b) b vs:=by
 subst hb;exact⟨rfl,ty,heap_alloc_new w _⟩
theorem Has.of(h:Has w T t b vs){t':Nat}(ht:T' b=t'):Has w T' t' b vs:=⟨ht,h.2⟩
theorem Has.is(h:Has w T t b vs){vs':List Value}(e:vs=vs'):Has w T t b vs':=e▸h
end
def Row(w:World)(T:Tg)(t:Nat)(e:TypeId)(size:Nat)(A:Option Addr)(n c:Nat)(xs:List Value):Prop:=Own w 0 e size A n c xs∧∀ k,blk A=some k→T k=t
section
variable {w w':World} {T T':Tg} {t:Nat} {e:TypeId} {size:Nat} {A:Option Addr} {n c:Nat} {xs:List Value}
theorem Row.rd(h:Row w T t e size A n c xs):Rd w size A n c xs:=h.1.rd
theorem Row.lt(h:Row w T t e size A n c xs){k:Nat}(hk:blk A=some k):k<w.heap.size:=by
 obtain⟨a,ha,rfl⟩:=Option.map_eq_some_iff.1 hk;exact(h.1.base_le a ha).2
theorem Row.nil_(w:World)(T:Tg)(t:Nat)(e:TypeId)(size:Nat):Row w T t e size none 0 0 []:=⟨Own.nil_ _ _ _ _,fun k hk=>by cases hk⟩
theorem Row.of_block(h:Row w T t e size A n c xs)(hb:∀ k,blk A=some k→w'.heap[k]?=w.heap[k]?)(ht:∀ k,blk A=some k→T' k=T k):Row w' T' t e size A n c xs:=by
 refine⟨⟨h.1.1,?_⟩,fun k hk=>(ht k hk).trans (h.2 k hk)⟩;rcases h.1.2 with h2|⟨g,cap,cur,hv,hbg,hg,rest⟩
 ·exact .inl h2
 ·refine .inr ⟨g,cap,cur,hv,hbg,?_,rest⟩
  injection hv with h1 _ _
  rw[hb g (by rw[h1];rfl)];exact hg
theorem Row.turn{S:Nat→Prop}(h:Row w T t e size A n c xs)(hT:Turn S w T w' T')(hs:¬ S t):Row w' T' t e size A n c xs :=
 h.of_block (fun k hk=>hT.block k (h.lt hk) (by rw[h.2 k hk];exact hs)) (fun k hk=>hT.tag k (h.lt hk))
theorem Row.ext(h:Row w T t e size A n c xs)(hE:Ext w w'):Row w' T t e size A n c xs:=h.of_block (fun k hk=>hE.block k (h.lt hk)) (fun _ _=>rfl)
def went(A B:Option Addr):Nat→Bool:=fun k=>decide (blk B=some k∧blk A≠some k)
theorem Row.went{B:Option Addr}{m d:Nat}{ys:List Value}(h:Row w T t e size A n c xs)(ho:Own w' 0 e size B m d ys):Row w' (give T (went A B) t) t e size B m d ys:=by
 refine⟨ho,fun k hk=>?_⟩;by_cases hA:blk A=some k
 ·rw[give_out (by simp[Proofs.YtffcefoadaogbaaGreat.went,hA])]
  exact h.2 k hA
 ·exact give_in (by simp[Proofs.YtffcefoadaogbaaGreat.went,hA,hk])
theorem went_new{w:World}{A B:Option Addr}(hw:Went w A B){k:Nat}(hk:went A B k=true):w.heap.size≤k:=by
 simp only[went,decide_eq_true_eq]at hk;rcases hw with h|h
 ·exact absurd (h▸hk.1) hk.2
 ·exact h k hk.1
end
def Sb(w:World)(T:Tg)(A:Option Addr)(n c:Nat)(l:List UInt8):Prop:=Rb w A n c l∧(0<n→∀ k,blk A=some k→T k=0)
section
variable {w w':World} {T T':Tg} {A:Option Addr} {n c:Nat} {l:List UInt8}
theorem Rd.lt'{w:World}{size:Nat}{A:Option Addr}{n c:Nat}{xs:List Value}(h:Rd w size A n c xs)(hn:0<n*size){k:Nat}(hk:blk A=some k):k<w.heap.size:=by
 obtain⟨a,ha,rfl⟩:=Option.map_eq_some_iff.1 hk;exact h.lt hn a ha
theorem Rd.of_blocks{w w':World}{size:Nat}{A:Option Addr}{n c:Nat}{xs:List Value}(h:Rd w size A n c xs)(hb:0<n*size→∀ k,blk A=some k→w'.heap[k]?=w.heap[k]?):Rd w' size A n c xs:=by
 refine⟨h.1,h.2.1,h.2.2.1,fun hn=>?_⟩;obtain⟨b,o,e,hc⟩:=h.2.2.2 hn;exact⟨b,o,e,fun j u hu=>by rw[World.cell?_of_block (a:=⟨b,o+j,none⟩) (hb hn b (by rw[e];rfl))];exact hc j u hu⟩
theorem Sb.turn{S:Nat→Prop}(h:Sb w T A n c l)(hT:Turn S w T w' T')(hs:¬ S 0):Sb w' T' A n c l :=
 ⟨Rd.of_blocks h.1 fun hn k hk=>hT.block k (Rd.lt' h.1 hn hk) (by rw[h.2 (by omega) k hk];exact hs),fun hn k hk=>(hT.tag k (Rd.lt' h.1 (by omega) hk)).trans (h.2 hn k hk)⟩
theorem Sb.ext(h:Sb w T A n c l)(e:Ext w w'):Sb w' T A n c l:=⟨h.1.ext e,h.2⟩
end
def In(t n k:Nat):Prop:=t≤k∧k<t+n
theorem In.sub{t n t' n' k:Nat}(h:In t n k)(h1:t'≤t)(h2:t+n≤t'+n'):In t' n' k:=by unfold In at *;omega
def Does(S:Nat→Prop)(w:World)(T:Tg)(v:Value)(Q:World→Tg→Prop)(e:Ending)(w':World):Prop:=e = .returned v∧∃ T',Turn S w T w' T'∧Q w' T'
def Gives(S:Nat→Prop)(w:World)(T:Tg)(Q:Value→World→Tg→Prop)(e:Ending)(w':World):Prop:=∃ v,e = .returned v∧∃ T',Turn S w T w' T'∧Q v w' T'
theorem Turn.sub{t n t' n':Nat}{w w':World}{T T':Tg}(h:Turn (In t n) w T w' T')(h1:t'≤t)(h2:t+n≤t'+n'):Turn (In t' n') w T w' T':=h.mono fun _ hk=>hk.sub h1 h2
theorem Unborn.ext{w w':World}{T:Tg}(h:Unborn w T)(e:Ext w w'):Unborn w' T:=fun k hk=>h k (Nat.le_trans e.size hk)
section
variable {w w' wy:World} {T T':Tg} {t:Nat} {e:TypeId} {size:Nat} {A E:Option Addr} {n c m d:Nat} {xs ys:List Value}
theorem Row.append(h:Row w T t e size A n c xs)(hu:Unborn w T)(ho:Own wy 0 e size E m d ys)(hg:w.grownBy wy (blk A))(hw:Went w A E):Turn (· = t) w T wy (give T (Proofs.YtffcefoadaogbaaGreat.went A E) t)∧Row wy (give T (Proofs.YtffcefoadaogbaaGreat.went A E) t) t e size E m d ys:=by
 refine⟨Turn.give (Turn.of_grown hu hg fun g hg=>h.2 g hg) _ _ fun k hk=>⟨went_new hw hk,?_⟩,h.went ho⟩;simp only[Proofs.YtffcefoadaogbaaGreat.went,decide_eq_true_eq]at hk;obtain⟨a,ha,rfl⟩:=Option.map_eq_some_iff.1 hk.1;exact(ho.base_le a ha).2
theorem Row.fresh(hu:Unborn w T)(ho:Own w' w.heap.size e size A n c xs)(hx:Ext w w')(t:Nat):Turn (fun _=>False) w T w' (give T (Proofs.YtffcefoadaogbaaGreat.went none A) t)∧Row w' (give T (Proofs.YtffcefoadaogbaaGreat.went none A) t) t e size A n c xs:=by
 have hK:∀ k,Proofs.YtffcefoadaogbaaGreat.went none A k=true→blk A=some k:=fun k hk=>by simp only[Proofs.YtffcefoadaogbaaGreat.went,decide_eq_true_eq]at hk;exact hk.1
 refine⟨Turn.give (Turn.of_ext _ hu hx) _ _ fun k hk=>⟨ho.blk_ge k (hK k hk),?_⟩,ho.mono (Nat.zero_le _),fun k hk=>give_in (by simp only[Proofs.YtffcefoadaogbaaGreat.went,decide_eq_true_eq];exact⟨hk,by simp[blk]⟩)⟩;obtain⟨a,ha,rfl⟩:=Option.map_eq_some_iff.1 (hK k hk);exact(ho.base_le a ha).2
theorem Row.len(h:Row w T t e size A n c xs):xs.length=n*size:=h.1.len
def one(b:Nat):Nat→Bool:=fun k=>decide (k=b)
theorem one_in{T:Tg}{b t:Nat}:give T (one b) t b=t:=give_in (by simp[one])
theorem Has.fresh(hu:Unborn w T)(vs:List Value)(ty:TypeId)(t:Nat):Turn (fun _=>False) w T (w.alloc (.cells vs.toArray ty)) (give T (one w.heap.size) t)∧Has (w.alloc (.cells vs.toArray ty)) (give T (one w.heap.size) t) t w.heap.size vs:=by
 refine⟨Turn.give (Turn.of_ext _ hu (Ext.alloc _ _)) _ _ fun k hk=>?_,one_in,ty,heap_alloc_new w _⟩;simp only[one,decide_eq_true_eq]at hk;subst hk;simp
theorem Has.ne_row{b:Nat}{vs:List Value}{t':Nat}(h:Has w T t' b vs)(hr:Row w T t e size A n c xs)(hn:t≠t'):blk A≠some b:=fun hb=>hn ((hr.2 b hb).symm.trans h.1)
theorem Has.put{S:Nat→Prop}{b:Nat}{vs:List Value}(h:Has w T t b vs)(hu:Unborn w T)(i:Nat)(v:Value)(hs:S t):Turn S w T (w.setCell ⟨b,i,none⟩ v) T∧Has (w.setCell ⟨b,i,none⟩ v) T t b (vs.set i v) :=
 ⟨Turn.of_set hu _ _ (by show S (T b);rw[h.1];exact hs),h.set i v⟩
theorem made_one(z:Value)(n:Nat):madeCells #[z] n=(List.replicate n z).toArray:=by
 apply Array.ext
 ·simp[madeCells]
 ·intro i h1 h2
  simp[madeCells,Nat.mod_one]
theorem Rb.from_{b o n c:Nat}{l:List UInt8}(h:Rb w (some ⟨b,o,none⟩) n c l){k:Nat}(hk:k<n):Rb w (some ⟨b,o+k,none⟩) (n-k) (c-k) (l.drop k):=by
 have h9:=h.drop (k:=k) (by omega);rw[if_neg (by have:=h.max;omega)]at h9;simpa [Addr.add_lit] using h9
theorem Rb.from2{b o n c:Nat}{l:List UInt8}(h:Rb w (some ⟨b,o,none⟩) n c l){k:Nat}(hk:k≤n)(hc:k<c):Rb w (some ⟨b,o+k,none⟩) (n-k) (c-k) (l.drop k):=by
 have h9:=h.drop (k:=k) hk;rw[if_neg (by omega)]at h9;simpa [Addr.add_lit] using h9
theorem setc_grown(w:World)(a:Addr)(v:Value):w.grownBy (w.setCell a v) (some a.block) :=
 ⟨rfl,rfl,rfl,by simp[World.setCell],fun k _ hk=>Below.heap_setCell w a v k (by rintro rfl;exact hk rfl)⟩
theorem Has.cell_by{b:Nat}{vs:List Value}(h:Has w T t b vs){row:Option Nat}(hg:w.grownBy w' row)(hne:row≠some b)(i:Nat){v:Value}(hv:vs[i]?=some v):w'.cell? ⟨b,i,none⟩=some v∧w'.frozen? ⟨b,i,none⟩=false:=by
 have:=h.grown hg hne;exact⟨this.cell hv,this.free i⟩
theorem Row.at_(h:Row w T t e size A n c xs){i:Nat}{v:Value}(hv:xs[i]?=some v):∃ g,A=some ⟨g,0,none⟩∧w.cell? ⟨g,i,none⟩=some v∧w.frozen? ⟨g,i,none⟩=false∧T g=t:=by
 rcases h.1.2 with ⟨_,h0⟩|⟨g,cap,cur,hv2,_,hg,_,_,_,htake⟩
 ·have:=h.len
  rw[h0,Nat.zero_mul]at this;rw[List.eq_nil_of_length_eq_zero this]at hv;cases hv
 ·injection hv2 with h1 _ _
  subst h1;refine⟨g,rfl,?_,?_,h.2 g rfl⟩
  ·rw[cell_of_row _ _ _ _ _ _ hg]
   rw[← htake,List.getElem?_take]at hv;split at hv
   ·simpa using hv
   ·cases hv
  ·simp only[World.frozen?,hg]
   simp
theorem Row.put(h:Row w T t e size A n c xs)(hu:Unborn w T){g i:Nat}(hA:A=some ⟨g,0,none⟩)(v:Value):Turn (· = t) w T (w.setCell ⟨g,i,none⟩ v) T∧Row (w.setCell ⟨g,i,none⟩ v) T t e size A n c (xs.set i v):=by
 subst hA;refine⟨Turn.of_set hu _ _ (h.2 g rfl),⟨by rw[List.length_set];exact h.1.1,?_⟩,h.2⟩;rcases h.1.2 with ⟨h0,_⟩|⟨g',cap,cur,hv2,hb,hg,hn,hm,hs,htake⟩
 ·cases h0
 ·injection hv2 with h1 h2 h3
  injection h1 with h1
  injection h1 with h1 _ _
  subst h1;refine .inr ⟨g,cap,cur.setIfInBounds i v,by rw[h3],hb,?_,hn,hm,by rw[Array.size_setIfInBounds];exact hs,?_⟩
  ·simp only[World.setCell,Array.getElem?_modify,hg]
   simp
  ·rw[Array.toList_setIfInBounds,List.take_set,htake]
theorem Row.first(h:Row w T t e size A n c xs){m:Nat}(hm:m≤n)(hA:A=none→n=0∧c=0):Row w T t e size A m c (xs.take (m*size)):=by
 have hle:m*size≤n*size:=Nat.mul_le_mul_right _ hm;refine⟨⟨by rw[List.length_take,h.1.1];omega,?_⟩,h.2⟩;rcases h.1.2 with ⟨h0,h1⟩|⟨g',cap,cur,hv2,hb,hg,hn,hmx,hs,htake⟩
 ·injection h0 with h2 h3 h4
  subst h2;refine .inl ⟨?_,by omega⟩;obtain rfl:m=0:=by omega
  rw[h4]
 ·injection hv2 with h1 h2 h3
  subst h1;refine .inr ⟨g',cap,cur,by rw[h3],hb,hg,Nat.le_trans hm hn,hmx,hs,?_⟩;rw[← htake,List.take_take];congr 1
  omega
theorem Row.rb{l:List UInt8}(h:Row w T t e 1 A n c (bcs l)):Rb w A n c l:=h.rd
theorem Row.to(h:Row w T t e size A n c xs){ys:List Value}(e':xs=ys):Row w T t e size A n c ys:=e'▸h
theorem Sb.of_made{l:List UInt8}{e:TypeId}(hu:Unborn w T)(ho:Own w' w.heap.size e 1 A n c (bcs l)):Sb w' T A n c l:=⟨ho.rd,fun _ k hk=>hu k (ho.blk_ge k hk)⟩
theorem Sb.rb{l:List UInt8}(h:Sb w T A n c l):Rb w A n c l:=h.1
end
theorem run_append_full{P:Program}(w:World)(t ty e:TypeId)(i:TypeInfo)(z:Value)(size bytes:Nat)(ht:P.underlying t=some (.slice e))(hi:P.info? e=some i)(hz:i.zero=some z)
  (hsize:i.size=size) (hby:i.bytes=bytes) (hzs:z.cells.size=size) (hsz:0<size)
  (A:Option Addr) (n:Nat) (olds:List Value) (ho:Rd w size A n n olds) (A':Option Addr) (m c':Nat) (news:List Value) (hr:Rd w size A' m c' news) (hm:0<m) (h1:∀ u∈news,u.oneCell'=true)
  (h63:n+m≤maxLen) (hbytes:(n+m)*bytes≤140737488355328) :
  ∃ B d w',(Builtin.append_ #[t,t] ty #[.slice A n n,.slice A' m c']).run P w = .ok (.slice B (n+m) d) w'∧Own w' w.heap.size e size B (n+m) d (olds++news)∧Ext w w':=by
 obtain⟨b,o,rfl,hc⟩:=hr.2.2.2 (Nat.mul_pos hm hsz);cases A with
 | none =>
  have hn:n=0:=by
   rcases Nat.eq_zero_or_pos n with h0|h0
   ·exact h0
   ·obtain⟨_,_,e,_⟩:=ho.2.2.2 (Nat.mul_pos h0 hsz)
    cases e
  subst hn;have hol:olds=[]:=List.eq_nil_of_length_eq_zero (by simpa using ho.1);subst hol;obtain⟨B,d,w',h2,h3,h4,_⟩:=run_append_to (P:=P) w w.heap.size t ty e i z size bytes ht hi hz hsize hby hzs hsz none 0 0 [] (Own.nil_ _ _ _ _) (some ⟨b,o,none⟩) m c' news hr h1 h63 hbytes (Nat.le_refl _);exact⟨B,d,w',h2,h3,ext_of_grown h4⟩
 | some a =>
  have holds:∀ j u,olds[j]?=some u→w.cell? (a.add j)=some u:=by
   intro j u hu;have hj:=(List.getElem?_eq_some_iff.1 hu).1;obtain⟨b2,o2,e2,hc2⟩:=ho.2.2.2 (by rw[← ho.1];omega);cases e2
   rw[Addr.add_lit];exact hc2 j u hu
  obtain⟨v',w',h2,h3,h4⟩:=run_append_arg_grows (P:=P) w t ty e i z size bytes ht hi hz hsize hby hzs hsz a n n olds ho.1 holds ⟨b,o,none⟩ m c' news hr.1 (fun j u hu=>by rw[Addr.add_lit];exact hc j u hu) (by omega) h63 hbytes;obtain⟨B,d,rfl,h6⟩:=Own.of_row h3;exact⟨B,d,w',h2,h6,ext_of_grown h4⟩
theorem wpList_append_full{P:Program}(w:World){ops:Array Oper}{rest:List Oper}{o:Oper}{a:Act}{Q:Exit→Act→World→Prop}(hgd:o.guard=none)(s x:Operand)(t:TypeId)
  (ho:o.op = .call {callee:=.builtin .append,args:=#[s,x],argTypes:=#[t,t]})
  (e:TypeId) (i:TypeInfo) (z:Value) (size bytes:Nat) (ht:P.underlying t=some (.slice e)) (hi:P.info? e=some i) (hz:i.zero=some z)
  (hsize:i.size=size) (hby:i.bytes=bytes) (hzs:z.cells.size=size) (hsz:0<size)
  (A:Option Addr) (n:Nat) (olds:List Value) (hs:a.eval s = .slice A n n) (hold:Rd w size A n n olds) (A':Option Addr) (m c':Nat) (news:List Value) (hx:a.eval x = .slice A' m c') (hr:Rd w size A' m c' news) (hm:0<m) (h1:∀ u∈news,u.oneCell'=true)
  (h63:n+m≤maxLen) (hbytes:(n+m)*bytes≤140737488355328)
  (h:∀ B d w',Own w' w.heap.size e size B (n+m) d (olds++news)→Ext w w'→wpList P ops Q rest (a.put o.dst (.slice B (n+m) d)) w') :
  wpList P ops Q (o::rest) a w:=by
 refine wpList_plain hgd fun K hK=>?_;obtain⟨B,d,w',hr2,h2,h3⟩:=run_append_full (P:=P) w t o.type e i z size bytes ht hi hz hsize hby hzs hsz A n olds hold A' m c' news hr hm h1 h63 hbytes;unfold Oper.wp execOp;simp only[ho,resolve,invoke,builtin,Sem.run_bind,Sem.run_pure,Result.andThen_ok,List.map_toArray,List.map_cons,List.map_nil,hs,hx,hr2];exact hK _ _ (h B d w' h2 h3)
theorem Rd.cap{w:World}{size:Nat}{A:Option Addr}{n c:Nat}{xs:List Value}(h:Rd w size A n c xs):Rd w size A n n xs:=⟨h.1,Nat.le_refl _,Nat.le_trans h.2.1 h.2.2.1,h.2.2.2⟩
def zig(n:Int):Nat:=if n<0 then (-2*n-1).toNat else (2*n).toNat
def zag(u:Nat):Int:=if u % 2=1 then -((u / 2:Nat):Int)-1 else ((u / 2:Nat):Int)
theorem zag_zig(n:Int):zag (zig n)=n:=by
 unfold zag zig;by_cases h:n<0
 ·rw[if_pos h,if_pos (by omega)];omega
 ·rw[if_neg h,if_neg (by omega)];omega
theorem zig_lt{n:Int}(h0:-9223372036854775808≤n)(h1:n≤9223372036854775807):zig n<18446744073709551616:=by
 unfold zig;split<;>omega
def putF:Nat→Nat→List UInt8
 | 0,_=>[]
 | k+1,u=>if u>127 then UInt8.ofNat (u % 128+128)::putF k (u / 128) else [UInt8.ofNat u]
def putL(n:Int):List UInt8:=putF 10 (zig n)
def getGo:Nat→Nat→List UInt8→Int×Nat×Int
 | _,_,[]=>(0,0,2)
 | i,u,c::r =>
  if i=9∧1<c.toNat then (0,0,1)
  else if 127<c.toNat then getGo (i+1) (u+(c.toNat % 128)*2 ^ (7*i)) r
  else if 0<i∧c.toNat=0 then (0,0,1)
  else (zag (u+(c.toNat % 128)*2 ^ (7*i)),i+1,0)
def getL(l:List UInt8):Int×Nat×Int:=getGo 0 0 l
def bytesL(s:List UInt8):List UInt8:=putL s.length++s
def fourL(n:Nat):List UInt8:=[UInt8.ofNat (n / 16777216),UInt8.ofNat (n / 65536 % 256),UInt8.ofNat (n / 256 % 256),UInt8.ofNat (n % 256)]
theorem toNat_ofNat8{n:Nat}(h:n<256):(UInt8.ofNat n).toNat=n:=by simp[UInt8.toNat_ofNat'];omega
theorem putF_le:∀(k u:Nat),(putF k u).length≤k
 | 0,_=>by simp[putF]
 | k+1,u=>by
  unfold putF;split
  ·have:=putF_le k (u / 128)
   simp;omega
  ·simp
theorem putF_pos(k u:Nat):0<(putF (k+1) u).length:=by unfold putF;split<;>simp
theorem putL_le(n:Int):(putL n).length≤10:=putF_le 10 _
theorem putL_pos(n:Int):0<(putL n).length:=putF_pos 9 _
theorem pow128(k:Nat):128 ^ (k+1)=128*128 ^ k:=by rw[Nat.pow_succ,Nat.mul_comm]
theorem two_pow7(i:Nat):2 ^ (7*i)=128 ^ i:=by rw[Nat.pow_mul]
theorem getGo_put:∀(k i u v:Nat) (rest:List UInt8),i+k=10→(0<i→0<v)→v*128 ^ i<18446744073709551616 →
  getGo i u (putF k v++rest)=if k=0 then getGo i u rest else (zag (u+v*128 ^ i),i+(putF k v).length,0)
 | 0,i,u,v,rest,_,_,_=>by simp[putF]
 | k+1,i,u,v,rest,hik,hv,hlt=>by
  rw[if_neg (by omega)];have hpow:128 ^ i*128 ^ k=128 ^ 9:=by rw[← Nat.pow_add];congr 1;omega
  unfold putF;by_cases h:v>127
  ·rw[if_pos h]
   have hk:k≠0:=by
    intro h0;subst h0;obtain rfl:i=9:=by omega
    have:128*128 ^ 9≤v*128 ^ 9:=Nat.mul_le_mul_right _ (by omega);have e:(128:Nat)*128 ^ 9=1180591620717411303424:=by decide
    omega
   have ht:(UInt8.ofNat (v % 128+128)).toNat=v % 128+128:=toNat_ofNat8 (by omega);rw[List.cons_append,getGo,ht,if_neg (by omega),if_pos (by omega)];have hm:(v % 128+128) % 128=v % 128:=by omega
   have hstep:=Nat.div_add_mod v 128;have he:v*128 ^ i=v / 128*128 ^ (i+1)+v % 128*128 ^ i:=by
    rw[pow128,← Nat.mul_assoc,Nat.mul_comm (v / 128) 128,← Nat.add_mul,hstep]
   rw[hm,two_pow7,getGo_put k (i+1) _ _ rest (by omega) (by omega) (by omega),if_neg hk];simp only[List.length_cons];rw[show u+v % 128*128 ^ i+v / 128*128 ^ (i+1)=u+v*128 ^ i from by omega,show i+1+(putF k (v / 128)).length=i+((putF k (v / 128)).length+1) from by omega]
  ·rw[if_neg h]
   have ht:(UInt8.ofNat v).toNat=v:=toNat_ofNat8 (by omega);have h9:¬ (i=9∧1<v):=by
    rintro ⟨rfl,h1⟩;have:2*128 ^ 9≤v*128 ^ 9:=Nat.mul_le_mul_right _ (by omega);have e:(2:Nat)*128 ^ 9=18446744073709551616:=by decide
    omega
   rw[List.cons_append,getGo,ht,if_neg h9,if_neg (by omega),if_neg (by omega),two_pow7];have:v % 128=v:=by omega
   rw[this];rfl
theorem get_put{n:Int}(h0:-9223372036854775808≤n)(h1:n≤9223372036854775807)(rest:List UInt8):getL (putL n++rest)=(n,(putL n).length,0):=by
 unfold getL putL;rw[getGo_put 10 0 0 (zig n) rest rfl (by omega) (by have:=zig_lt h0 h1;simpa using this)]
 simp[zag_zig]
def putAll(l:List Int):List UInt8:=l.flatMap putL
theorem putAll_le:∀ l:List Int,(putAll l).length≤10*l.length
 | []=>by simp[putAll]
 | x::l=>by
  have h1:=putAll_le l;have h2:=putL_le x;simp only[putAll,List.flatMap_cons,List.length_append,List.length_cons]at h1 ⊢;omega
theorem info_u8:(prog.info? 5).map (fun i=>(i.zero,i.size,i.bytes))=some (some (.int .u8 0),1,1):=by kernel_rfl
theorem not64(n:Nat)(h:n<18446744073709551616):bits BinOp.xor IntKind.u64 IntKind.u64.max (n:Int)=((18446744073709551615-n:Nat):Int):=by
 have e:BitVec.ofInt 64 IntKind.u64.max=BitVec.allOnes 64:=by decide
 show IntKind.u64.wrap ((BitVec.ofInt 64 IntKind.u64.max ^^^ BitVec.ofInt 64 (n:Int)).toNat:Int)=_
 rw[e,BitVec.xor_comm,BitVec.xor_allOnes,BitVec.toNat_not,BitVec.ofInt_natCast,BitVec.toNat_ofNat,Nat.mod_eq_of_lt (by omega),IntKind.wrap_u64];omega
theorem zig_neg{x:Int}(h:x<0)(h0:-9223372036854775808≤x):bits BinOp.xor IntKind.u64 IntKind.u64.max (IntKind.u64.wrap (IntKind.u64.wrap x*2))=(zig x:Int):=by
 have e:IntKind.u64.wrap (IntKind.u64.wrap x*2)=((18446744073709551616+2*x).toNat:Int):=by
  rw[IntKind.wrap_u64,IntKind.wrap_u64];omega
 rw[e,not64 _ (by omega)];unfold zig;rw[if_pos h];omega
theorem zig_pos{x:Int}(h:¬ x<0):x*2=(zig x:Int):=by
 unfold zig;rw[if_neg h];omega
theorem zig_ways{x:Int}(h0:-9223372036854775808≤x):(x<0∧bits BinOp.xor IntKind.u64 IntKind.u64.max (IntKind.u64.wrap (IntKind.u64.wrap x*2))=(zig x:Int))∨(¬ x<0∧x*2=(zig x:Int)):=by
 by_cases h:x<0
 ·exact .inl ⟨h,zig_neg h h0⟩
 ·exact .inr ⟨h,zig_pos h⟩
theorem or128_nat:∀ n:Nat,n<256→bits BinOp.or IntKind.u8 (n:Int) 128=((n % 128+128:Nat):Int):=by decide
theorem or128(u:Nat):bits BinOp.or IntKind.u8 (↑u % 256) 128=(↑u % 128+128:Int):=by
 have:=or128_nat (u % 256) (by omega);have e:((u % 256:Nat):Int) = ↑u % 256:=by omega
 rw[e]at this;rw[this];omega
theorem pow128_10:(128:Nat) ^ (9+1)=1180591620717411303424:=by decide
def PutRel(w:World)(base:Nat)(A:Option Addr)(l:List UInt8)(x:Int)(v u:Value)(wr:World):Prop :=
 ∃ B m d pre q k,v = .slice B m d∧u = .int .u64 (q:Nat)∧Own wr base 5 1 B m d (bcs (l++pre))∧w.grownBy wr (blk A)∧Went w A B∧pre++putF (k+1) q=putL x∧q<128 ^ (k+1)∧pre.length+(k+1)=10∧q<18446744073709551616
theorem cell_byte{n:Nat}(h:n<256):bcs [UInt8.ofNat n]=[.int .u8 (n:Int)]:=by
 simp only[bcs,List.map_cons,List.map_nil];rw[toNat_ofNat8 h]
theorem put_again{w:World}{base:Nat}{A:Option Addr}{l:List UInt8}{x:Int}{wr w':World}{B C:Option Addr}{m' d':Nat}{pre:List UInt8}{q k:Nat}(hq:127<q)
  (hg:w.grownBy wr (blk A)) (hw:Went w A B) (hp:pre++putF (k+1) q=putL x) (hlt:q<128 ^ (k+1)) (hk:pre.length+(k+1)=10) (hq64:q<18446744073709551616)
  (ho:Own w' base 5 1 C m' d' (bcs (l++pre)++[.int .u8 (↑q % 128+128)])) (hg':wr.grownBy w' (blk B)) (hw':blk C=blk B∨∀ k,blk C=some k→wr.heap.size≤k) :
  PutRel w base A l x (.slice C m' d') (.int .u64 (↑q / 128)) w':=by
 have hk0:k≠0:=by rintro rfl;simp at hlt;omega
 obtain⟨k,rfl⟩:∃ j,k=j+1:=⟨k-1,by omega⟩;refine⟨C,m',d',pre++[UInt8.ofNat (q % 128+128)],q / 128,k,rfl,by simp,?_,grown_went hg hw hg',hw.trans hg.size hw',?_,?_,by simp;omega,by omega⟩
 ·have e:=cell_byte (n:=q % 128+128) (by omega)
  rw[← List.append_assoc,bcs_append,e];exact ho
 ·rw[List.append_assoc,← hp]
  conv=>rhs;rw[putF,if_pos hq]
  rfl
 ·rw[pow128]at hlt
  omega
theorem put_end{w:World}{base:Nat}{A:Option Addr}{l:List UInt8}{x:Int}{wr w':World}{B C:Option Addr}{m' d':Nat}{pre:List UInt8}{q k:Nat}(hq:q≤127)
  (hg:w.grownBy wr (blk A)) (hw:Went w A B) (hp:pre++putF (k+1) q=putL x)
  (ho:Own w' base 5 1 C m' d' (bcs (l++pre)++[.int .u8 ↑q])) (hg':wr.grownBy w' (blk B)) (hw':blk C=blk B∨∀ k,blk C=some k→wr.heap.size≤k) :
  Appended w base 5 1 A (bcs (l++putL x)) (.returned (.slice C m' d')) w':=by
 refine⟨C,m',d',rfl,?_,grown_went hg hw hg',hw.trans hg.size hw'⟩;have e:=cell_byte (n:=q) (by omega);rw[← hp,putF,if_neg (by omega),← List.append_assoc,bcs_append,e];exact ho
theorem put_any(base:Nat)(A:Option Addr)(n c:Nat)(l:List UInt8)(x:Int)(w:World)(h0:-9223372036854775808≤x)(h1:x≤9223372036854775807)
  (hown:Own w base 5 1 A n c (bcs l)) (hn:n≤1099511627776) (hb:base≤w.heap.size) :
  Calls prog 198 #[.slice A n c,.int .i64 x] w (Appended w base 5 1 A (bcs (l++putL x))):=by
 obtain⟨i,hi,hz0,hz1,hz2⟩:=info_parts info_u8;have hzl:=zig_lt h0 h1;have hln:l.length≤n:=by have:=hown.len;simp[bcs_length]at this;omega
 rcases zig_ways h0 with ⟨hx,hz⟩|⟨hx,hz⟩
 all_goals
  go_enter func198,ntmps198;go_wp2_with fail;clear hz;go_loopw [0,5] (fun v u wr=>PutRel w base A l x v u wr) (fun _ u _=>(intOf u).toNat)
  case atStart=>exact⟨A,n,c,[],zig x,9,rfl,rfl,by simpa using hown,World.grownBy.refl w _,Went.refl w A,rfl,by rw[pow128_10];omega,rfl,hzl⟩
  case round =>
   obtain⟨B,m,d,pre,q,k,rfl,rfl,ho,hg,hw,hp,hq,hk,hq64⟩:=hrel;have hm:m≤n+10:=by have:=ho.len;simp[bcs_length]at this;omega
   have hbw:base≤wr.heap.size:=Nat.le_trans hb hg.size;have hor:=or128 q;have Hp:=hqd hp;have Hk:=hqd hk;clear hp hk;go_wp2_with (at_builtin;refine wpList_append_new _ rfl _ _ 30 rfl base 5 i (.int .u8 0) 1 1 underlying30 hi hz0 hz1 hz2 rfl (by decide) B m d _ rfl ho 1 _ rfl rfl (by simp[Value.oneCell']) (by unfold maxLen;omega) (by omega) hbw ?_;intro B' d' w' ho' hg' hw')
   ·go_roundw
    case rel=>exact put_again (by omega) hg hw Hp.out hq Hk.out hq64 ho' hg' hw'
    case measure=>simp[intOf];omega
   ·go_ret
    exact put_end (by omega) hg hw Hp.out ho' hg' hw'
abbrev Post:=Value ⊕ (Value→World→Prop)
def okPost(q:Post)(v:Value)(w:World):Prop:=match q with|.inl u=>v=u|.inr p=>p v w
def fits(q:Post)(v:Value):Prop:=match q with|.inl u=>v=u|.inr _=>True
def befMask(acc:List Nat):List Edge→Nat
 | []=>0
 | e::es=>if Region.binds .any e then befMask acc es ||| 2 ^ e.on ||| acc.getD e.on 0 else befMask acc es
def befGo(acc:List Nat):List Oper→List Nat
 | []=>acc
 | o::os=>befGo (acc++[befMask acc o.after.toList]) os
def bef(l:List Oper)(i j:Nat):Bool:=((befGo [] l).getD i 0).testBit j
def dstIs(o:Oper)(t:Tmp):Bool:=match o.dst with|some d=>d==t|none=>false
def statAt(l:List Oper)(tab:List Nat)(i:Nat)(o:Oper):Bool :=
 (o.after.toList.all fun e=>!Region.binds .any e || decide (e.on<i)) &&
 (match o.op with|.select ..=>false|_=>true) &&
 (l.zipIdx.all fun x=>x.2==i ||
  ((match o.dst with|some d=>!dstIs x.1 d|none=>true) &&
   ((o.looksAt l.toArray).all fun t=>!dstIs x.1 t || (if x.2<i then (tab.getD i 0).testBit x.2 else (tab.getD x.2 0).testBit i))))
def stat(l:List Oper):Bool:=l.zipIdx.all fun x=>statAt l (befGo [] l) x.2 x.1
def yieldsW(P:Program)(N:Value→World→Prop):Result Next→Prop
 | .ok (.value v) w'=>N v w'
 | .ok .skip w'=>N undef w'
 | .ok (.enter f args) w'=>Calls P f args w' fun e w''=>∃ v,e = .returned v∧N v w''
 | _=>False
section
variable (P:Program) (R:World→World→Prop) (w0:World) (l:List Oper) (Q:Act→World→Prop)
def Step(o:Oper)(a:Act)(G:World→Prop)(q:Post):Prop :=
 ∀ w,R w0 w→G w→yieldsW P (fun v w'=>R w w'∧okPost q v w') ((execOp a.eval o).run P w)
def lex:List Post→List Oper→Nat→Act→((Nat→Bool)→World→Prop)→Prop
 | [],[],_,a,Φ=>∀ w,R w0 w→Φ (fun _=>true) w→Q a w
 | q::qs,o::os,i,a,Φ =>
  (if Region.wanted o (yielded l.toArray a.tmps) then Step P R w0 o a (Φ (bef l i)) q else q = .inl undef) ∧
  (match q with
   | .inl u=>lex qs os (i+1) (a.put o.dst u) Φ
   | .inr p=>(∀ v w w',p v w→R w w'→p v w')∧∀ v,lex qs os (i+1) (a.put o.dst v) (fun d w=>(d i=true→p v w)∧Φ d w))
 | _,_,_,_,_=>False
end
section
variable {P:Program} {R:World→World→Prop} {w0:World} {l:List Oper} {Q:Act→World→Prop}
def Frm(l:List Oper)(a0:Act)(S:Nat→Prop)(σ:Nat→Value)(a:Act):Prop :=
 a.defers=a0.defers∧a.tmps.size=a0.tmps.size ∧
 (∀ t,(∀ i o,l[i]?=some o→S i→o.dst≠some t)→a.tmps[t]?=a0.tmps[t]?) ∧
 (∀ i o t,l[i]?=some o→S i→o.dst=some t→t<a0.tmps.size→a.tmps[t]?=some (σ i))
theorem dstIs_iff{o:Oper}{t:Tmp}:dstIs o t=true↔o.dst=some t:=by
 unfold dstIs;cases o.dst<;>simp
theorem stat_at(h:stat l=true){i:Nat}{o:Oper}(ho:l[i]?=some o):statAt l (befGo [] l) i o=true:=by
 unfold stat at h;rw[List.all_eq_true]at h;have hm:(o,i)∈l.zipIdx:=List.mk_mem_zipIdx_iff_getElem?.2 ho;exact h _ hm
theorem stat_edge(h:stat l=true){i:Nat}{o:Oper}(ho:l[i]?=some o){e:Edge}(he:e∈o.after)(hb:Region.binds .any e=true):e.on<i:=by
 have h1:=stat_at h ho;simp only[statAt,Bool.and_eq_true,List.all_eq_true]at h1;have h2:=h1.1.1 e (by simpa using he);rw[hb]at h2;simpa using h2
theorem stat_sel(h:stat l=true){i:Nat}{o:Oper}(ho:l[i]?=some o):∀ cs b,o.op≠.select cs b:=by
 intro cs b hsel;have h1:=stat_at h ho;simp only[statAt,Bool.and_eq_true]at h1;have h2:=h1.1.2;rw[hsel]at h2;simp at h2
theorem stat_one(h:stat l=true){i j:Nat}{o x:Oper}(ho:l[i]?=some o)(hx:l[j]?=some x){t:Tmp}(h1:o.dst=some t)(h2:x.dst=some t):i=j:=by
 rcases Decidable.em (j=i) with e|e
 ·exact e.symm
 ·exfalso
  have h3:=stat_at h ho;simp only[statAt,Bool.and_eq_true,List.all_eq_true]at h3;have hm:(x,j)∈l.zipIdx:=List.mk_mem_zipIdx_iff_getElem?.2 hx;have h4:=h3.2 _ hm;simp only[h1,dstIs_iff.2 h2,Bool.not_true,Bool.false_and,Bool.or_false,beq_iff_eq]at h4;exact e h4
theorem stat_look(h:stat l=true){i j:Nat}{o x:Oper}(ho:l[i]?=some o)(hx:l[j]?=some x){t:Tmp}(h1:t∈o.looksAt l.toArray)(h2:x.dst=some t) :
  j=i∨(j<i∧bef l i j=true)∨(¬ j<i∧bef l j i=true):=by
 rcases Decidable.em (j=i) with e|e
 ·exact .inl e
 ·refine .inr ?_
  have h3:=stat_at h ho;simp only[statAt,Bool.and_eq_true,List.all_eq_true]at h3;have hm:(x,j)∈l.zipIdx:=List.mk_mem_zipIdx_iff_getElem?.2 hx;have h4:=h3.2 _ hm;rw[Bool.or_eq_true]at h4;rcases h4 with h4|h4
  ·exact absurd (by simpa using h4) e
  ·rw[Bool.and_eq_true]at h4
   have h5:=h4.2;rw[List.all_eq_true]at h5;have h6:=h5 t h1;rw[dstIs_iff.2 h2,Bool.not_true,Bool.false_or]at h6;by_cases hlt:j<i
   ·rw[if_pos hlt]at h6
    exact .inl ⟨hlt,h6⟩
   ·rw[if_neg hlt]at h6
    exact .inr ⟨hlt,h6⟩
def Shut(l:List Oper)(S:Nat→Prop):Prop:=∀ i o,l[i]?=some o→S i→∀ e∈o.after,Region.binds .any e=true→S e.on
theorem befMask_spec{acc:List Nat}{S:Nat→Prop}(hacc:∀ i m,acc[i]?=some m→S i→∀ j,m.testBit j=true→S j):∀(es:List Edge),(∀ e∈es,Region.binds .any e=true→S e.on)→∀ j,(befMask acc es).testBit j=true→S j
 | [],_,j,h=>by simp[befMask]at h
 | e::es,hes,j,h=>by
  have ih:=befMask_spec hacc es (fun e he=>hes e (List.mem_cons_of_mem _ he)) j;unfold befMask at h;split at h
  ·rename_i hb
   rw[Nat.testBit_or,Nat.testBit_or,Bool.or_eq_true,Bool.or_eq_true]at h;rcases h with (h|h)|h
   ·exact ih h
   ·rw[Nat.testBit_two_pow]at h
    simp only[decide_eq_true_eq]at h;rw[← h];exact hes e (List.mem_cons_self) hb
   ·have hS:=hes e (List.mem_cons_self) hb
    rcases hg:acc[e.on]? with _|m
    ·simp[List.getD,hg]at h
    ·simp[List.getD,hg]at h
     exact hacc _ _ hg hS j h
  ·exact ih h
theorem befGo_spec{S:Nat→Prop}(hS:Shut l S):∀(os:List Oper) (acc:List Nat),(∀ k,os[k]?=l[acc.length+k]?)→(∀ i m,acc[i]?=some m→S i→∀ j,m.testBit j=true→S j) →
  ∀ i m,(befGo acc os)[i]?=some m→S i→∀ j,m.testBit j=true→S j
 | [],acc,_,hacc=>hacc
 | o::os,acc,hl,hacc=>by
  unfold befGo;refine befGo_spec hS os _ (fun k=>?_) ?_
  ·have:=hl (k+1)
   simp only[List.getElem?_cons_succ]at this;rw[this,List.length_append,List.length_singleton];congr 1
   omega
  ·intro i m hm hi j hj
   rw[List.getElem?_append]at hm;split at hm
   ·exact hacc i m hm hi j hj
   ·rename_i hge
    have h0:l[acc.length]?=some o:=by simpa using (hl 0).symm
    rcases hk:i-acc.length with _|k
    ·rw[hk]at hm
     simp at hm
     subst hm;obtain rfl:i=acc.length:=by omega
     exact befMask_spec hacc _ (fun e he hb=>hS _ _ h0 hi e (by simpa using he) hb) j hj
    ·rw[hk]at hm
     simp at hm
theorem bef_in{S:Nat→Prop}(hS:Shut l S){i j:Nat}(hi:S i)(h:bef l i j=true):S j:=by
 unfold bef at h;rcases hm:(befGo [] l)[i]? with _|m
 ·simp[List.getD,hm]at h
 ·simp[List.getD,hm]at h
  exact befGo_spec hS l [] (by simp) (by simp) i m hm hi j h
theorem bef_of_ready{S:Nat→Prop}(hS:Shut l S){i j:Nat}{o:Oper}(ho:l[i]?=some o)(hi:∀ e∈o.after,Region.binds .any e=true→S e.on)(h:bef l i j=true)(hij:j≠i):S j:=by
 have:=bef_in (l:=l) (S:=fun k=>S k∨k=i) (i:=i) (j:=j) ?_ (.inr rfl) h
 ·exact this.resolve_right hij
 ·intro k x hk hSk e he hb
  rcases hSk with hSk|rfl
  ·exact .inl (hS k x hk hSk e he hb)
  ·rw[ho]at hk
   cases hk
   exact .inl (hi e he hb)
theorem eval_congr{a a':Act}{x:Operand}(h:∀ t,x = .tmp t→a.tmps[t]?=a'.tmps[t]?):a.eval x=a'.eval x:=by
 cases x with
 | tmp t =>
  have:=h t rfl;simp only[Act.eval,Array.getD_eq_getD_getElem?,this]
 | _=>rfl
theorem yielded_congr{ops:Array Oper}{t t':Array Value}{j:Nat}(h:∀ d,((ops[j]?).bind (·.dst))=some d→t[d]?=t'[d]?):yielded ops t j=yielded ops t' j:=by
 unfold yielded;cases hd:(ops[j]?).bind (·.dst) with
 | none=>rfl
 | some d=>simp only[Option.bind_some];rw[h d hd]
theorem looks_op{o:Oper}{ops:Array Oper}{t:Tmp}(h:Operand.tmp t∈o.op.operands):t∈o.looksAt ops :=
 List.mem_append_left _ (List.mem_filterMap.2 ⟨.tmp t,by simpa using h,rfl⟩)
theorem execOp_same{o:Oper}{a a':Act}(hs:∀ cs b,o.op≠.select cs b)(h:∀ t∈o.looksAt l.toArray,a.tmps[t]?=a'.tmps[t]?):execOp a.eval o=execOp a'.eval o :=
 execOp_congr o hs fun x hx=>eval_congr fun t ht=>h t (looks_op (by rw[← ht];exact hx))
theorem wanted_same{o:Oper}{a a':Act}(h:∀ t∈o.looksAt l.toArray,a.tmps[t]?=a'.tmps[t]?):Region.wanted o (yielded l.toArray a.tmps)=Region.wanted o (yielded l.toArray a'.tmps):=by
 unfold Region.wanted;cases hg:o.guard with
 | none=>rfl
 | some g =>
  obtain⟨j,b⟩:=g;simp only;rw[yielded_congr fun d hd=>h d ?_];refine List.mem_append_right _ ?_;rw[hg];simp only;rw[hd];simp
theorem Frm.agree{a0 a a':Act}{S S':Nat→Prop}{σ:Nat→Value}(h:Frm l a0 S σ a)(h':Frm l a0 S' σ a'){ts:List Tmp}
  (hS:∀ t∈ts,∀ j x,l[j]?=some x→x.dst=some t→(S j↔S' j)):∀ t∈ts,a.tmps[t]?=a'.tmps[t]?:=by
 intro t ht;by_cases hw:∃ j x,l[j]?=some x∧x.dst=some t∧S j
 ·obtain⟨j,x,hx,hd,hSj⟩:=hw
  by_cases hlt:t<a0.tmps.size
  ·rw[h.2.2.2 j x t hx hSj hd hlt,h'.2.2.2 j x t hx ((hS t ht j x hx hd).1 hSj) hd hlt]
  ·rw[Array.getElem?_eq_none (by rw[h.2.1];exact Nat.le_of_not_lt hlt),Array.getElem?_eq_none (by rw[h'.2.1];exact Nat.le_of_not_lt hlt)]
 ·rw[h.2.2.1 t (fun i o ho hi hd=>hw ⟨i,o,ho,hd,hi⟩),h'.2.2.1 t (fun i o ho hi hd=>hw ⟨i,o,ho,hd,(hS t ht i o ho hd).2 hi⟩)]
theorem Frm.ext_{a0 a a':Act}{S:Nat→Prop}{σ:Nat→Value}(h:Frm l a0 S σ a)(h':Frm l a0 S σ a'):a=a':=by
 have ht:a.tmps=a'.tmps:=by
  apply Array.ext_getElem?;intro t;exact h.agree h' (ts:=[t]) (fun _ _ _ _ _ _=>Iff.rfl) t (by simp)
 cases a;cases a'
 have:=h.1.trans h'.1.symm;simp_all
theorem Frm.put{a0 a:Act}{S S':Nat→Prop}{σ σ':Nat→Value}(hst:stat l=true)(h:Frm l a0 S σ a){i:Nat}{o:Oper}(ho:l[i]?=some o)(v:Value)
  (hσ:∀ j,S j→j≠i→σ' j=σ j) (hv:σ' i=v) (hS:∀ j,S' j↔S j∨j=i):Frm l a0 S' σ' (a.put o.dst v):=by
 have hdf:(a.put o.dst v).defers=a.defers:=by cases o.dst<;>rfl
 have hsz:(a.put o.dst v).tmps.size=a.tmps.size:=by cases o.dst<;>simp[Act.put]
 refine⟨hdf.trans h.1,hsz.trans h.2.1,fun t hn=>?_,fun j x t hx hj hd hlt=>?_⟩
 ·have hot:o.dst≠some t:=hn i o ho ((hS i).2 (.inr rfl))
  have e:(a.put o.dst v).tmps[t]?=a.tmps[t]?:=by
   cases hd:o.dst with
   | none=>rfl
   | some d =>
    have:d≠t:=fun e=>hot (by rw[hd,e]);simp[Act.put,Array.getElem?_setIfInBounds_ne this]
  rw[e];exact h.2.2.1 t fun j x hx hj=>hn j x hx ((hS j).2 (.inl hj))
 ·by_cases hji:j=i
  ·subst hji
   rw[ho]at hx;cases hx
   rw[hd,hv];have h2:=h.2.1;simp only[Act.put];rw[Array.getElem?_setIfInBounds_self_of_lt (by omega)]
  ·have hSj:S j:=((hS j).1 hj).resolve_right hji
   have hot:o.dst≠some t:=fun e=>hji (stat_one hst hx ho hd e);have e:(a.put o.dst v).tmps[t]?=a.tmps[t]?:=by
    cases hd':o.dst with
    | none=>rfl
    | some d =>
     have:d≠t:=fun e=>hot (by rw[hd',e]);simp[Act.put,Array.getElem?_setIfInBounds_ne this]
   rw[e,hσ j hSj hji];exact h.2.2.2 j x t hx hSj hd hlt
theorem Frm.start(a0:Act){S:Nat→Prop}(σ:Nat→Value)(hS:∀ i,¬ S i):Frm l a0 S σ a0:=⟨rfl,rfl,fun _ _=>rfl,fun i _ _ _ h=>absurd h (hS i)⟩
theorem lex_at(hst:stat l=true){a0:Act}{σ:Nat→Value}(n0:Nat)(hn0:n0≤l.length)(allq:List Post)(hlq:allq.length=n0)(hfit:∀ i q,allq[i]?=some q→fits q (σ i)) :
  ∀(qs:List Post) (os:List Oper) (i:Nat) (a:Act) (Φ:(Nat→Bool)→World→Prop),i+os.length=n0→(∀ k,k<os.length→os[k]?=l[i+k]?)→(∀ k,qs[k]?=allq[i+k]?)→lex P R w0 l Q qs os i a Φ→Frm l a0 (· < i) σ a →
   (∀ d w,(∀ j q,j<i→allq[j]?=some q→d j=true→okPost q (σ j) w)→Φ d w) →
   (∀ j o,i≤j→j<n0→l[j]?=some o→∃ a q,allq[j]?=some q∧Frm l a0 (· < j) σ a ∧
    (if Region.wanted o (yielded l.toArray a.tmps) then Step P R w0 o a (fun w=>∀ k q,k<j→allq[k]?=some q→bef l j k=true→okPost q (σ k) w) q else q = .inl undef)) ∧
   (∃ a,Frm l a0 (· < n0) σ a∧∀ w,R w0 w→(∀ j q,allq[j]?=some q→j<n0→okPost q (σ j) w)→Q a w)
 | [],[],i,a,Φ,hin,hl,hq,h,hf,hΦ=>by
  have hi:i=n0:=by simpa using hin
  subst hi;refine⟨fun j o hj hj2 ho=>by omega,a,hf,fun w hw hall=>h w hw (hΦ _ _ fun j q hj hq2 _=>hall j q hq2 hj)⟩
 | [],_::_,_,_,_,_,_,_,h,_,_=>h.elim
 | _::_,[],_,_,_,_,_,_,h,_,_=>h.elim
 | q::qs,o::os,i,a,Φ,hin,hl,hq,h,hf,hΦ=>by
  simp only[List.length_cons]at hin hl;have ho:l[i]?=some o:=by simpa using (hl 0 (by omega)).symm
  have hq0:allq[i]?=some q:=by simpa using (hq 0).symm
  have hl':∀ k,k<os.length→os[k]?=l[i+1+k]?:=fun k hk=>by have:=hl (k+1) (by omega);simp only[List.getElem?_cons_succ]at this;rw[this];congr 1;omega
  have hq':∀ k,qs[k]?=allq[i+1+k]?:=fun k=>by have:=hq (k+1);simp only[List.getElem?_cons_succ]at this;rw[this];congr 1;omega
  have hput:∀ v,σ i=v→Frm l a0 (· < i+1) σ (a.put o.dst v):=fun v hv=>hf.put hst ho v (fun _ _ _=>rfl) hv (fun j=>by omega);obtain⟨hstep,hrest⟩:=h;have hfq:=hfit i q hq0;have key:(∀ j o,i+1≤j→j<n0→l[j]?=some o→∃ a q,allq[j]?=some q∧Frm l a0 (· < j) σ a ∧
    (if Region.wanted o (yielded l.toArray a.tmps) then Step P R w0 o a (fun w=>∀ k q,k<j→allq[k]?=some q→bef l j k=true→okPost q (σ k) w) q else q = .inl undef)) ∧
   (∃ a,Frm l a0 (· < n0) σ a∧∀ w,R w0 w→(∀ j q,allq[j]?=some q→j<n0→okPost q (σ j) w)→Q a w):=by
   cases q with
   | inl u=>exact lex_at hst n0 hn0 allq hlq hfit qs os (i+1) _ Φ (by omega) hl' hq' hrest (hput u hfq) fun d w hall=>hΦ d w fun j q hj hq2 hd=>hall j q (by omega) hq2 hd
   | inr p =>
    refine lex_at hst n0 hn0 allq hlq hfit qs os (i+1) _ _ (by omega) hl' hq' (hrest.2 (σ i)) (hput _ rfl) fun d w hall=>⟨fun hd=>?_,hΦ d w fun j q hj hq2 hd=>hall j q (by omega) hq2 hd⟩;exact hall i _ (by omega) hq0 hd
  refine⟨fun j x hj hj2 hx=>?_,key.2⟩;rcases Nat.lt_or_ge i j with hlt|hge
  ·exact key.1 j x hlt hj2 hx
  ·obtain rfl:j=i:=by omega
   rw[ho]at hx;cases hx
   refine⟨a,q,hq0,hf,?_⟩;by_cases hw:Region.wanted o (yielded l.toArray a.tmps)=true
   ·rw[if_pos hw]at hstep ⊢
    intro w hR hG;exact hstep w hR (hΦ _ _ fun k q hk hq2 hb=>hG k q hk hq2 hb)
   ·rw[if_neg hw]at hstep ⊢
    exact hstep
theorem wp_of_yields{o:Oper}{a:Act}{K:Act→World→Prop}{Q:Exit→Act→World→Prop}{w:World}{N:Value→World→Prop}(hN:∀ v w',N v w'→K (a.put o.dst v) w')(h:yieldsW P N ((execOp a.eval o).run P w)):o.wp P a w K Q:=by
 unfold Oper.wp;generalize (execOp a.eval o).run P w=r at *;cases r with
 | ok n w' =>
  cases n<;>simp only[Oper.upon,yieldsW]at h ⊢ <;>
   first
    | exact hN _ _ h
    | exact Calls.mono h (fun e w'' he=>by obtain⟨v,rfl,hv⟩:=he;exact hN _ _ hv)
    | exact h.elim
 | halt x w'=>exact h.elim
theorem lex_len:∀(qs:List Post) (os:List Oper) (i:Nat) (a:Act) (Φ:(Nat→Bool)→World→Prop),lex P R w0 l Q qs os i a Φ→qs.length=os.length
 | [],[],_,_,_,_=>rfl
 | [],_::_,_,_,_,h=>h.elim
 | _::_,[],_,_,_,h=>h.elim
 | q::qs,o::os,i,a,Φ,h=>by
  have:=h.2;simp only[List.length_cons];cases q with
  | inl u=>rw[lex_len qs os _ _ _ this]
  | inr p=>rw[lex_len qs os _ _ _ (this.2 undef)]
theorem lex_stab:∀(qs:List Post) (os:List Oper) (i:Nat) (a:Act) (Φ:(Nat→Bool)→World→Prop),lex P R w0 l Q qs os i a Φ→∀ p,.inr p∈qs→∀ v w w',p v w→R w w'→p v w'
 | [],_,_,_,_,_,p,hp=>by simp at hp
 | _::_,[],_,_,_,h,_,_=>h.elim
 | q::qs,o::os,i,a,Φ,h,p,hp=>by
  have:=h.2;rcases List.mem_cons.1 hp with h1|h1
  ·subst h1
   exact this.1
  ·cases q with
   | inl u=>exact lex_stab qs os _ _ _ this p h1
   | inr p'=>exact lex_stab qs os _ _ _ (this.2 undef) p h1
theorem count_lt{f g:Nat→Bool}(hgf:∀ x,g x=true→f x=true){i:Nat}(hf:f i=true)(hg:g i=false):∀ L:List Nat,i∈L→L.countP g<L.countP f
 | [],h=>by simp at h
 | x::L,h=>by
  have hle:L.countP g≤L.countP f:=List.countP_mono_left fun y _ hy=>hgf y hy;rw[List.countP_cons,List.countP_cons];by_cases hx:x=i
  ·subst hx
   rw[if_pos hf,if_neg (by simp[hg])];omega
  ·have hm:i∈L:=by simpa [Ne.symm hx] using h
   have ih:=count_lt hgf hf hg L hm;by_cases hgx:g x=true
   ·rw[if_pos hgx,if_pos (hgf x hgx)];omega
   ·rw[if_neg hgx];split<;>omega
theorem wpOp_of_step{Q':Exit→Act→World→Prop}{i:Nat}{o:Oper}{a b:Act}{w:World}{K:Act→World→Prop}{G:World→Prop}{q:Post}(ho:l[i]?=some o)(hs:∀ cs b,o.op≠.select cs b)
  (hag:∀ t∈o.looksAt l.toArray,a.tmps[t]?=b.tmps[t]?)
  (h:if Region.wanted o (yielded l.toArray a.tmps) then Step P R w0 o a G q else q = .inl undef) (hR:R w0 w) (hG:G w) (hrefl:R w w)
  (hK:∀ v w',R w w'→okPost q v w'→K (b.put o.dst v) w'):wpOp P l.toArray Q' i K b w:=by
 unfold wpOp;rw[show l.toArray[i]?=some o from by simpa using ho];simp only;rw[← wanted_same hag];split
 ·rename_i hw
  rw[if_pos hw]at h;have h1:=h w hR hG;rw[execOp_same hs hag]at h1;exact .inl (wp_of_yields (fun v w' hv=>hK v w' hv.1 hv.2) h1)
 ·rename_i hw
  rw[if_neg (by simpa using hw)]at h;subst h;exact hK _ _ hrefl rfl
def unlisted(l:List Oper)(listed:Array Bool):Nat:=(List.range l.length).countP fun i=>!listed.getD i true
theorem getD_tf{listed:Array Bool}{i:Nat}(h:i<listed.size):listed.getD i true=listed.getD i false:=by
 simp[Array.getD,h]
theorem all_listed(hst:stat l=true){listed:Array Bool}(hsz:listed.size=l.length)(hr:Region.ready .any l.toArray listed=[]):∀ n i,i<n→i<l.length→listed.getD i false=true
 | 0,i,h,_=>by omega
 | n+1,i,h,hi=>by
  have ho:l[i]?=some l[i]:=List.getElem?_eq_getElem hi;by_cases hd:listed.getD i false=true
  ·exact hd
  ·exfalso
   have hm:i∈Region.ready .any l.toArray listed:=mem_ready.2 ⟨by rw[getD_tf (by omega)];exact Bool.not_eq_true _▸hd,l[i],by simp,fun e he hb=>?_⟩
   ·rw[hr]at hm
    cases hm
   ·have hlt:=stat_edge hst ho he hb
    exact all_listed hst hsz hr n e.on (by omega) (by omega)
theorem ready_nil{listed:Array Bool}(hsz:listed.size=l.length)(hall:∀ i,i<l.length→listed.getD i false=true):Region.ready .any l.toArray listed=[]:=by
 rw[List.eq_nil_iff_forall_not_mem];intro i hi;obtain⟨h1,o,h2,_⟩:=mem_ready.1 hi;have hlt:i<l.length:=by
  have:=(Array.getElem?_eq_some_iff.1 h2).1;simpa using this
 rw[getD_tf (by omega),hall i hlt]at h1;cases h1
theorem getD_set{listed:Array Bool}{i:Nat}(hi:i<listed.size)(j:Nat):(listed.setIfInBounds i true).getD j false=true↔listed.getD j false=true∨j=i:=by
 by_cases hj:j=i
 ·subst hj
  simp[Array.getD,hi]
 ·have:i≠j:=fun e=>hj e.symm
  simp[Array.getD_eq_getD_getElem?,Array.getElem?_setIfInBounds_ne this,hj]
def tailW(P:Program)(l:List Oper)(Q':Exit→Act→World→Prop):Nat→Nat→Act→World→Prop
 | 0,_=>fun a w=>Q' .normal a w
 | k+1,i=>fun a w=>wpOp P l.toArray Q' i (tailW P l Q' k (i+1)) a w
theorem unlisted_set{listed:Array Bool}{i:Nat}(hsz:listed.size=l.length)(hlt:i<l.length)(h1:listed.getD i true=false):unlisted l (listed.setIfInBounds i true)<unlisted l listed:=by
 refine count_lt (i:=i) (fun x hx=>?_) ?_ ?_ _ (by simpa using hlt)
 ·by_cases hxi:x=i
  ·subst hxi
   rw[h1];rfl
  ·have:i≠x:=fun e=>hxi e.symm
   rw[Array.getD_eq_getD_getElem?,Array.getElem?_setIfInBounds_ne this,← Array.getD_eq_getD_getElem?]at hx;exact hx
 ·rw[h1];rfl
 ·simp[Array.getD,hsz,hlt]
theorem wpAny_tail{Q':Exit→Act→World→Prop}(hst:stat l=true):∀(fuel n:Nat) (listed:Array Bool) (a:Act) (w:World),n≤l.length→(∀ i,n≤i→i<l.length→∀ j,j<i→bef l i j=true) →
  listed.size=l.length→unlisted l listed≤fuel→Shut l (fun i=>listed.getD i false=true)→(∀ j,listed.getD j false=true↔j<n)→tailW P l Q' (l.length-n) n a w→wpAny P .any l.toArray Q' fuel listed a w:=by
 intro fuel;induction fuel with
 | zero =>
  intro n listed a w hn hch hsz hun hsh hls ht;have hz:unlisted l listed=0:=by omega
  have hall:∀ i,i<l.length→listed.getD i false=true:=by
   intro i hi;unfold unlisted at hz;rw[List.countP_eq_zero]at hz;have:=hz i (by simpa using hi);rw[← getD_tf (by omega)];simpa using this
  obtain rfl:n=l.length:=by
   rcases Nat.lt_or_ge n l.length with h|h
   ·exact absurd ((hls n).1 (hall n h)) (Nat.lt_irrefl _)
   ·omega
  rw[Nat.sub_self]at ht;exact⟨ready_nil hsz hall,ht⟩
 | succ fuel ih =>
  intro n listed a w hn hch hsz hun hsh hls ht;refine⟨fun hr=>?_,fun i hi=>?_⟩
  ·have hall:∀ i,i<l.length→listed.getD i false=true:=fun i hi=>all_listed hst hsz hr (i+1) i (by omega) hi
   obtain rfl:n=l.length:=by
    rcases Nat.lt_or_ge n l.length with h|h
    ·exact absurd ((hls n).1 (hall n h)) (Nat.lt_irrefl _)
    ·omega
   rw[Nat.sub_self]at ht;exact ht
  ·obtain⟨h1,o,h2,hpre⟩:=mem_ready.1 hi
   have ho:l[i]?=some o:=by simpa using h2
   have hlt:i<l.length:=(List.getElem?_eq_some_iff.1 ho).1;have hni:¬ listed.getD i false=true:=by rw[← getD_tf (by omega),h1];simp
   have hbef:∀ j,bef l i j=true→j≠i→listed.getD j false=true:=fun j hj hne=>bef_of_ready hsh ho hpre hj hne;have hset:=getD_set (listed:=listed) (i:=i) (by omega);have hge:n≤i:=by
    rcases Nat.lt_or_ge i n with h|h
    ·exact absurd ((hls i).2 h) hni
    ·exact h
   obtain rfl:i=n:=by
    rcases Nat.lt_or_ge n i with h|h
    ·exact absurd ((hls n).1 (hbef n (hch i hge hlt n h) (by omega))) (Nat.lt_irrefl _)
    ·omega
   obtain⟨k,hk⟩:∃ k,l.length-i=k+1:=⟨l.length-i-1,by omega⟩;rw[hk]at ht;refine wpOp_mono (fun a' w' h=>?_) ht;refine ih (i+1) _ a' w' hlt (fun i' h' h2'=>hch i' (by omega) h2') (by simpa using hsz) (by have:=unlisted_set hsz hlt h1;omega) ?_ ?_ ?_
   ·intro j x hx hj e he hb'
    refine(hset _).2 (.inl ?_);rcases(hset j).1 hj with hj|rfl
    ·exact hsh j x hx hj e he hb'
    ·rw[ho]at hx
     cases hx
     exact hpre e he hb'
   ·intro j
    rw[hset j,hls j];omega
   ·rw[show l.length-(i+1)=k by omega]
    exact h
def Ends(P:Program)(l:List Oper)(Q:Act→World→Prop)(Q':Exit→Act→World→Prop)(n0:Nat):Prop :=
 (n0=l.length∧∀ a w,Q a w→Q' .normal a w) ∨
 (n0<l.length∧(∀ i,n0≤i→i<l.length→∀ j,j<i→bef l i j=true)∧∀ a w,Q a w→tailW P l Q' (l.length-n0) n0 a w)
theorem wpAny_lex{Q':Exit→Act→World→Prop}(hst:stat l=true)(hrefl:∀ w,R w w)(htrans:∀ a b c,R a b→R b c→R a c)(n0:Nat)(hends:Ends P l Q Q' n0)(allq:List Post)(hlq:allq.length=n0)
  (hstab:∀ p,.inr p∈allq→∀ v w w',p v w→R w w'→p v w') {a0:Act} {os0:List Oper} (hos:os0.length=n0) (hosl:∀ k,k<os0.length→os0[k]?=l[k]?) (hlex:lex P R w0 l Q allq os0 0 a0 (fun _ _=>True)) :
  ∀(fuel:Nat) (listed:Array Bool) (a:Act) (w:World) (σ:Nat→Value),listed.size=l.length→unlisted l listed≤fuel→R w0 w→Shut l (fun i=>listed.getD i false=true)→(∀ i,n0≤i→¬ listed.getD i false=true) →
   (∀ i q,allq[i]?=some q→fits q (σ i))→(∀ i q,allq[i]?=some q→listed.getD i false=true→okPost q (σ i) w)→Frm l a0 (fun i=>listed.getD i false=true) σ a →
   wpAny P .any l.toArray Q' fuel listed a w:=by
 have hn0:n0≤l.length:=by rcases hends with h|h<;>omega
 intro fuel;induction fuel with
 | zero =>
  intro listed a w σ hsz hun hR hsh hend0 hfit hok hf;have hz:unlisted l listed=0:=by omega
  have hall:∀ i,i<l.length→listed.getD i false=true:=by
   intro i hi;unfold unlisted at hz;rw[List.countP_eq_zero]at hz;have:=hz i (by simpa using hi);rw[← getD_tf (by omega)];simpa using this
  rcases hends with ⟨hn,hQ⟩|⟨hn,_,_⟩
  ·obtain⟨_,b,hb,hend⟩:=lex_at hst n0 hn0 allq hlq hfit allq os0 0 a0 _ (by omega) (by simpa using hosl) (by simp) hlex (Frm.start a0 σ (by simp)) (fun _ _ _=>trivial)
   have hab:b=a:=by
    refine Frm.ext_ (S:=fun i=>listed.getD i false=true) (σ:=σ) ⟨hb.1,hb.2.1,fun t hx=>hb.2.2.1 t fun i o ho hi=>hx i o ho (hall i (by omega)),fun i o t ho hi hd hlt=>hb.2.2.2 i o t ho (by have:=(List.getElem?_eq_some_iff.1 ho).1;show i<n0;omega) hd hlt⟩ hf
   subst hab;exact⟨ready_nil hsz hall,hQ _ _ (hend w hR fun j q hq hj=>hok j q hq (hall j (by omega)))⟩
  ·exact absurd (hall n0 (by omega)) (hend0 n0 (Nat.le_refl _))
 | succ fuel ih =>
  intro listed a w σ hsz hun hR hsh hend0 hfit hok hf;obtain⟨hsteps,b,hb,hend⟩:=lex_at hst n0 hn0 allq hlq hfit allq os0 0 a0 _ (by omega) (by simpa using hosl) (by simp) hlex (Frm.start a0 σ (by simp)) (fun _ _ _=>trivial);have hfin:(∀ i,i<n0→listed.getD i false=true)→Q a w:=by
   intro hall;have hab:b=a:=by
    refine Frm.ext_ (S:=fun i=>listed.getD i false=true) (σ:=σ) ⟨hb.1,hb.2.1,fun t hx=>hb.2.2.1 t fun i o ho hi=>hx i o ho (hall i hi),fun i o t ho hi hd hlt=>hb.2.2.2 i o t ho ?_ hd hlt⟩ hf;show i<n0
    rcases Nat.lt_or_ge i n0 with h|h
    ·exact h
    ·exact absurd hi (hend0 i h)
   subst hab;exact hend w hR fun j q hq hj=>hok j q hq (hall j hj)
  refine⟨fun hr=>?_,fun i hi=>?_⟩
  ·have hall:∀ i,i<l.length→listed.getD i false=true:=fun i hi=>all_listed hst hsz hr (i+1) i (by omega) hi
   rcases hends with ⟨hn,hQ⟩|⟨hn,_,_⟩
   ·exact hQ _ _ (hfin fun i hi=>hall i (by omega))
   ·exact absurd (hall n0 (by omega)) (hend0 n0 (Nat.le_refl _))
  ·obtain⟨h1,o,h2,hpre⟩:=mem_ready.1 hi
   have ho:l[i]?=some o:=by simpa using h2
   have hlt:i<l.length:=(List.getElem?_eq_some_iff.1 ho).1;have hni:¬ listed.getD i false=true:=by rw[← getD_tf (by omega),h1];simp
   have hbef:∀ j,bef l i j=true→j≠i→listed.getD j false=true:=fun j hj hne=>bef_of_ready hsh ho hpre hj hne;have hset:=getD_set (listed:=listed) (i:=i) (by omega);by_cases hin:i<n0
   ·obtain⟨c,q,hq,hc,hstep⟩:=hsteps i o (Nat.zero_le _) hin ho
    have hag:∀ t∈o.looksAt l.toArray,c.tmps[t]?=a.tmps[t]?:=by
     refine hc.agree hf fun t ht j x hx hd=>?_;rcases stat_look hst ho hx ht hd with rfl|⟨hj,hbj⟩|⟨hj,hbj⟩
     ·exact⟨fun h=>absurd h (Nat.lt_irrefl _),fun h=>absurd h hni⟩
     ·exact⟨fun _=>hbef j hbj (by omega),fun _=>hj⟩
     ·exact⟨fun h=>absurd h hj,fun h=>absurd (bef_in hsh h hbj) hni⟩
    refine wpOp_of_step ho (stat_sel hst ho) hag hstep hR (fun k q' hk hq' hb'=>hok k q' hq' (hbef k hb' (by omega))) (hrefl w) fun v w' hRw hokv=>?_;refine ih _ _ w' (fun j=>if j=i then v else σ j) (by simpa using hsz) ?_ (htrans _ _ _ hR hRw) ?_ ?_ ?_ ?_ ?_
    ·have hcl:unlisted l (listed.setIfInBounds i true)<unlisted l listed:=by
      refine count_lt (i:=i) (fun x hx=>?_) ?_ ?_ _ (by simpa using hlt)
      ·by_cases hxi:x=i
       ·subst hxi
        rw[h1];rfl
       ·have:i≠x:=fun e=>hxi e.symm
        rw[Array.getD_eq_getD_getElem?,Array.getElem?_setIfInBounds_ne this,← Array.getD_eq_getD_getElem?]at hx;exact hx
      ·rw[h1];rfl
      ·simp[Array.getD,hsz,hlt]
     omega
    ·intro j x hx hj e he hb'
     refine(hset _).2 (.inl ?_);rcases(hset j).1 hj with hj|rfl
     ·exact hsh j x hx hj e he hb'
     ·rw[ho]at hx
      cases hx
      exact hpre e he hb'
    ·intro j hj hjs
     rcases(hset j).1 hjs with hjs|rfl
     ·exact hend0 j hj hjs
     ·omega
    ·intro j q' hq'
     show fits q' (if j=i then v else σ j)
     split
     ·rename_i hj
      subst hj;rw[hq]at hq';cases hq'
      cases q with
      | inl u=>exact hokv
      | inr p=>trivial
     ·exact hfit j q' hq'
    ·intro j q' hq' hj
     show okPost q' (if j=i then v else σ j) w'
     split
     ·rename_i hji
      subst hji;rw[hq]at hq';cases hq'
      exact hokv
     ·rename_i hji
      have hold:=hok j q' hq' (((hset j).1 hj).resolve_right hji);cases q' with
      | inl u=>exact hold
      | inr p=>exact hstab p (List.mem_of_getElem? hq') _ _ _ hold hRw
    ·exact hf.put hst ho v (fun j _ hne=>by simp[hne]) (by simp) hset
   ·rcases hends with ⟨hn,_⟩|⟨hn,hall,hT⟩
    ·omega
    ·obtain rfl:i=n0:=by
      rcases Nat.lt_or_ge n0 i with h|h
      ·exact absurd (hbef n0 (hall i (by omega) hlt n0 h) (by omega)) (hend0 n0 (Nat.le_refl _))
      ·omega
     have hal:∀ j,j<i→listed.getD j false=true:=fun j hj=>hbef j (hall i (Nat.le_refl _) hlt j hj) (by omega);obtain⟨k,hk⟩:∃ k,l.length-i=k+1:=⟨l.length-i-1,by omega⟩;have hT':=hT _ _ (hfin hal);rw[hk]at hT';refine wpOp_mono (fun a' w' h=>?_) hT';refine wpAny_tail hst fuel (i+1) _ a' w' hlt (fun i' h' h2'=>hall i' (by omega) h2') (by simpa using hsz) (by have:=unlisted_set hsz hlt h1;omega) ?_ ?_ ?_
     ·intro j x hx hj e he hb'
      refine(hset _).2 (.inl ?_);rcases(hset j).1 hj with hj|rfl
      ·exact hsh j x hx hj e he hb'
      ·rw[ho]at hx
       cases hx
       exact hpre e he hb'
     ·intro j
      rw[hset j];refine⟨fun hh=>?_,fun hh=>?_⟩
      ·rcases hh with hh|rfl
       ·rcases Nat.lt_or_ge j i with h3|h3
        ·omega
        ·exact absurd hh (hend0 j h3)
       ·omega
      ·by_cases hji:j=i
       ·exact .inr hji
       ·exact .inl (hal j (by omega))
     ·rw[show l.length-(i+1)=k by omega]
      exact h
theorem wp_region_lex_n{id:Nat}{Q':Exit→Act→World→Prop}{a:Act}(hm:P.follows .mixedOrders=true)(hst:stat l=true)(hrefl:∀ w,R w w)(htrans:∀ a b c,R a b→R b c→R a c)(hdrew:R w0 w0.drew)
  (qs:List Post) (n0:Nat) (hends:Ends P l Q Q' n0) {os0:List Oper} (hos:os0.length=n0) (hosl:∀ k,k<os0.length→os0[k]?=l[k]?) (h:lex P R w0 l Q qs os0 0 a (fun _ _=>True)) :
  (Code.region id l.toArray true).wp P Q' a w0:=by
 refine wp_region_any hm ?_;refine wpAny_lex hst hrefl htrans n0 hends qs ((lex_len _ _ _ _ _ h).trans hos) (lex_stab _ _ _ _ _ h) hos hosl h _ _ _ _ (fun i=>match qs[i]? with|some (.inl u)=>u|_=>undef) (by simp) ?_ hdrew ?_ ?_ ?_ ?_ (Frm.start _ _ ?_)
 ·refine Nat.le_trans List.countP_le_length ?_
  simp
 ·intro i o ho hi
  simp[Array.getD]at hi
 ·intro i _ hi
  simp[Array.getD]at hi
 ·intro i q hq
  simp only[hq];cases q<;>simp[fits]
 ·intro i q hq hi
  simp[Array.getD]at hi
 ·intro i hi
  simp[Array.getD]at hi
theorem wp_region_lex{id:Nat}{Q':Exit→Act→World→Prop}{a:Act}(hm:P.follows .mixedOrders=true)(hst:stat l=true)(hrefl:∀ w,R w w)(htrans:∀ a b c,R a b→R b c→R a c)(hdrew:R w0 w0.drew)
  (qs:List Post) (h:lex P R w0 l (fun a w=>Q' .normal a w) qs l 0 a (fun _ _=>True)) :
  (Code.region id l.toArray true).wp P Q' a w0 :=
 wp_region_lex_n hm hst hrefl htrans hdrew qs l.length (.inl ⟨rfl,fun _ _ h=>h⟩) rfl (fun _ _=>rfl) h
theorem wpList_W{Q':Exit→Act→World→Prop}:∀(os:List Oper) (n:Nat) (a:Act) (w:World),l.drop n=os→wpList P l.toArray Q' os a w→tailW P l Q' (l.length-n) n a w
 | [],n,a,w,hd,h=>by
  have:l.length≤n:=by simpa using hd
  rw[Nat.sub_eq_zero_of_le this];exact h
 | o::os,n,a,w,hd,h=>by
  have hlt:n<l.length:=by
   rcases Nat.lt_or_ge n l.length with h'|h'
   ·exact h'
   ·rw[List.drop_eq_nil_of_le h']at hd;cases hd
  rw[List.drop_eq_getElem_cons hlt]at hd;injection hd with h1 h2
  obtain⟨k,hk⟩:∃ k,l.length-n=k+1:=⟨l.length-n-1,by omega⟩;rw[hk];show wpOp P l.toArray Q' n (tailW P l Q' k (n+1)) a w
  refine wpOp_mono (K:=wpList P l.toArray Q' os) (fun a' w' h'=>?_) ?_
  ·have:=wpList_W os (n+1) a' w' h2 h'
   rw[show l.length-(n+1)=k by omega]at this;exact this
  ·have ho:l[n]?=some o:=by rw[List.getElem?_eq_getElem hlt,h1]
   unfold wpOp;rw[show l.toArray[n]?=some o from by simpa using ho];exact h
theorem wp_region_lex_tails{id:Nat}{Q':Exit→Act→World→Prop}{a:Act}(n:Nat)(hlen:n<l.length)(hall:((List.range l.length).all fun i=>decide (i<n) || (List.range i).all (fun j=>bef l i j))=true)(hm:P.follows .mixedOrders=true)(hst:stat l=true)(hrefl:∀ w,R w w)(htrans:∀ a b c,R a b→R b c→R a c)(hdrew:R w0 w0.drew)
  (qs:List Post) (h:lex P R w0 l (fun a w=>wpList P l.toArray Q' (l.drop n) a w) qs (l.take n) 0 a (fun _ _=>True)) :
  (Code.region id l.toArray true).wp P Q' a w0:=by
 refine wp_region_lex_n hm hst hrefl htrans hdrew qs n (.inr ⟨hlen,fun i hi hl j hj=>?_,fun a w h=>wpList_W _ n a w rfl h⟩) (by simp;omega) (fun k hk=>?_) h
 ·rw[List.all_eq_true]at hall
  have:=hall i (by simpa using hl);rw[Bool.or_eq_true]at this;rcases this with h|h
  ·have:=of_decide_eq_true h;omega
  ·rw[List.all_eq_true]at h
   exact h j (by simpa using hj)
 ·rw[List.getElem?_take,if_pos (by simp at hk;omega)]
theorem wp_region_lex_tail{id:Nat}{Q':Exit→Act→World→Prop}{a:Act}(n:Nat){o:Oper}(ho:l[n]?=some o)(hg:o.guard=none)(hlen:n+1=l.length)(hall:(List.range n).all (fun j=>bef l n j)=true)(hm:P.follows .mixedOrders=true)(hst:stat l=true)(hrefl:∀ w,R w w)(htrans:∀ a b c,R a b→R b c→R a c)(hdrew:R w0 w0.drew)
  (qs:List Post) (h:lex P R w0 l (fun a w=>o.wp P a w (fun a w=>Q' .normal a w) Q') qs (l.take n) 0 a (fun _ _=>True)) :
  (Code.region id l.toArray true).wp P Q' a w0:=by
 have hd:l.drop n=[o]:=by
  rw[List.drop_eq_getElem_cons (by omega),List.drop_eq_nil_of_le (by omega)];rw[List.getElem?_eq_getElem (by omega)]at ho;rw[Option.some.inj ho]
 refine wp_region_lex_n hm hst hrefl htrans hdrew qs n (.inr ⟨by omega,fun i hi hl j hj=>?_,fun a w h=>wpList_W [o] n a w hd (by unfold wpList;rw[if_pos (by simp[Region.wanted,hg])];exact .inl h)⟩) (by simp;omega) (fun k hk=>?_) h
 ·rw[List.all_eq_true]at hall
  obtain rfl:i=n:=by omega
  exact hall j (by simpa using hj)
 ·rw[List.getElem?_take,if_pos (by simp at hk;omega)]
end
section
variable {P:Program} {R:World→World→Prop} {w0:World} {l:List Oper} {Q:Act→World→Prop}
variable {o:Oper} {os:List Oper} {qs:List Post} {i:Nat} {a:Act} {Φ:(Nat→Bool)→World→Prop}
theorem lex_nil(h:∀ w,R w0 w→Φ (fun _=>true) w→Q a w):lex P R w0 l Q [] [] i a Φ:=h
theorem lex_ex{u:Value}(hrefl:∀ w,R w w)(hw:Region.wanted o (yielded l.toArray a.tmps)=true)(hrun:∀ w,R w0 w→Φ (bef l i) w→(execOp a.eval o).run P w = .ok (.value u) w)
  (h:lex P R w0 l Q qs os (i+1) (a.put o.dst u) Φ):lex P R w0 l Q (.inl u::qs) (o::os) i a Φ:=by
 refine⟨?_,h⟩;rw[if_pos hw];intro w hR hΦ;rw[hrun w hR hΦ];exact⟨hrefl w,rfl⟩
theorem lex_skip(hw:Region.wanted o (yielded l.toArray a.tmps)=false)(h:lex P R w0 l Q qs os (i+1) (a.put o.dst undef) Φ):lex P R w0 l Q (.inl undef::qs) (o::os) i a Φ:=by
 refine⟨?_,h⟩;rw[if_neg (by rw[hw];simp)]
theorem lex_new{p:Value→World→Prop}(hst:∀ v w w',p v w→R w w'→p v w')(hw:Region.wanted o (yielded l.toArray a.tmps)=true)(hrun:∀ w,R w0 w→Φ (bef l i) w→∃ u w',(execOp a.eval o).run P w = .ok (.value u) w'∧R w w'∧p u w')
  (h:∀ v,lex P R w0 l Q qs os (i+1) (a.put o.dst v) (fun d w=>(d i=true→p v w)∧Φ d w)):lex P R w0 l Q (.inr p::qs) (o::os) i a Φ:=by
 refine⟨?_,hst,h⟩;rw[if_pos hw];intro w hR hΦ;obtain⟨u,w',hu,hRw,hp⟩:=hrun w hR hΦ;rw[hu];exact⟨hRw,hp⟩
theorem lex_call{p:Value→World→Prop}{f:FuncId}{args:Array Value}(hst:∀ v w w',p v w→R w w'→p v w')(hw:Region.wanted o (yielded l.toArray a.tmps)=true)
  (hrun:∀ w,(execOp a.eval o).run P w = .ok (.enter f args) w) (hcall:∀ w,R w0 w→Φ (bef l i) w→Calls P f args w fun e w'=>∃ v,e = .returned v∧R w w'∧p v w')
  (h:∀ v,lex P R w0 l Q qs os (i+1) (a.put o.dst v) (fun d w=>(d i=true→p v w)∧Φ d w)):lex P R w0 l Q (.inr p::qs) (o::os) i a Φ:=by
 refine⟨?_,hst,h⟩;rw[if_pos hw];intro w hR hΦ;rw[hrun w];exact hcall w hR hΦ
theorem lex_callx{u:Value}{f:FuncId}{args:Array Value}(hw:Region.wanted o (yielded l.toArray a.tmps)=true)
  (hrun:∀ w,(execOp a.eval o).run P w = .ok (.enter f args) w) (hcall:∀ w,R w0 w→Φ (bef l i) w→Calls P f args w fun e w'=>e = .returned u∧R w w')
  (h:lex P R w0 l Q qs os (i+1) (a.put o.dst u) Φ):lex P R w0 l Q (.inl u::qs) (o::os) i a Φ:=by
 refine⟨?_,h⟩;rw[if_pos hw];intro w hR hΦ;rw[hrun w];exact(hcall w hR hΦ).mono fun e w' h=>⟨u,h.1,h.2,rfl⟩
end
def Dr(w w':World):Prop:=∃ n,w'=w.drewN n
theorem Dr.refl(w:World):Dr w w:=⟨0,rfl⟩
theorem Dr.trans{a b c:World}(h:Dr a b)(k:Dr b c):Dr a c:=by
 obtain⟨n,rfl⟩:=h;obtain⟨m,rfl⟩:=k;exact⟨n+m,by rw[World.drewN_drewN]⟩
theorem Dr.drew(w:World):Dr w w.drew:=⟨1,rfl⟩
theorem Dr.ext{w w':World}(h:Dr w w'):Ext w w':=by
 obtain⟨n,rfl⟩:=h;exact⟨rfl,rfl,rfl,Nat.le_refl _,fun _ _=>rfl⟩
theorem pu:(∀(l:List Value) d t v,Act.put ⟨l.toArray,d⟩ (some t) v=⟨(l.set t v).toArray,d⟩)∧(∀ a v,Act.put a none v=a)∧(∀(α:Type) (a b:α) ys,(a::ys).set 0 b=b::ys)∧∀(α:Type) (a b:α) ys i,(a::ys).set (i+1) b=a::ys.set i b :=
 ⟨fun l d t v=>by simp[Act.put],fun _ _=>rfl,fun _ _ _ _=>rfl,fun _ _ _ _ _=>rfl⟩
theorem tk:(∀(α:Type) n (a:α) ys,(a::ys).take (n+1)=a::ys.take n)∧∀(α:Type) (ys:List α),ys.take 0=[]:=⟨fun _ _ _ _=>rfl,fun _ _=>rfl⟩
theorem dk:(∀(α:Type) n (a:α) ys,(a::ys).drop (n+1)=ys.drop n)∧∀(α:Type) (ys:List α),ys.drop 0=ys:=⟨fun _ _ _ _=>rfl,fun _ _=>rfl⟩
theorem aj{a b:Prop}(h:a)(k:b):a∧b:=⟨h,k⟩
section
variable {P:Program} {R:World→World→Prop} {w0:World} {l:List Oper} {Q:Act→World→Prop} {o:Oper} {os:List Oper} {qs:List Post} {i:Nat} {a a2:Act} {Φ:(Nat→Bool)→World→Prop}
theorem lxA{F:World→Prop}{u:Value}(f:∀ w,R w0 w→Φ (bef l i) w→F w)(h:lex P R w0 l Q qs os (i+1) a2 Φ)(hw:Region.wanted o (yielded l.toArray a.tmps)=true:=by rfl)(hr:∀ w,R w w:=by exact Ext.refl)(hrun:(∀ w,R w0 w→Φ (bef l i) w→F w)→∀ w,R w0 w→Φ (bef l i) w→(execOp a.eval o).run P w = .ok (.value u) w:=by intro F W hR hΦ;have dd:=F W hR hΦ;clear F;go_simp;first|done|with_reducible rfl)(ha:a.put o.dst u=a2:=by simp only[pu];rfl):lex P R w0 l Q (.inl u::qs) (o::os) i a Φ:=lex_ex hr hw (hrun f) (ha▸h)
theorem lxK(_:True)(h:lex P R w0 l Q qs os (i+1) a2 Φ)(hw:Region.wanted o (yielded l.toArray a.tmps)=false:=by rfl)(ha:a.put o.dst undef=a2:=by simp only[pu];rfl):lex P R w0 l Q (.inl undef::qs) (o::os) i a Φ:=lex_skip hw (ha▸h)
theorem lxC{H:Prop}(k:H){u:Value}{f:FuncId}{args:Array Value}(h:lex P R w0 l Q qs os (i+1) a2 Φ)(hw:Region.wanted o (yielded l.toArray a.tmps)=true:=by rfl)(hrun:∀ w,(execOp a.eval o).run P w = .ok (.enter f args) w:=by intro W;go_simp;exact⟨rfl,rfl⟩)(hcall:H→∀ w,R w0 w→Φ (bef l i) w→Calls P f args w fun e w'=>e = .returned u∧R w w':=by intro H W hR hΦ;refine(H W hR).mono ?_;rintro e w' ⟨rfl,ee⟩;exact⟨rfl,by first|exact ee|(subst ee;exact Ext.refl _)⟩)(ha:a.put o.dst u=a2:=by simp only[pu];rfl):lex P R w0 l Q (.inl u::qs) (o::os) i a Φ:=lex_callx hw hrun (hcall k) (ha▸h)
theorem wrA{id:Nat}{Q':Exit→Act→World→Prop}{a:Act}(_:True)(qs:List Post)(h:lex P Ext w0 l (fun a w=>Q' .normal a w) qs l 0 a (fun _ _=>True))(hm:P.follows .mixedOrders=true:=by kernel_rfl)(hst:stat l=true:=by kernel_rfl):(Code.region id l.toArray true).wp P Q' a w0:=wp_region_lex hm hst Ext.refl (fun _ _ _=>Ext.trans) (Ext.drew _) qs h
theorem wrN{id:Nat}{Q':Exit→Act→World→Prop}{a:Act}(n:Nat)(qs:List Post)(h:lex P Ext w0 l (fun a w=>wpList P l.toArray Q' (l.drop n) a w) qs (l.take n) 0 a (fun _ _=>True))(hlen:n<l.length:=by decide)(hall:((List.range l.length).all fun i=>decide (i<n) || (List.range i).all (fun j=>bef l i j))=true:=by kernel_rfl)(hm:P.follows .mixedOrders=true:=by kernel_rfl)(hst:stat l=true:=by kernel_rfl):(Code.region id l.toArray true).wp P Q' a w0:=wp_region_lex_tails n hlen hall hm hst Ext.refl (fun _ _ _=>Ext.trans) (Ext.drew _) qs h
end
abbrev Lines:=List (List UInt8)
def frontL:Lines→Nat
 | []=>0
 | l::r=>r.foldl (fun n x=>min n x.length) l.length
def jointL(ls:Lines)(f:Nat):List UInt8:=ls.map fun l=>l.getD f 0
theorem foldl_min_le(r:Lines):∀ n:Nat,r.foldl (fun n x=>min n x.length) n≤n:=by
 induction r with
 | nil=>intro n;exact Nat.le_refl _
 | cons x r ih=>intro n;rw[List.foldl_cons];exact Nat.le_trans (ih _) (Nat.min_le_left _ _)
theorem foldl_min_mem(r:Lines):∀ n:Nat,∀ x∈r,r.foldl (fun n x=>min n x.length) n≤x.length:=by
 induction r with
 | nil=>intro n x hx;cases hx
 | cons y r ih =>
  intro n x hx;rcases List.mem_cons.1 hx with rfl|hx
  ·rw[List.foldl_cons];exact Nat.le_trans (foldl_min_le r _) (Nat.min_le_right _ _)
  ·rw[List.foldl_cons];exact ih _ x hx
theorem frontL_le(ls:Lines):∀ l∈ls,frontL ls≤l.length:=by
 cases ls with
 | nil=>intro l hl;cases hl
 | cons y r =>
  intro l hl;rcases List.mem_cons.1 hl with rfl|hl
  ·exact foldl_min_le _ _
  ·exact foldl_min_mem _ _ l hl
theorem le_foldl_min(r:Lines):∀(n m:Nat),m≤n→(∀ x∈r,m≤x.length)→m≤r.foldl (fun n x=>min n x.length) n:=by
 induction r with
 | nil=>intro n m h _;exact h
 | cons y r ih=>intro n m h hx;rw[List.foldl_cons];exact ih _ m (Nat.le_min.2 ⟨h,hx y (List.mem_cons_self ..)⟩) (fun x h=>hx x (List.mem_cons_of_mem _ h))
theorem le_frontL{ls:Lines}(hne:ls≠[]){m:Nat}(h:∀ l∈ls,m≤l.length):m≤frontL ls:=by
 cases ls with
 | nil=>exact absurd rfl hne
 | cons y r=>exact le_foldl_min r _ m (h y (List.mem_cons_self ..)) (fun x hx=>h x (List.mem_cons_of_mem _ hx))
def putLn(l:List UInt8)(first:Nat)(b:List UInt8):List UInt8:=if first≤l.length then l++(b.drop (l.length-first)).take (1000-l.length) else l
structure Pk where
 quit:Bool
 src:Nat
 dst:Nat
 first:Nat:=0
 press:List UInt8:=[]
 ack:Nat:=0
 frame:Nat:=0
 sum:Nat:=0
def okPk(p:Pk):Prop:=p.src<8∧p.dst<8∧p.src≠p.dst∧(if p.quit then p.first=0∧p.press=[]∧p.ack=0∧p.frame=0∧p.sum=0 else p.first≤1000∧p.ack≤1000∧p.frame≤1000∧p.press.length≤32∧p.sum<4294967296)
def updF{α:Type}(f:Nat→α)(k:Nat)(x:α):Nat→α:=fun j=>if j=k then x else f j
theorem updF_same{α:Type}(f:Nat→α)(k:Nat)(x:α):updF f k x k=x:=by simp[updF]
theorem updF_other{α:Type}(f:Nat→α){k j:Nat}(x:α)(h:j≠k):updF f k x j=f j:=by simp[updF,h]
structure Cr where
 ls:Lines
 now:Nat
 heard:Nat→Nat
 has:Nat→Nat
 words:Nat→Nat×Nat
 evs:List (Nat×Nat)
 closed:Bool
namespace Cr
variable (sm:Lines→Nat→Nat) (me window:Nat)
def new(n delay:Nat):Cr:=⟨List.replicate n (List.replicate delay 0),0,fun _=>0,fun _=>delay,fun _=>(0,0),[],false⟩
def mine(c:Cr):List UInt8:=c.ls.getD me []
def head(c:Cr):Nat:=(c.mine me).length
def front(c:Cr):Nat:=frontL c.ls
def pressE(c:Cr):Nat:=if c.closed then 6 else if 1000≤c.head me then 4 else if window≤c.head me-c.front then 5 else 0
def press(c:Cr)(b:UInt8):Cr:=if c.pressE me window=0 then {c with ls:=c.ls.set me (c.mine me++[b])} else c
def recv(c:Cr)(p:Pk):Cr :=
 if c.closed then c
 else if p.quit then {c with heard:=updF c.heard p.src c.now,evs:=c.evs++[(1,p.src)],closed:=true}
 else
  let ls:=c.ls.set p.src (putLn (c.ls.getD p.src []) p.first p.press)
  {c with ls:=ls,heard:=updF c.heard p.src c.now,has:=if c.has p.src<p.ack∧p.ack≤(ls.getD me []).length then updF c.has p.src p.ack else c.has,words:=if 0<p.frame∧(c.words p.src).1≤p.frame then updF c.words p.src (p.frame,p.sum) else c.words}
def others(c:Cr):List Nat:=(List.range c.ls.length).filter (·≠me)
def late(c:Cr):Option Nat:=(c.others me).find? fun i=>decide (40≤c.now+1-c.heard i)
def input(c:Cr)(i:Nat):Pk :=
 {quit:=false,src:=me,dst:=i,first:=c.has i,press:=((c.mine me).drop (c.has i)).take 32,ack:=(c.ls.getD i []).length,frame:=c.front,sum:=if c.front=0 then 0 else sm c.ls c.front}
def tick(c:Cr):Cr :=
 if c.closed then c else match c.late me with
  | some i=>{c with now:=c.now+1,evs:=c.evs++[(2,i)],closed:=true}
  | none=>{c with now:=c.now+1}
def ticks(c:Cr):List Pk:=if c.closed then [] else match c.late me with
  | some _=>[]
  | none=>(c.others me).map (c.input sm me)
def quit(c:Cr):Cr:={c with closed:=true}
end Cr
structure Wd where
 ps:Nat→Cr
 net:List Pk
 log:Nat→List (Nat×Nat)
namespace Wd
variable (sm:Lines→Nat→Nat) (n window:Nat)
def told(W:Wd):Wd:={W with log:=fun i=>W.log i++(W.ps i).evs,ps:=fun i=>{W.ps i with evs:=[]}}
def heard(W:Wd)(k:Pk):Wd:=told {W with ps:=updF W.ps k.dst ((W.ps k.dst).recv k.dst k)}
def line(W:Wd)(i p:Nat):List UInt8:=(W.ps i).ls.getD p []
def own(W:Wd)(p:Nat):List UInt8:=W.line p p
end Wd
def evW(k p f:Int):Value :=
 if k=1 then .iface 276 (.agg #[.int .i64 p]) else if k=2 then .iface 277 (.agg #[.int .i64 p]) else if k=3 then .iface 279 (.agg #[.int .i64 p,.int .i64 f]) else .nilIface
def mayE(k p f:Int):Bool:=decide (1≤k)&&decide (k≤3)&&decide (0≤p)&&decide (p≤7)&&decide (0≤f)&&decide (f≤1000)&&(decide (k=3) || decide (f=0))
theorem mayE_ways{k p f:Int}(h:mayE k p f=true):(0≤p∧p≤7)∧((k=1∧f=0)∨(k=2∧f=0)∨(k=3∧0≤f∧f≤1000)):=by
 simp[mayE]at h;omega
def OfIs(w:World)(v:Value)(b:Bool)(e:Ending)(w':World):Prop:=e = .returned (.tuple #[.agg #[v],.bool b])∧Ext w w'
theorem of_1(w:World)(p:Int)(p0:0≤p)(p1:p≤7):Calls prog 230 #[.agg #[.int .i64 1,.int .i64 p,.int .i64 0]] w (OfIs w (.iface 276 (.agg #[.int .i64 p])) true):=by
 go_enter func230,ntmps230;go_wp2_with fail;exact bodyPost_ret (v:=.tuple #[.agg #[.iface 276 (.agg #[.int .i64 p])],.bool true]) (by simp[results,Tryz.results230,go_sem]) rfl ⟨rfl,by repeat (first|exact(Below.refl _ _).alloc (Nat.le_refl _) _|refine Below.alloc ?_ (by simp) _|refine Below.setCell ?_ (by simp) _)⟩
theorem of_2(w:World)(p:Int)(p0:0≤p)(p1:p≤7):Calls prog 230 #[.agg #[.int .i64 2,.int .i64 p,.int .i64 0]] w (OfIs w (.iface 277 (.agg #[.int .i64 p])) true):=by
 go_enter func230,ntmps230;go_wp2_with fail;exact bodyPost_ret (v:=.tuple #[.agg #[.iface 277 (.agg #[.int .i64 p])],.bool true]) (by simp[results,Tryz.results230,go_sem]) rfl ⟨rfl,by repeat (first|exact(Below.refl _ _).alloc (Nat.le_refl _) _|refine Below.alloc ?_ (by simp) _|refine Below.setCell ?_ (by simp) _)⟩
theorem of_3(w:World)(p f:Int)(p0:0≤p)(p1:p≤7)(f0:0≤f)(f1:f≤1000):Calls prog 230 #[.agg #[.int .i64 3,.int .i64 p,.int .i64 f]] w (OfIs w (.iface 279 (.agg #[.int .i64 p,.int .i64 f])) true):=by
 by_cases hf:0<f
 ·have hd:decide (0<f)=true:=decide_eq_true hf
  go_enter func230,ntmps230;go_wp2_with fail;exact bodyPost_ret (v:=.tuple #[.agg #[.iface 279 (.agg #[.int .i64 p,.int .i64 f])],.bool true]) (by simp[results,Tryz.results230,go_sem]) rfl ⟨rfl,by repeat (first|exact(Below.refl _ _).alloc (Nat.le_refl _) _|refine Below.alloc ?_ (by simp) _|refine Below.setCell ?_ (by simp) _)⟩
 ·obtain rfl:f=0:=by omega
  go_enter func230,ntmps230;go_wp2_with fail;exact bodyPost_ret (v:=.tuple #[.agg #[.iface 279 (.agg #[.int .i64 p,.int .i64 0])],.bool true]) (by simp[results,Tryz.results230,go_sem]) rfl ⟨rfl,by repeat (first|exact(Below.refl _ _).alloc (Nat.le_refl _) _|refine Below.alloc ?_ (by simp) _|refine Below.setCell ?_ (by simp) _)⟩
theorem of_yes(w:World)(k p f:Int)(h:mayE k p f=true):Calls prog 230 #[.agg #[.int .i64 k,.int .i64 p,.int .i64 f]] w (OfIs w (evW k p f) true):=by
 obtain⟨⟨p0,p1⟩,hw⟩:=mayE_ways h;rcases hw with ⟨rfl,rfl⟩|⟨rfl,rfl⟩|⟨rfl,f0,f1⟩
 ·exact of_1 w p p0 p1
 ·exact of_2 w p p0 p1
 ·exact of_3 w p f p0 p1 f0 f1

theorem bytes_any(base:Nat)(A:Option Addr)(n c:Nat)(l s:List UInt8)(w:World)(hs:s.length≤1099511627776)
  (hown:Own w base 5 1 A n c (bcs l)) (hn:n≤1099511627776) (hb:base≤w.heap.size) :
  Calls prog 199 #[.slice A n c,.string (bs s)] w (Appended w base 5 1 A (bcs (l++bytesL s))):=by
 obtain⟨i,hi,hz0,hz1,hz2⟩:=info_parts info_u8;have hsz:=bs_size s;go_enter func199,ntmps199;go_wp2_with fail;refine(put_any base A n c l s.length w (by omega) (by omega) hown hn hb).mono ?_;rintro e w1 ⟨B,m,d,rfl,ho,hg,hw⟩;have hm:m≤n+10:=by
  have h1:=ho.len;have h2:=hown.len;have:=putL_le (s.length:Int);simp[bcs_length]at h1 h2
  omega
 have hb1:base≤w1.heap.size:=Nat.le_trans hb hg.size;clear hsz;go_wp2_with (at_builtin;refine wpList_append_text _ rfl _ _ 30 9 rfl base 5 i underlying30 underlying9 hi hz0 hz1 hz2 B m d _ rfl ho s rfl (by unfold maxLen;omega) (by omega) hb1 ?_;intro B' d' w' ho' hg' hw');go_ret;refine⟨_,_,_,rfl,?_,grown_went hg hw hg',hw.trans hg.size hw'⟩;rw[bytesL,← List.append_assoc,bcs_append];exact ho'


theorem pref_len{l o:List UInt8}(h:l <+: o):l.length≤o.length:=h.length_le
theorem pref_get{l o:List UInt8}(h:l <+: o){k:Nat}(hk:k<l.length):l.getD k 0=o.getD k 0:=by
 obtain⟨r,rfl⟩:=h;simp[List.getD_eq_getElem?_getD,List.getElem?_append_left hk]
theorem putLn_le{l:List UInt8}(first:Nat)(b:List UInt8):l <+: putLn l first b:=by
 unfold putLn;split
 ·exact List.prefix_append _ _
 ·exact List.prefix_refl _
def Sums(sm:Lines→Nat→Nat):Prop:=∀ a b f,(∀ k,k<f→jointL a k=jointL b k)→sm a f=sm b f
section
variable {sm:Lines→Nat→Nat} {n delay window B:Nat} {W W':Wd}
theorem lines_ext{a:Lines}(ha:a.length=n):a=(List.range n).map fun p=>a.getD p []:=by
 apply List.ext_getElem
 ·simp[ha]
 ·intro k h1 h2
  simp[List.getD_eq_getElem?_getD,h1]
theorem joint_eq{a b:Lines}(ha:a.length=n)(hb:b.length=n){k:Nat}(h:∀ p,p<n→(a.getD p []).getD k 0=(b.getD p []).getD k 0):jointL a k=jointL b k:=by
 rw[lines_ext ha,lines_ext hb];simp only[jointL,List.map_map];apply List.map_congr_left;intro p hp;exact h p (List.mem_range.1 hp)
end

end Go.Proofs.YtffcefoadaogbaaGreat
