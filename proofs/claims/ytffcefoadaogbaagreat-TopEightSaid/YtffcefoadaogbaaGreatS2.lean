/- A part of the proof. -/
import Derived.Test.YtffcefoadaogbaaGreatS1
import Derived.Test.YtffcefoadaogbaaGreatRows
import Derived.LoopTactic
import Derived.ProofKit
import Derived.ArgAppend
import Derived.Laws.Rows
import Derived.Laws.StructEq
namespace Go.Proofs.YtffcefoadaogbaaGreat
open Go.RowKit
open Go.Proofs.Tryz
set_option linter.unusedVariables false
set_option maxRecDepth 100000
set_option maxHeartbeats 16000000
open _root_.Nat renaming le_refl->aq,le_trans->aF,lt_of_lt_of_le->eM,zero_le->aM,le_antisymm->WY
open Go.RowKit.Below renaming heap_setCell->uc
open Go.World renaming setCell->dG,cell?_setCell_other->Ac,cell?_setCell_same->aiI
open _root_.Option renaming map_eq_some_iff->vu
open _root_.List renaming foldl_cons->afw,mem_cons->Ad,mem_cons_self->C2,mem_cons_of_mem->xS,replicate->cP,range->dJ,getD_eq_getElem?_getD->cO,mem_of_getElem?->sO,getElem?_eq_getElem->bf,all_cons->Tk,length_cons->lf,length_nil->BF,drop_length->Db,prefix_append->Ls,prefix_refl->xT,drop_append_of_le_length->agk,nil_append->Tl,take_prefix->aiJ,length_append->eU,length_take->tN,length_drop->Bq,mem_append->BG,getElem?_set->Es,length_set->Ae,take_of_length_le->jL,mem_singleton->sP,mem_of_mem_take->aiK,mem_map->fK,append_nil->Af,mem_of_mem_eraseIdx->OP,length_filter_le->agl,length_map->xN,length_range->acH
open _root_.Bool renaming eq_iff_iff->S2,and_eq_false_iff->Dc,and_eq_true->rB
open _root_.Int renaming lt_tmod_of_pos->agm,tmod_lt_of_pos->agn,le_total->ago,tmod_eq_emod_of_nonneg->agp,tmod_add_mul_tdiv->agq
open Go renaming World->κ,Value->ξ,Calls->τ,TypeId->aY,IntKind->oU
open Go.RowKit renaming Below->fC
variable{B:aS}{K:Nat->Bool}{Q:Exit->Act->κ->Prop}{S:Nat->Prop}{a:Act}{b f first g i j k last m n p q size t:Nat}{l:aD}{ops:Array Oper}{pg x:Int}{rest:List Oper}{rf:Nat->Int}{row:Option Nat}{ty:aY}{v:ξ}{vs:Nat->Nat->Int}{w w' VY:κ}{xs:List ξ}{α:Type}
abbrev Tg:=Nat->Nat
def Θ(w:κ)(T:Tg):Prop:=∀k,w.heap.size<=k->T k=0
structure Ξ(S:Nat->Prop)(w:κ)(T:Tg)(w':κ)(T':Tg):Prop where
 os:w'.os=w.os
 tape:w'.tape=w.tape
 output:w'.output=w.output
 size:w.heap.size<=w'.heap.size
 block:∀k,k<w.heap.size->¬S (T k)->w'.heap[k]?=w.heap[k]?
 tag:∀k,k<w.heap.size->T' k=T k
 Δ:Θ w' T'
theorem Ξ.refl{T:Tg}(S:Nat->Prop)(h:Θ w T):Ξ S w T w T:=⟨rfl,rfl,rfl,aq _,fun _ _ _=>rfl,fun _ _=>rfl,h⟩
theorem Ξ.trans{a b c:κ}{T U V:Tg}(h:Ξ S a T b U)(k:Ξ S b U c V):Ξ S a T c V :=
 ⟨k.os.trans h.os,k.tape.trans h.tape,k.output.trans h.output,aF h.size k.size,fun i hi hn=>(k.block i (eM hi h.size) (by rw[h.tag i hi];exact hn)).trans (h.block i hi hn),fun i hi=>(k.tag i (eM hi h.size)).trans (h.tag i hi),k.Δ⟩
theorem Ξ.mono{S':Nat->Prop}{T T':Tg}(h:Ξ S w T w' T')(hs:∀t,S t->S' t):Ξ S' w T w' T' :=
 ⟨h.os,h.tape,h.output,h.size,fun k hk hn=>h.block k hk (fun e=>hn (hs _ e)),h.tag,h.Δ⟩
theorem Ξ.ai{T:Tg}(S:Nat->Prop)(hu:Θ w T)(h:Ext w w'):Ξ S w T w' T :=
 ⟨h.os,h.tape,h.output,h.size,fun k hk _=>h.block k hk,fun _ _=>rfl,fun k hk=>hu k (aF h.size hk)⟩
theorem Ξ.om{T:Tg}(hu:Θ w T)(h:w.grownBy w' row)(hs:∀g,row=some g->S (T g)):Ξ S w T w' T :=
 ⟨h.os,h.tape,h.output,h.size,fun k hk hn=>h.block k hk (fun e=>hn (hs k e.symm)),fun _ _=>rfl,fun k hk=>hu k (aF h.size hk)⟩
theorem Ξ.Et{T:Tg}(hu:Θ w T)(a:Addr)(v:ξ)(hs:S (T a.block)):Ξ S w T (w.setCell a v) T :=
 ⟨rfl,rfl,rfl,C4,fun k _ hn=>uc w a v k (fun e=>hn (by rw[e];exact hs)),fun _ _=>rfl,fun k hk=>hu k (by simpa [dG] using hk)⟩
section
variable{T T':Tg}(h:Ξ S w T w' T')
include h
theorem Ξ.ext(e:Ext w' VY):Ξ S w T VY T':=h.trans (Ξ.ai S h.Δ e)
theorem Ξ.grown(e:w'.grownBy VY row)(hs:∀g,row=some g->S (T' g)\/w.heap.size<=g):Ξ S w T VY T' :=
 ⟨e.os.trans h.os,e.tape.trans h.tape,e.output.trans h.output,aF h.size e.size,fun k hk hn=>(e.block k (eM hk h.size) (fun e'=>by
   rcases hs k e'.symm with h1|h1
   .exact hn (by rw[←h.tag k hk];exact h1)
   .omega)).trans (h.block k hk hn),h.tag,fun k hk=>h.Δ k (aF e.size hk)⟩
theorem Ξ.set(a:Addr)(v:ξ)(hs:S (T' a.block)\/w.heap.size<=a.block):Ξ S w T (w'.setCell a v) T' :=
 h.grown (row:=some a.block) ⟨rfl,rfl,rfl,C4,fun k _ hk=>uc w' a v k (by rintro rfl;exact hk rfl)⟩ (by rintro g e;cases e;exact hs)
end
def give(T:Tg)(K:Nat->Bool)(t:Nat):Tg:=fun k=>if K k then t else T k
theorem wR{T:Tg}(h:K k=true):give T K t k=t:=by simp[give,h]
theorem qJ{T:Tg}(h:K k=false):give T K t k=T k:=by simp[give,h]
theorem Ξ.give{T T':Tg}(h:Ξ S w T w' T')(K:Nat->Bool)(t:Nat)(hk:∀k,K k=true->w.heap.size<=k/\k<w'.heap.size):Ξ S w T w' (give T' K t) :=
 ⟨h.os,h.tape,h.output,h.size,h.block,fun k js=>by
  by_cases e:K k=true
  .have:=(hk k e).1;omega
  .rw[qJ Lg];exact h.tag k js,fun k js=>by
  by_cases e:K k=true
  .have:=(hk k e).2;omega
  .rw[qJ Lg];exact h.Δ k js⟩
def Kept(T T':Tg):Prop:=∀k,T k≠0->T' k=T k
theorem Kept.give{T:Tg}(h:∀k,K k=true->T k=0):Kept T (give T K t):=fun k hk=>by
 by_cases e:K k=true
 .exact absurd (h k e) hk
 .exact qJ Lg
def Has(w:κ)(T:Tg)(t b:Nat)(vs:List ξ):Prop:=T b=t/\∃ty,w.heap[b]?=some (.cells vs.toArray ty (0,0))
section
variable {w w':κ}{T T':Tg}{t b:Nat}{vs:List ξ}
section
variable(h:Has w T t b vs)
include h
theorem Has.lt:b<w.heap.size:=by obtain⟨_,ty,h⟩:=h;exact(Array.getElem?_eq_some_iff.1 h).1
theorem Has.cell(hv:vs[i]?=some v):w.cell? (b,i)=some v:=by obtain⟨_,ty,h⟩:=h;rw[cell_of_row _ _ _ _ _ _ h];simpa using hv
theorem Has.free(i:Nat):w.frozen? (b,i)=false:=by obtain⟨_,ty,h⟩:=h;simp only[κ.frozen?,h];simp
theorem Has.dD(e:w'.heap[b]?=w.heap[b]?)(ht:T' b=T b):Has w' T' t b vs:=⟨ht.trans h.1,by obtain⟨_,ty,h⟩:=h;exact⟨ty,e.trans h⟩⟩
theorem Has.ο(hT:Ξ S w T w' T')(hs:¬S t):Has w' T' t b vs:=h.dD (hT.block b h.lt (by rw[h.1];exact hs)) (hT.tag b h.lt)
theorem Has.ext(e:Ext w w'):Has w' T t b vs:=h.dD (e.block b h.lt) rfl
theorem Has.grown(e:w.grownBy w' row)(hne:row≠some b):Has w' T t b vs:=h.dD (e.block b h.lt (fun e=>hne e.symm)) rfl
theorem Has.kept(ht:t≠0)(hk:Kept T T'):Has w T' t b vs:=h.dD rfl (hk b (by rw[h.1];exact ht))
theorem Has.set(i:Nat)(v:ξ):Has (w.setCell (b,i) v) T t b (vs.set i v):=by obtain⟨ht,ty,h⟩:=h;refine⟨ht,ty,?_⟩;simp only[dG,Array.getElem?_modify,h];simp
theorem Has.nH{a:Addr}(hne:a.block≠b)(v:ξ):Has (w.setCell a v) T t b vs:=h.dD (uc w a v b (fun e=>hne e.symm)) rfl
end
theorem Has.new(w:κ)(T:Tg)(vs:List ξ)(ty:aY)(hb:b=w.heap.size):Has (w.alloc (.cells vs.toArray ty)) T (T b) b vs:=by subst hb;exact⟨rfl,ty,heap_alloc_new w _⟩
theorem Has.of(h:Has w T t b vs){t':Nat}(ht:T' b=t'):Has w T' t' b vs:=⟨ht,h.2⟩
theorem Has.is(h:Has w T t b vs){nj:List ξ}(e:vs=nj):Has w T t b nj:=e▸h
end
def Row(w:κ)(T:Tg)(t:Nat)(e:aY)(size:Nat)(A:aS)(n c:Nat)(xs:List ξ):Prop:=Own w 0 e size A n c xs/\∀k,bn A=some k->T k=t
section
variable {w w':κ}{T T':Tg}{t:Nat}{e:aY}{size:Nat}{A:aS}{n c:Nat}{xs:List ξ}
theorem Row.rd(h:Row w T t e size A n c xs):Rd w size A n c xs:=h.1.rd
theorem Row.lt(h:Row w T t e size A n c xs)(hk:bn A=some k):k<w.heap.size:=by obtain⟨a,ha,rfl⟩:=vu.1 hk;exact(h.1.gU a ha).2
theorem Row.dR(w:κ)(T:Tg)(t:Nat)(e:aY)(size:Nat):Row w T t e size none 0 0 []:=⟨Own.dR _ _ _ _,fun k hk=>by cases hk⟩
section
variable(h:Row w T t e size A n c xs)
include h
theorem Row.dD(hb:∀k,bn A=some k->w'.heap[k]?=w.heap[k]?)(ht:∀k,bn A=some k->T' k=T k):Row w' T' t e size A n c xs:=by
 refine⟨⟨h.1.1,?_⟩,fun k hk=>(ht k hk).trans (h.2 k hk)⟩;rcases h.1.2 with h2|⟨g,cap,cur,hv,vc,hg,rest⟩
 .exact .inl h2
 .refine .inr ⟨g,cap,cur,hv,vc,?_,rest⟩
  injection hv with h1 _ _
  rw[hb g (by rw[h1];rfl)];exact hg
theorem Row.ο(hT:Ξ S w T w' T')(hs:¬S t):Row w' T' t e size A n c xs :=
 h.dD (fun k hk=>hT.block k (h.lt hk) (by rw[h.2 k hk];exact hs)) (fun k hk=>hT.tag k (h.lt hk))
theorem Row.ext(hE:Ext w w'):Row w' T t e size A n c xs:=h.dD (fun k hk=>hE.block k (h.lt hk)) (fun _ _=>rfl)
end
def went(A B:aS):Nat->Bool:=fun k=>decide (bn B=some k/\bn A≠some k)
theorem Row.went{d:Nat}{ys:List ξ}(h:Row w T t e size A n c xs)(ho:Own w' 0 e size B m d ys):Row w' (give T (went A B) t) t e size B m d ys:=by
 refine⟨ho,fun k hk=>?_⟩;by_cases hA:bn A=some k
 .rw[qJ (by simp[Proofs.YtffcefoadaogbaaGreat.went,hA])];exact h.2 k hA
 .exact wR (by simp[Proofs.YtffcefoadaogbaaGreat.went,hA,hk])
theorem WZ{w:κ}{A:aS}(hw:oV w A B)(hk:went A B k=true):w.heap.size<=k:=by
 simp only[went,decide_eq_true_eq]at hk;rcases hw with h|h
 .exact absurd (h▸hk.1) hk.2
 .exact h k hk.1
end
def Sb(w:κ)(T:Tg)(A:aS)(n c:Nat)(l:aD):Prop:=Rb w A n c l/\(0<n->∀k,bn A=some k->T k=0)
section
variable {w w':κ}{T T':Tg}{A:aS}{n c:Nat}{l:aD}
theorem Rd.Gf{w:κ}{A:aS}{n c:Nat}(h:Rd w size A n c xs)(hn:0<n*size)(hk:bn A=some k):k<w.heap.size:=by obtain⟨a,ha,rfl⟩:=vu.1 hk;exact h.lt hn a ha
theorem Rd.fc{w w':κ}{A:aS}{n c:Nat}(h:Rd w size A n c xs)(hb:0<n*size->∀k,bn A=some k->w'.heap[k]?=w.heap[k]?):Rd w' size A n c xs:=by refine⟨h.1,h.2.1,h.2.2.1,fun hn=>?_⟩;obtain⟨b,o,e,hc⟩:=h.2.2.2 hn;exact⟨b,o,e,fun j u hu=>by rw[κ.cell?_of_block (a:=⟨b,o+j,none⟩) (hb hn b (by rw[e];rfl))];exact hc j u hu⟩
theorem Sb.ο(h:Sb w T A n c l)(hT:Ξ S w T w' T')(hs:¬S 0):Sb w' T' A n c l :=
 ⟨Rd.fc h.1 fun hn k hk=>hT.block k (Rd.Gf h.1 hn hk) (by rw[h.2 η k hk];exact hs),fun hn k hk=>(hT.tag k (Rd.Gf h.1 η hk)).trans (h.2 hn k hk)⟩
theorem Sb.ext(h:Sb w T A n c l)(e:Ext w w'):Sb w' T A n c l:=⟨h.1.ext e,h.2⟩
end
theorem Has.zc{T:Tg}{vs:List Value}(h:Has w T t b vs)(i:Nat)(hv:vs[i]?=some v:=by exact rfl):w.cell? ⟨b,i,none⟩=some v:=h.cell hv
abbrev bH:=List (List UInt8)
def cn:bH->Nat
 | []=>0
 |l::r=>r.foldl (fun n x=>min n x.length) l.length
def bp(ls:bH)(f:Nat):List UInt8:=ls.map fun l=>l.getD f 0
theorem Ag(r:bH):∀n:Nat,r.foldl (fun n x=>min n x.length) n<=n:=by
 induction r with
 |nil=>intro n;exact aq _
 |cons x r ih=>intro n;rw[afw];exact aF (ih _) (Nat.min_le_left _ _)
theorem GC(r:bH):∀n:Nat,∀x∈r,r.foldl (fun n x=>min n x.length) n<=x.length:=by
 induction r with
 |nil=>intro n x hx;cases hx
 |cons y r ih =>
  intro n x hx;rcases Ad.1 hx with rfl|hx
  .rw[afw];exact aF (Ag r _) (Nat.min_le_right _ _)
  .rw[afw];exact ih _ x hx
theorem jt(ls:bH):∀l∈ls,cn ls<=l.length:=by
 cases ls with
 |nil=>intro l hl;cases hl
 |cons y r =>
  intro l hl;rcases Ad.1 hl with rfl|hl
  .exact Ag _ _
  .exact GC _ _ l hl
theorem JI(r:bH):∀(n m:Nat),m<=n->(∀x∈r,m<=x.length)->m<=r.foldl (fun n x=>min n x.length) n:=by
 induction r with
 |nil=>intro n m h _;exact h
 |cons y r ih=>intro n m h hx;rw[afw];exact ih _ m (Nat.le_min.2 ⟨h,hx y (C2 ..)⟩) (fun x h=>hx x (xS _ h))
theorem G8{ls:bH}(hne:ls≠[])(h:∀l∈ls,m<=l.length):m<=cn ls:=by
 cases ls with
 |nil=>exact absurd rfl hne
 |cons y r=>exact JI r _ m (h y (C2 ..)) (fun x hx=>h x (xS _ hx))
def j8(l:aD)(first:Nat)(b:aD):List UInt8:=if first<=l.length then l++(b.drop (l.length-first)).take (1000-l.length) else l
structure Pk where
 iA:Bool
 src:Nat
 dst:Nat
 first:Nat:=0
 ν:List UInt8:=[]
 dP:Nat:=0
 frame:Nat:=0
 sum:Nat:=0
def mw(p:Pk):Prop:=p.src<8/\p.dst<8/\p.src≠p.dst/\(if p.iA then p.first=0/\p.ν=[]/\p.dP=0/\p.frame=0/\p.sum=0 else p.first<=1000/\p.dP<=1000/\p.frame<=1000/\p.ν.length<=32/\p.sum<4294967296)
def aW(f:Nat->α)(k:Nat)(x:α):Nat->α:=fun j=>if j=k then x else f j
theorem aH(f:Nat->α)(k:Nat)(x:α):aW f k x k=x:=by simp[aW]
theorem az(f:Nat->α)(x:α)(h:j≠k):aW f k x j=f j:=by simp[aW,h]
structure Cr where
 ls:bH
 now:Nat
 heard:Nat->Nat
 has:Nat->Nat
 words:Nat->Nat×Nat
 bx:List (Nat×Nat)
 closed:Bool
namespace Cr
variable (sm:bH->Nat->Nat) (me χ:Nat)
def new(n Ω:Nat):Cr:=⟨cP n (cP Ω 0),0,fun _=>0,fun _=>Ω,fun _=>(0,0),[],false⟩
def nr(c:Cr):List UInt8:=c.ls.getD me []
def head(c:Cr):Nat:=(c.nr me).length
def front(c:Cr):Nat:=cn c.ls
def iB(c:Cr):Nat:=if c.closed then 6 else if 1000<=c.head me then 4 else if χ<=c.head me-c.front then 5 else 0
def ν(c:Cr)(b:UInt8):Cr:=if c.iB me χ=0 then {c with ls:=c.ls.set me (c.nr me++[b])} else c
def recv(c:Cr)(p:Pk):Cr :=
 if c.closed then c
 else if p.iA then {c with heard:=aW c.heard p.src c.now,bx:=c.bx++[(1,p.src)],closed:=true}
 else
  let ls:=c.ls.set p.src (j8 (c.ls.getD p.src []) p.first p.ν)
  {c with ls:=ls,heard:=aW c.heard p.src c.now,has:=if c.has p.src<p.dP/\p.dP<=(ls.getD me []).length then aW c.has p.src p.dP else c.has,words:=if 0<p.frame/\(c.words p.src).1<=p.frame then aW c.words p.src (p.frame,p.sum) else c.words}
def others(c:Cr):List Nat:=(dJ c.ls.length).filter (·≠me)
def late(c:Cr):Option Nat:=(c.others me).find? fun i=>decide (40<=c.now+1-c.heard i)
def input(c:Cr)(i:Nat):Pk :=
 {iA:=false,src:=me,dst:=i,first:=c.has i,ν:=((c.nr me).drop (c.has i)).take 32,dP:=(c.ls.getD i []).length,frame:=c.front,sum:=if c.front=0 then 0 else sm c.ls c.front}
def tick(c:Cr):Cr :=
 if c.closed then c else match c.late me with
  |some i=>{c with now:=c.now+1,bx:=c.bx++[(2,i)],closed:=true}
  |none=>{c with now:=c.now+1}
def kP(c:Cr):List Pk:=if c.closed then [] else match c.late me with
  |some _=>[]
  |none=>(c.others me).map (c.input sm me)
def iA(c:Cr):Cr:={c with closed:=true}
end Cr
structure Wd where
 ps:Nat->Cr
 au:List Pk
 log:Nat->List (Nat×Nat)
namespace Wd
variable (sm:bH->Nat->Nat) (n χ:Nat)
def told(W:Wd):Wd:={W with log:=fun i=>W.log i++(W.ps i).bx,ps:=fun i=>{W.ps i with bx:=[]}}
def cF(W:Wd)(p:Nat)(b:UInt8):Wd:=told {W with ps:=aW W.ps p ((W.ps p).ν p χ b)}
def fF(W:Wd)(p:Nat):Wd:=told {W with ps:=aW W.ps p ((W.ps p).tick p),au:=W.au++((W.ps p).kP sm p).take (300-W.au.length)}
def heard(W:Wd)(k:Pk):Wd:=told {W with ps:=aW W.ps k.dst ((W.ps k.dst).recv k.dst k)}
def dropped(W:Wd)(i:Nat):Wd:=told {W with au:=W.au.eraseIdx i}
def line(W:Wd)(i p:Nat):List UInt8:=(W.ps i).ls.getD p []
def own(W:Wd)(p:Nat):List UInt8:=W.line p p
def owns(W:Wd):bH:=(dJ n).map W.own
end Wd
structure Room(w:κ)(b g n:Nat)(rf:Nat->Int)(vs:Nat->Nat->Int):Prop where
 ne:b≠g
 hd:w.cell? b=some (.slice g n n)
 small:n<=200
 refs:∀k,k<n->w.cell? ⟨g,k*9+8,none⟩=some (.int .i64 (rf k))
 oX:∀k i,k<n->i<8->w.cell? ⟨g,k*9+i,none⟩=some (.int .i32 (vs k i))
 free:∀o,w.frozen? ⟨g,o,none⟩=false
 lt:g<w.heap.size
def Found(n:Nat)(rf:Nat->Int)(pg:Int)(k:Nat):Prop:=k<n/\pg=(k:Int)+1/\rf k≠0
def aiL(n:Nat)(rf:Nat->Int)(pg:Int):Prop:=pg<1\/(n:Int)<pg\/∃k,k<n/\pg=(k:Int)+1/\rf k=0
theorem Eu(h:Room w b g n rf vs)(hf:Found n rf pg k):τ prog 149 #[.pointer b,pg] w fun e w'=>e=.returned (.pointer (g,k*9))/\w=w':=by
 obtain⟨hk,rfl,hne⟩:=hf;have c0:=h.hd;have c1:=h.refs k hk;have hs:=h.small;have hz:(rf k==0)=false:=by simpa using hne
 have hi:(k:Int)+1-1=(k:Int):=η;clear h hne;go_enter func149,ntmps149;go_wp2;go_ret;exact⟨rfl,rfl⟩
theorem ahq(h:Room w b g n rf vs)(hl:-9223372036854775808<=pg)(hu:pg<=9223372036854775807)(hf:aiL n rf pg):τ prog 149 #[.pointer b,pg] w fun e w'=>e=.returned (.pointer none)/\w=w':=by
 have c0:=h.hd;have hs:=h.small;rcases hf with hf|hf|⟨k,hk,rfl,hf⟩
 .clear h;go_enter func149,ntmps149;go_wp2;go_ret;exact⟨rfl,rfl⟩
 .clear h;go_enter func149,ntmps149;go_wp2;go_ret;exact⟨rfl,rfl⟩
 .have c1:=h.refs k hk;rw[hf]at c1;have hi:(k:Int)+1-1=(k:Int):=η;clear h hf hl hu;go_enter func149,ntmps149;go_wp2;go_ret;exact⟨rfl,rfl⟩
def jE(f:Nat->α)(k:Nat)(x:α):Nat->α:=fun j=>if j=k then x else f j
theorem jT(f:Nat->α)(k:Nat)(x:α):jE f k x k=x:=by simp[jE]
theorem gC(f:Nat->α)(x:α)(h:j≠k):jE f k x j=f j:=by simp[jE,h]
theorem Ev(w:κ)(a:Addr)(u:ξ)(p:Addr):(w.setCell a u).frozen? p=w.frozen? p:=bT
theorem Room.setRef(h:Room w b g n rf vs)(hk:k<n)(x:Int):Room (w.setCell (g,k*9+8) (x:ξ)) b g n (jE rf k x) vs:=by
 refine⟨h.ne,?_,h.small,fun j hj=>?_,fun j i hj hi=>?_,fun o=>?_,?_⟩
 .rw[Ac _ _ _ _ (by intro e;injection e with e1;exact h.ne e1.symm)];exact h.hd
 .by_cases e:j=k
  .subst e;rw[jT];exact aiI _ _ _ (h.refs j hj)
  .rw[gC _ _ e,Ac _ _ _ _ Wv];exact h.refs j hj
 .rw[Ac _ _ _ _ Wv];exact h.oX j i hj hi
 .rw[Ev];exact h.free o
 .simpa [dG] using h.lt
theorem Room.ud(h:Room w b g n rf vs)(hk:k<n)(hi:i<8)(x:Int):Room (w.setCell (g,k*9+i) (.int .i32 x)) b g n rf (jE vs k (jE (vs k) i x)):=by
 refine⟨h.ne,?_,h.small,fun j hj=>?_,fun j i' hj hi'=>?_,fun o=>?_,?_⟩
 .rw[Ac _ _ _ _ (by intro e;injection e with e1;exact h.ne e1.symm)];exact h.hd
 .rw[Ac _ _ _ _ Wv];exact h.refs j hj
 .by_cases e:j=k
  .subst e
   rw[jT];by_cases e':i'=i
   .subst e';rw[jT];exact aiI _ _ _ (h.oX j i' hj hi')
   .rw[gC _ _ e',Ac _ _ _ _ Wv];exact h.oX j i' hj hi'
  .rw[gC _ _ e,Ac _ _ _ _ Wv];exact h.oX j i' hj hi'
 .rw[Ev];exact h.free o
 .simpa [dG] using h.lt
theorem Room.congr{ju:Nat->Int}{nj:Nat->Nat->Int}(h:Room w b g n rf vs)(h1:∀k,k<n->ju k=rf k)(h2:∀k i,k<n->i<8->nj k i=vs k i):Room w b g n ju nj :=
 ⟨h.ne,h.hd,h.small,fun k hk=>by rw[h1 k hk];exact h.refs k hk,fun k i hk hi=>by rw[h2 k i hk hi];exact h.oX k i hk hi,h.free,h.lt⟩
theorem Room.ext(h:Room w b g n rf vs)(e:Ext w w'):Room w' b g n rf vs :=
 ⟨h.ne,e.cell h.hd,h.small,fun k hk=>e.cell (h.refs k hk),fun k i hk hi=>e.cell (h.oX k i hk hi),fun o=>(fC.frozen e (p:=⟨g,o,none⟩) h.lt).trans (h.free o),eM h.lt e.size⟩
theorem wT(w:κ)(a:Addr)(ha:a.block=g)(u:ξ):w.grownBy (w.setCell a u) (some g) :=
 ⟨rfl,rfl,rfl,C4,fun k _ hk=>uc w a u k (by rintro rfl;exact hk (by rw[ha]))⟩
def Left(w:κ)(b g n:Nat)(rf:Nat->Int)(vs:Nat->Nat->Int)(v:ξ)(e:Ending)(w':κ):Prop:=e=.returned v/\Room w' b g n rf vs/\w.grownBy w' (some g)
section
variable {w:κ}{b g n:Nat}{rf:Nat->Int}{vs:Nat->Nat->Int}
section
variable(h:Room w b g n rf vs)
include h
theorem W9(hf:Found n rf pg k)(De:-1000000<=rf k)(hb:rf k<=1000000):τ prog 103 #[.pointer b,pg] w (Left w b g n (jE rf k (rf k+1)) vs (.bool true)):=by have H:=θ (Eu h hf);have c1:=h.refs k hf.1;have iU:=h.free (k*9+8);have Hf:=θ (h.setRef hf.1 (rf k+1));clear h hf;go_enter func103,ntmps103;go_wp2_with fail;refine H.o.mono ?_;rintro e w1 ⟨rfl,rfl⟩;go_wp2;go_ret;exact⟨rfl,Hf.o,wT _ _ rfl _⟩
theorem Xa(hf:Found n rf pg k)(De:-1000000<=rf k)(hb:rf k<=1000000):τ prog 110 #[.pointer b,pg] w (Left w b g n (jE rf k (rf k-1)) vs (.bool true)):=by have H:=θ (Eu h hf);have c1:=h.refs k hf.1;have iU:=h.free (k*9+8);have Hf:=θ (h.setRef hf.1 (rf k-1));clear h hf;go_enter func110,ntmps110;go_wp2_with fail;refine H.o.mono ?_;rintro e w1 ⟨rfl,rfl⟩;go_wp2;go_ret;exact⟨rfl,Hf.o,wT _ _ rfl _⟩
theorem Xb(hf:Found n rf pg k):τ prog 128 #[.pointer b,pg] w fun e w'=>e=.returned (.int .i64 (rf k))/\w=w':=by have H:=θ (Eu h hf);have c1:=h.refs k hf.1;clear h hf;go_enter func128,ntmps128;go_wp2_with fail;refine H.o.mono ?_;rintro e w1 ⟨rfl,rfl⟩;go_wp2;go_ret;exact⟨rfl,rfl⟩
theorem Ru(hl:-9223372036854775808<=pg)(hu:pg<=9223372036854775807)(hf:aiL n rf pg):τ prog 128 #[.pointer b,pg] w fun e w'=>e=.returned (.int .i64 0)/\w=w':=by have H:=θ (ahq h hl hu hf);clear h hf hl hu;go_enter func128,ntmps128;go_wp2_with fail;refine H.o.mono ?_;rintro e w1 ⟨rfl,rfl⟩;go_wp2;go_ret;exact⟨rfl,rfl⟩
theorem aa7(hf:Found n rf pg k)(hi:i<8):τ prog 313 #[.pointer b,pg,i] w fun e w'=>e=.returned (.tuple #[.int .i32 (vs k i),.bool true])/\w=w':=by
 have H:=θ (Eu h hf);have c1:=h.oX k i hf.1 hi;clear h hf;go_enter func313,ntmps313;go_wp2_with fail;refine H.o.mono ?_;rintro e w1 ⟨rfl,rfl⟩;go_wp2;go_ret2
 exact⟨rfl,rfl⟩
theorem aa8(hf:Found n rf pg k)(h1:rf k<=1)(hi:i<8)(x:Int):τ prog 165 #[.pointer b,pg,i,.int .i32 x] w (Left w b g n rf (jE vs k (jE (vs k) i x)) (.bool true)):=by have H:=θ (Eu h hf);have c0:=h.refs k hf.1;have c1:=h.oX k i hf.1 hi;have iU:=h.free (k*9+i);have Hf:=θ (h.ud hf.1 hi x);clear h hf;go_enter func165,ntmps165;go_wp2_with fail;refine H.o.mono ?_;rintro e w1 ⟨rfl,rfl⟩;go_wp2;go_ret;exact⟨rfl,Hf.o,wT _ _ rfl _⟩
end
end
def jQ(x:Int):Prop:=-2147483648<=x/\x<=2147483647
def Ew(x:Int):Int:=(x+2147483648) % 4294967296-2147483648
def Ah(b:Bool):Int:=if b then 1 else 0
def JJ(a b:Int):Int:=if b=0 then 0 else Ew (a.tdiv b)
def ue(a:Int):Nat:=(a % 32).toNat
def Bv(k a b:Int):Int :=
 if k=3 then Ew (a+b) else if k=4 then Ew (a-b) else if k=5 then Ew (a*b) else if k=6 then JJ a b else if k=7 then Ah (decide (a<b)) else Ah (decide (a=b))
theorem mg(x:Int):wrap32 x=Ew x:=by unfold wrap32 Ew;omega
theorem OQ(x:Int):jQ (Ew x):=by unfold jQ Ew;omega
theorem Xc(b:Bool):jQ (Ah b):=by cases b<;>simp[Ah,jQ]
theorem DI(a:Int):ue a<32:=by unfold ue;omega
theorem aa9(k a b:Int):jQ (Bv k a b):=by
 unfold Bv JJ;repeat' split
 all_goals first|exact OQ _|exact Xc _|(unfold jQ;omega)
section
variable(w:κ)
theorem Rv(b:Bool):τ prog 207 #[.bool b] w fun e w'=>e=.returned (.int .i32 (Ah b))/\w'=w:=by
 cases b <;>
 .go_enter func207,ntmps207;go_wp2;go_ret;exact⟨rfl,rfl⟩
theorem ad0(a b:Int):τ prog 203 #[.int .i32 a,.int .i32 b] w fun e w'=>e=.returned (.int .i32 (Ew (a+b)))/\w'=w:=by go_enter func203,ntmps203;go_wp2;go_ret;exact⟨by simp[mg],rfl⟩
theorem ad1(a b:Int):τ prog 204 #[.int .i32 a,.int .i32 b] w fun e w'=>e=.returned (.int .i32 (Ew (a-b)))/\w'=w:=by go_enter func204,ntmps204;go_wp2;go_ret;exact⟨by simp[mg],rfl⟩
theorem ad2(a b:Int):τ prog 205 #[.int .i32 a,.int .i32 b] w fun e w'=>e=.returned (.int .i32 (Ew (a*b)))/\w'=w:=by go_enter func205,ntmps205;go_wp2;go_ret;exact⟨by simp[mg],rfl⟩
theorem ad3(a b:Int):τ prog 206 #[.int .i32 a,.int .i32 b] w fun e w'=>e=.returned (.int .i32 (JJ a b))/\w'=w:=by
 by_cases h0:b=0
 .subst h0;go_enter func206,ntmps206;go_wp2;go_ret;exact⟨by simp[JJ],rfl⟩
 have b0:(b==0)=false:=by rw[beq_eq_false_iff_ne];exact h0
 by_cases h1:b = -1
 .subst h1;go_enter func206,ntmps206;go_wp2;go_ret;exact⟨by simp[JJ,mg],rfl⟩
 have b1:(b==-1)=false:=by rw[beq_eq_false_iff_ne];exact h1
 go_enter func206,ntmps206;go_wp2;go_ret;exact⟨by simp[JJ,h0,mg],rfl⟩
end
def vI(l:aD)(n:Int):Nat:=if 0<=n then (((rs l)[n.toNat]?).map (·.1)).getD 0 else 0
def gj(g:List Int)(i:Int):Int:=g.getD i.toNat 0
def oo(g:List Int)(i:Int)(v:Int):List Int:=g.set i.toNat v
def Lt(ν:aD)(jX:Int):Int:=if jX<0 then 0 else (bt ν jX.toNat:Nat)
def mq(t ν:aD)(frame:Int)(g:List Int)(o:dM):Int :=
 if o.1=1 then Ew o.2.2.1
 else if o.1=2 then gj g o.2.2.1
 else if o.1=11 then Lt ν (gj g o.2.2.1)
 else if o.1=12 then gj g (ue (gj g o.2.2.1):Nat)
 else if o.1=14 then (vI t (gj g o.2.2.1):Nat)
 else if o.1=15 then Ew frame
 else Bv o.1 (gj g o.2.2.1) (gj g o.2.2.2)
def iV(t ν:aD)(frame:Int)(g:List Int)(k:Nat)(o:dM):List Int×Nat :=
 if o.1=9 then (g,o.2.1.toNat)
 else if o.1=10 then (g,if gj g o.2.1=0 then o.2.2.1.toNat else k+1)
 else if o.1=13 then (oo g (ue (gj g o.2.1):Nat) (gj g o.2.2.1),k+1)
 else (oo g o.2.1 (mq t ν frame g o),k+1)
def runN(t ν:aD)(frame:Int)(l:List dM):Nat->Nat->List Int->List Int×Nat
 |0,_,g=>(g,0)
 |f+1,k,g =>
  match l[k]? with
  |none=>(g,0)
  |some o=>if o.1=0 then (g,1) else ((runN t ν frame l f (iV t ν frame g k o).2 (iV t ν frame g k o).1).1,(runN t ν frame l f (iV t ν frame g k o).2 (iV t ν frame g k o).1).2+1)
def nx(t ν:aD)(frame:Int)(l:List dM)(g:List Int):List Int×Nat:=if fD t l = -1 then runN t ν frame l 200 0 g else (g,0)
def pI(g:List Int):Prop:=g.length=32/\∀x∈g,jQ x
theorem kf{g:List Int}(h:pI g)(i:Int):jQ (gj g i):=by
 unfold gj;rw[cO];cases e:g[i.toNat]? with
 |none=>simp[jQ]
 |some x=>exact h.2 x (sO e)
theorem JK{g:List Int}(h:pI g)(i:Int){v:Int}(hv:jQ v):pI (oo g i v):=by
 refine⟨by simp[oo,h.1],fun x hx=>?_⟩;rcases List.mem_or_eq_of_mem_set hx with h1|h1
 .exact h.2 x h1
 .subst h1;exact hv
theorem ad4(ν:aD)(jX:Int):jQ (Lt ν jX):=by
 unfold Lt jQ;split
 .omega
 .have:=G6 ν jX.toNat;omega
theorem aba(l:aD):∀x∈rs l,x.1<=1114111:=by
 have h:∀f (l:aD),∀x∈N2 f l,x.1<=1114111:=by
  intro f;induction f with
  |zero=>intro l x hx;simp[N2]at hx
  |succ f ih =>
   intro l x hx;unfold N2 at hx;split at hx
   .simp at hx
   .rcases Ad.1 hx with rfl|h1
    .exact Ep _
    .exact ih _ x h1
 exact h _ l
theorem Xf(l:aD)(n:Int):vI l n<=1114111:=by
 unfold vI;split
 .cases e:(rs l)[n.toNat]? with
  |none=>simp
  |some x =>have hm:=sO e;simp only[Option.map_some,Option.getD_some];exact aba l x hm
 .omega
section
variable(t ν:aD)(frame:Int)
theorem Rw{g:List Int}(h:pI g)(o:dM):jQ (mq t ν frame g o):=by
 unfold mq;repeat' split
 .exact OQ _
 .exact kf h _
 .exact ad4 _ _
 .exact kf h _
 .have:=Xf t (gj g o.2.2.1);unfold jQ;omega
 .exact OQ _
 .exact aa9 _ _ _
theorem JL{g:List Int}(h:pI g)(k:Nat)(o:dM):pI (iV t ν frame g k o).1:=by
 unfold iV;split
 .exact h
 split
 .exact h
 split
 .exact JK h _ (kf h _)
 .exact JK h _ (Rw _ _ _ h _)
theorem Tm(l:List dM)(k:Nat)(g:List Int):runN t ν frame l 0 k g=(g,0):=rfl
theorem Ex(l:List dM)(f k:Nat)(g:List Int)(h:l.length<=k):runN t ν frame l f k g=(g,0):=by
 cases f with
 |zero=>rfl
 |succ f=>unfold runN;rw[List.getElem?_eq_none h]
theorem BH(l:List dM)(f k:Nat)(g:List Int)(h:k<l.length)(h0:l[k].1=0):runN t ν frame l (f+1) k g=(g,1):=by unfold runN;rw[bf h];simp only[h0,if_true]
theorem JM(l:List dM)(f k:Nat)(g:List Int)(h:k<l.length)(h0:l[k].1≠0):runN t ν frame l (f+1) k g=((runN t ν frame l f (iV t ν frame g k l[k]).2 (iV t ν frame g k l[k]).1).1,(runN t ν frame l f (iV t ν frame g k l[k]).2 (iV t ν frame g k l[k]).1).2+1):=by
 conv=>lhs;unfold runN
 rw[bf h];simp only[h0,if_false]
end
theorem JN(t ν:aD)(frame:Int)(l:List dM):∀(f k:Nat) {g:List Int},pI g->pI (runN t ν frame l f k g).1/\(runN t ν frame l f k g).2<=f
 |0,k,g,h=>⟨h,aq _⟩
 |f+1,k,g,h=>by
  by_cases hk:k<l.length
  .by_cases h0:l[k].1=0
   .rw[BH _ _ _ _ _ _ _ hk h0];exact⟨h,bT⟩
   .rw[JM _ _ _ _ _ _ _ hk h0];have:=JN t ν frame l f (iV t ν frame g k l[k]).2 (JL t ν frame h k l[k]);exact⟨this.1,by simpa using this.2⟩
  .rw[Ex _ _ _ _ _ _ _ η];exact⟨h,aM _⟩
theorem Lu(t ν:aD)(frame:Int)(l:List dM){g:List Int}(h:pI g):pI (nx t ν frame l g).1:=by
 unfold nx;split
 .exact(JN _ _ _ _ _ _ h).1
 .exact h
theorem G9:∀{l:List dM}{m k:Nat},uJ m k l = -1->∀o∈l,lq o m=true
 | [],_,_,_,o,ho=>by simp at ho
 |x::l,m,k,h,o,ho=>by
  have e:uJ m k (x::l)=if lq x m then uJ m (k+1) l else (k:Int):=rfl
  rw[e]at h;by_cases hx:lq x m=true
  .rw[if_pos hx]at h
   rcases Ad.1 ho with rfl|h1
   .exact hx
   .exact G9 h o h1
  .rw[if_neg hx]at h;omega
theorem Hj{t:aD}{l:List dM}(h:fD t l = -1):∀o∈l,lq o l.length=true:=by
 unfold fD at h;split at h
 .exact G9 h
 .cases h
theorem Ey{t:aD}{l:List dM}(h:fD t l = -1):nu t l=true:=by
 unfold fD at h;split at h
 .assumption
 .cases h
theorem Aj{o:dM}(h:lq o m=true):o.1=0\/(o.1=9/\0<=o.2.1/\o.2.1<=m)\/(o.1=10/\0<=o.2.1/\o.2.1<=31/\0<=o.2.2.1/\o.2.2.1<=m)\/(o.1=1/\0<=o.2.1/\o.2.1<=31)\/(o.1=15/\0<=o.2.1/\o.2.1<=31)\/((o.1=2\/11<=o.1/\o.1<=14)/\0<=o.2.1/\o.2.1<=31/\0<=o.2.2.1/\o.2.2.1<=31)\/((3<=o.1/\o.1<=8)/\0<=o.2.1/\o.2.1<=31/\0<=o.2.2.1/\o.2.2.1<=31/\0<=o.2.2.2/\o.2.2.2<=31):=by
 unfold lq iz toI at h;by_cases h0:o.1=0
 .exact .inl h0
 rw[if_neg h0]at h;by_cases h1:o.1=1
 .rw[if_pos h1]at h;simp at h;omega
 rw[if_neg h1]at h;by_cases h9:o.1=9
 .rw[if_pos h9]at h;simp at h;omega
 rw[if_neg h9]at h;by_cases BI:o.1=10
 .rw[if_pos BI]at h;simp at h;omega
 rw[if_neg BI]at h;by_cases N3:o.1=15
 .rw[if_pos N3]at h;simp at h;omega
 rw[if_neg N3]at h;by_cases h2:o.1=2\/11<=o.1/\o.1<=14
 .rw[if_pos h2]at h;simp at h;omega
 rw[if_neg h2]at h;by_cases h3:3<=o.1/\o.1<=8
 .rw[if_pos h3]at h;simp at h;omega
 rw[if_neg h3]at h;cases h
theorem Ry{t ν:aD}{frame:Int}{g:List Int}{o:dM}(h:lq o m=true)(hk:k<m):(iV t ν frame g k o).2<=m:=by
 have hw:=Aj h;unfold iV;repeat' split
 all_goals first|(simp only;omega)|(simp only;split<;>omega)
theorem vJ(w:κ)(l:aD)(p:Nat)(h:p<l.length)(ty:aY):(Instr.next (.pointer w.heap.size) true ty).run prog (w.iter (bs l) p)=.ok (.tuple #[.bool true,p,.int .i32 (dec (l.drop p)).1]) (w.iter (bs l) (p+(dec (l.drop p)).2)):=by rw[run_next_any w (bs l) p ty (by rw[mJ];exact h),Ti]
theorem Al(w:κ)(l:aD)(p:Nat)(h:¬p<l.length)(ty:aY):(Instr.next (.pointer w.heap.size) true ty).run prog (w.iter (bs l) p)=.ok (.tuple #[.bool false]) (w.iter (bs l) p) :=
 run_next_end w (bs l) p ty (by rw[mJ];exact h)
theorem Ext.iter(s:ByteArray)(p:Nat):Ext w (w.iter s p):=Ext.alloc w _
def Rz(x:Int):Int:=if x<128 then 1 else if x<2048 then 2 else if x<65536 then 3 else 4
theorem Xg(w:κ)(x:Int):τ prog 231 #[.int .i32 x] w fun e w'=>e=.returned (.int .i64 (Rz x))/\w=w':=by
 unfold Rz;by_cases h1:x<128
 .rw[if_pos h1];go_enter func231,ntmps231;go_wp2;go_ret;exact⟨rfl,rfl⟩
 by_cases h2:x<2048
 .rw[if_neg h1,if_pos h2];go_enter func231,ntmps231;go_wp2;go_ret;exact⟨rfl,rfl⟩
 by_cases h3:x<65536
 .rw[if_neg h1,if_neg h2,if_pos h3];go_enter func231,ntmps231;go_wp2;go_ret;exact⟨rfl,rfl⟩
 .rw[if_neg h1,if_neg h2,if_neg h3];go_enter func231,ntmps231;go_wp2;go_ret;exact⟨rfl,rfl⟩
theorem Xh(w:κ)(r:Nat):τ prog 231 #[.int .i32 (r:Nat)] w fun e w'=>e=.returned ((yj r:Nat):ξ)/\w=w':=by
 have h:=Xg w r;have e:Rz (r:Nat)=(yj r:Nat):=by unfold Rz yj;(repeat' split)<;>omega
 rwa[e]at h
def ad5(w:κ)(l:aD)(n:ξ)(w':κ):Prop :=
 ∃p:Nat,w'=w.iter (bs l) p/\n=.int .i64 p/\p<=l.length/\G7 l=(rs (l.drop p)).all rN
def ad6(w:κ)(l:aD)(n:ξ)(w':κ):Prop :=
 ∃p m:Nat,w'=w.iter (bs l) p/\n=.int .i64 m/\m≠p/\m<=l.length+4/\p<=l.length/\G7 l=false
def ad7(w:κ)(l:aD)(n:ξ)(w':κ):Prop:=ad5 w l n w'\/ad6 w l n w'
theorem Xi(l:aD):rN (dec l)=decide (yj (dec l).1=(dec l).2):=by rw[S2,decide_eq_true_iff,WW];simp[rN]
theorem Tn(w:κ)(l:aD)(hl:l.length<=1099511627776):τ prog 218 #[.string (bs l)] w fun e w'=>e=.returned (.bool (G7 l))/\Ext w w':=by
 go_enter func218,ntmps218;go_wp2_with fail;go_loopw [3] (fun n w'=>ad7 w l n w') (fun _ w'=>l.length-w'.iterPos w.heap.size)
 case atStart=>exact .inl ⟨0,rfl,rfl,aM _,rfl⟩
 case round =>
  rcases hrel with ⟨p,rfl,rfl,hp,hg⟩|⟨p,m,rfl,rfl,hne,hm,hp,hg⟩
  .by_cases aX:p<l.length
   .have Gg:=vJ w l p aX
    have hd:=wQ aX;have ahr:=Ep (l.drop p);have hw:=Xi (l.drop p);rw[WX aX,Tk,hw]at hg;have h4:yj (dec (l.drop p)).1<=4:=by unfold yj;(repeat' split)<;>omega
    clear hw;have Hg:=θ hg;clear hg;go_wp2_with fail;refine(Xh _ _).mono ?_;rintro e w1 ⟨rfl,rfl⟩;go_wp2;go_roundw
    case rel =>
     have hg:=Hg.o;by_cases hb:yj (dec (l.drop p)).1=(dec (l.drop p)).2
     .refine .inl ⟨_,rfl,by rw[←hb];go_num,hd.2,?_⟩;rw[hg];simp[hb]
     .refine .inr ⟨_,p+yj (dec (l.drop p)).1,rfl,cR,η,η,hd.2,?_⟩;rw[hg];simp[hb]
    case measure=>simp;omega
   .obtain rfl:p=l.length:=by omega
    have Gg:=Al w l l.length aX;go_wp2;go_ret;rw[OM (aq _)]at hg;exact⟨by rw[hg];rfl,Ext.iter _ _⟩
  .by_cases aX:p<l.length
   .have Gg:=vJ w l p aX;have hb:((p:Int)==(m:Int))=false:=kO;go_wp2;go_ret;exact⟨by rw[hg];rfl,Ext.iter _ _⟩
   .obtain rfl:p=l.length:=by omega
    have Gg:=Al w l l.length aX;have hb:((m:Int)==(l.length:Int))=false:=kO;go_wp2;go_ret;exact⟨by rw[hg];rfl,Ext.iter _ _⟩
def ad8(w:κ)(l:aD)(n:ξ)(w':κ):Prop :=
 ∃p k:Nat,w'=w.iter (bs l) p/\n=.int .i64 k/\k<=p/\p<=l.length/\(rs l).length=k+(rs (l.drop p)).length/\(rs l).all kA=(rs (l.drop p)).all kA
theorem To(w:κ)(l:aD)(hl:l.length<=1099511627776):τ prog 197 #[.string (bs l)] w fun e w'=>e=.returned (.bool (gY l))/\Ext w w':=by
 go_enter func197,ntmps197;go_wp2_with fail;go_loopw [3] (fun n w'=>ad8 w l n w') (fun _ w'=>l.length-w'.iterPos w.heap.size)
 case atStart=>exact⟨0,0,rfl,rfl,aM _,aM _,bT,bT⟩
 case round =>
  obtain⟨p,k,rfl,rfl,hk,hp,hn,ha⟩:=hrel;by_cases aX:p<l.length
  .have Gg:=vJ w l p aX
   have hd:=wQ aX;have ahr:=Ep (l.drop p);rw[WX aX]at ha hn;simp only[Tk,lf]at ha hn;have Ha:=θ ha;clear ha;generalize dec (l.drop p)=d at*;by_cases h1:d.1<32
   .go_wp2_with fail
    go_ret;refine⟨?_,Ext.iter _ _⟩;have:kA d=false:=by simp[kA];omega
    simp[gY,Ha.o,this]
   .by_cases h2:d.1=127
    .go_wp2_with fail
     go_ret;refine⟨?_,Ext.iter _ _⟩;have:kA d=false:=by simp[kA,h2]
     simp[gY,Ha.o,this]
    .have hb:((d.1:Int)==127)=false:=by rw[beq_eq_false_iff_ne];omega
     go_wp2;go_roundw
     case rel =>
      refine⟨_,k+1,rfl,cR,η,hd.2,η,?_⟩;rw[Ha.o];have:kA d=true:=by simp[kA,h2];omega
      rw[this];rfl
     case measure=>simp;omega
  .obtain rfl:p=l.length:=by omega
   have Gg:=Al w l l.length aX;rw[OM (aq _)]at ha hn;simp only[BF,Nat.add_zero]at hn;have Ha:=θ ha;clear ha;by_cases h1:k<1
   .go_wp2;go_ret;exact⟨by simp[gY];omega,Ext.iter _ _⟩
   .by_cases h2:20<k
    .go_wp2;go_ret;exact⟨by simp[gY];omega,Ext.iter _ _⟩
    .go_wp2_with fail;refine(Tn _ l hl).mono ?_;rintro e w1 ⟨rfl,e1⟩;go_wp2;go_ret;exact⟨by simp[gY,Ha.o];omega,(Ext.iter _ _).trans e1⟩
theorem Tp(w:κ)(c:Int)(h0:-9223372036854775808<=c)(h1:c<=9223372036854775807):τ prog 201 #[c] w fun e w'=>e=.returned (.int .i64 (iR c))/\w=w':=by
 have hc:c=0\/c=1\/c=2\/c=3\/c=4\/c=5\/c=6\/c=7\/c=8\/c=9\/c=10\/c=11\/c=12\/c=13\/c=14\/c=15\/(c<0\/15<c):=η;rcases hc with rfl|rfl|rfl|rfl|rfl|rfl|rfl|rfl|rfl|rfl|rfl|rfl|rfl|rfl|rfl|rfl|hc
 iterate 16
  .go_enter func201,ntmps201;go_wp2;go_ret;exact⟨rfl,rfl⟩
 have ht:iR c = -1:=by unfold iR;rw[if_neg η,if_neg η,if_neg η,if_neg η]
 have b:∀k:Int,0<=k->k<=15->(c==k)=false:=fun k h h'=>kO;have b0:=b 0 Γ Γ;have b1:=b 1 Γ Γ;have b2:=b 2 Γ Γ;have b3:=b 3 Γ Γ;have b4:=b 4 Γ Γ;have b5:=b 5 Γ Γ;have b6:=b 6 Γ Γ;have b7:=b 7 Γ Γ;have b8:=b 8 Γ Γ;have b9:=b 9 Γ Γ;have b10:=b 10 Γ Γ;have b11:=b 11 Γ Γ;have b12:=b 12 Γ Γ;have b13:=b 13 Γ Γ;have b14:=b 14 Γ Γ;have b15:=b 15 Γ Γ;have Ht:=θ ht;clear ht b hc;go_enter func201,ntmps201;go_wp2;go_ret;exact⟨by rw[Ht.o];rfl,rfl⟩
def ics(l:List Int):List ξ:=l.map (ξ.int .i64)
def abb(l:List Int)(i:ξ):Prop:=∃k:Nat,i=.int .i64 (k:Nat)/\k<=l.length/\l.all iz=(l.drop k).all iz
theorem Xj(w:κ)(A:aS)(n c:Nat)(l:List Int)(hr:Rd w 1 A n c (ics l))(hl:l.length<=3):τ prog 202 #[.slice A n c] w fun e w'=>e=.returned (.bool (l.all iz))/\w=w':=by
 have hn:n=l.length:=by have:=hr.1;simp[ics]at this;omega
 subst hn;go_enter func202,ntmps202;go_wp2_with fail;go_loop [7] (fun i=>abb l i) (fun i=>l.length-(intOf i).toNat)
 case atStart=>exact⟨0,rfl,aM _,rfl⟩
 case round =>
  obtain⟨k,rfl,hk,ha⟩:=hrel;by_cases aX:k<l.length
  .obtain⟨b,o,rfl,u,hu,hc⟩:=Rd.at_ hr aX
   have JH:u=.int .i64 l[k]:=by unfold ics at hu;rw[List.getElem?_map,bf aX]at hu;exact(Option.some.inj hu).symm
   subst JH;rw[List.drop_eq_getElem_cons aX,Tk]at ha;have Ha:=θ ha;clear ha hu;generalize l[k]=x at*;by_cases k1:x<0
   .go_wp2_with fail
    go_ret;have:iz x=false:=by simp[iz];omega
    exact⟨by rw[Ha.o,this];rfl,rfl⟩
   by_cases k2:32<=x
   .go_wp2_with fail
    go_ret;have:iz x=false:=by simp[iz];omega
    exact⟨by rw[Ha.o,this];rfl,rfl⟩
   .have Hx:Hq (iz x=true):=θ (by simp[iz];omega)
    go_wp2;go_round
    case rel=>exact⟨k+1,cR,aX,by rw[Ha.o,Hx.o];rfl⟩
    case measure=>exact dB
  .obtain rfl:k=l.length:=by omega
   have Ha:=θ ha;clear ha;go_wp2;go_ret;exact⟨by rw[Ha.o,Db];rfl,rfl⟩
def Df(x:Int)(n k:Nat):Option Int:=if iR x<=k then some 0 else if x=1/\k=1 then none else if x=9\/x=10/\k=1 then some (n:Int) else some 31
def zH(x:Int)(n k:Nat)(v:Int):Bool:=match Df x n k with|none=>true|some L=>decide (0<=v)&&decide (v<=L)
def HV(x a b c:Int)(n k:Nat):Bool:=if k=0 then zH x n 0 a&&(zH x n 1 b&&zH x n 2 c) else if k=1 then zH x n 1 b&&zH x n 2 c else if k=2 then zH x n 2 c else true
def afx(a b c:Int)(k:Nat):Int:=if k=0 then a else if k=1 then b else c
theorem ad9(a b c:Int)(n:Nat)(h0:0<=x)(h1:x<=15):lq (x,a,b,c) n=HV x a b c n 0:=by
 have hc:x=0\/x=1\/x=2\/x=3\/x=4\/x=5\/x=6\/x=7\/x=8\/x=9\/x=10\/x=11\/x=12\/x=13\/x=14\/x=15:=η;rcases hc with rfl|rfl|rfl|rfl|rfl|rfl|rfl|rfl|rfl|rfl|rfl|rfl|rfl|rfl|rfl|rfl
 all_goals
  rw[S2];simp[lq,HV,zH,Df,iR,iz,toI]
  try omega
theorem Tq{a b c:Int}(hk:k<3):HV x a b c n k=(zH x n k (afx a b c k)&&HV x a b c n (k+1)):=by have hc:k=0\/k=1\/k=2:=η;rcases hc with rfl|rfl|rfl<;>simp[HV,afx]
theorem Xk(x:Int)(n k:Nat):(iR x<=k/\Hq (Df x n k=some 0))\/(¬iR x<=k/\Hq (Df x n k=some (n:Int))/\(x==1)=false/\(x==9)=true)\/(¬iR x<=k/\Hq (Df x n k=some (n:Int))/\(x==1)=false/\(x==9)=false/\(x==10)=true/\((k:Int)==1)=true)\/(¬iR x<=k/\Hq (Df x n k=some 31)/\(x==1)=false/\(x==9)=false/\(x==10)=false)\/(¬iR x<=k/\Hq (Df x n k=some 31)/\(x==1)=true/\((k:Int)==1)=false/\(x==9)=false/\(x==10)=false)\/(¬iR x<=k/\Hq (Df x n k=some 31)/\(x==1)=false/\(x==9)=false/\(x==10)=true/\((k:Int)==1)=false)\/(¬iR x<=k/\Hq (Df x n k=none)/\(x==1)=true/\((k:Int)==1)=true):=by
 have hb:∀y z:Int,(y==z)=decide (y=z):=fun y z=>by rw[S2];simp
 simp only[hb,decide_eq_true_eq,decide_eq_false_iff_not];unfold Hq Df;by_cases ht:iR x<=k
 .exact .inl ⟨ht,by rw[if_pos ht]⟩
 .rw[if_neg ht]
  by_cases e1:x=1
  .by_cases ek:k=1
   .exact .inr (.inr (.inr (.inr (.inr (.inr ⟨ht,by rw[if_pos ⟨e1,ek⟩],e1,η⟩)))))
   .exact .inr (.inr (.inr (.inr (.inl ⟨ht,by rw[if_neg η,if_neg η],e1,η,η,η⟩))))
  .by_cases e9:x=9
   .exact .inr (.inl ⟨ht,by rw[if_neg η,if_pos (.inl e9)],e1,e9⟩)
   .by_cases e10:x=10
    .by_cases ek:k=1
     .exact .inr (.inr (.inl ⟨ht,by rw[if_neg η,if_pos (.inr ⟨e10,ek⟩)],e1,e9,e10,η⟩))
     .exact .inr (.inr (.inr (.inr (.inr (.inl ⟨ht,by rw[if_neg η,if_neg η],e1,e9,e10,η⟩)))))
    .exact .inr (.inr (.inr (.inl ⟨ht,by rw[if_neg η,if_neg η],e1,e9,e10⟩)))
theorem nI(w:κ)(c:Int)(h0:0<=c)(h1:c<=15){t:Int}(ht:iR c=t):τ prog 137 #[c] w fun e w'=>e=.returned (t:ξ)/\Ext w w':=by
 subst ht;have hc:c=0\/c=1\/c=2\/c=3\/c=4\/c=5\/c=6\/c=7\/c=8\/c=9\/c=10\/c=11\/c=12\/c=13\/c=14\/c=15:=η;rcases hc with rfl|rfl|rfl|rfl|rfl|rfl|rfl|rfl|rfl|rfl|rfl|rfl|rfl|rfl|rfl|rfl
 all_goals
  go_enter func137,ntmps137;go_wp2;go_ret;exact⟨rfl,Ext.alloc _ _⟩
def rmW(w:κ)(x a b c:Int):κ:=(w.alloc (.cells #[x,a,b,c] 127)).alloc (.cells #[a,b,c] 3)
section
variable(w:κ)(x a b c:Int)
theorem Xl:(rmW w x a b c).cell? w.heap.size=some (x:ξ):=by unfold rmW;go_simp
theorem wU(k:Nat)(hk:k<3):(rmW w x a b c).cell? (w.heap.size+1,k)=some (.int .i64 (afx a b c k)):=by
 have hc:k=0\/k=1\/k=2:=η;unfold rmW;rcases hc with rfl|rfl|rfl
 all_goals
  go_simp;rfl
theorem kJ:Ext w (rmW w x a b c):=(Ext.alloc _ _).trans (Ext.alloc _ _)
end
def ahs(x a b c:Int)(n:Nat)(w:κ)(i:ξ)(w':κ):Prop:=∃k:Nat,i=.int .i64 (k:Nat)/\k<=3/\lq (x,a,b,c) n=HV x a b c n k/\Ext (rmW w x a b c) w'
theorem Xn(w:κ)(x a b c:Int)(n:Nat):τ prog 93 #[kB (x,a,b,c),n] w fun e w'=>e=.returned (.bool (lq (x,a,b,c) n))/\Ext w w':=by
 unfold kB;by_cases hx:x<0\/15<x
 .have Hm:Hq (lq (x,a,b,c) n=false):=θ (by
   unfold lq;dsimp only
   rw[if_neg η,if_neg η,if_neg η,if_neg η,if_neg η,if_neg η,if_neg η])
  rcases hx with hx|hx
  all_goals
   go_enter func93,ntmps93;go_wp2;go_ret;exact⟨by rw[Hm.o];rfl,(fC.refl _ _).alloc (aq _) _⟩
 have h0:0<=x:=η;have h1:x<=15:=η;have Heq:=θ (ad9 a b c n h0 h1);clear hx;go_enter func93,ntmps93;go_wp2_with fail;go_loopw [6] (fun i w'=>ahs x a b c n w i w') (fun i _=>3-(intOf i).toNat)
 case atStart=>exact⟨0,rfl,η,Heq.o,Ext.refl _⟩
 case round =>
  obtain⟨k,rfl,hk,he,lV⟩:=hrel;have He:=θ he;clear he;by_cases aX:k<3
  .have HY:=lV.cell (Xl w x a b c)
   obtain⟨t,ht⟩:∃t,iR x=t:=⟨_,rfl⟩;have hw:=Xk x n k;have hs:=Tq (x:=x) (a:=a) (b:=b) (c:=c) (n:=n) aX;obtain⟨v,hv⟩:∃v,afx a b c k=v:=⟨_,rfl⟩;have aT:∀L,Df x n k=some L->zH x n k v=(decide (0<=v)&&decide (v<=L)):=fun L h=>by unfold zH;rw[h]
   have aiM:Df x n k=none->zH x n k v=true:=fun h=>by unfold zH;rw[h]
   rw[hv]at hs;rw[ht]at hw;have Ht:=θ ht;have Hs:=θ hs;have Hv:=θ hv;have yl:=θ aT;have akH:=θ aiM;clear ht hs hv aT aiM;rcases hw with ⟨g,Hl⟩|⟨g,Hl,g1,g9⟩|⟨g,Hl,g1,g9,GF,gk⟩|⟨g,Hl,g1,g9,GF⟩|⟨g,Hl,g1,gk,g9,GF⟩|⟨g,Hl,g1,g9,GF,gk⟩|⟨g,Hl,g1,gk⟩
   rotate_right
   .go_wp2_with fail
    refine(nI _ x h0 h1 Ht.o).mono ?_;rintro e w1 ⟨rfl,f1⟩;have Ez:=f1.cell HY;go_wp2;go_roundw
    case rel=>exact⟨k+1,cR,aX,by rw[He.o,Hs.o,akH.o Hl.o,Bool.true_and],lV.trans f1⟩
    case measure=>exact dB
   .have qK:=θ (yl.o _ Hl.o)
    go_wp2_with fail;refine(nI _ x h0 h1 Ht.o).mono ?_;rintro e w1 ⟨rfl,f1⟩;have vK:=f1.cell (lV.cell (wU w x a b c k aX));rw[Hv.o]at vK;by_cases k1:v<0
    .have Hb:Hq (zH x n k v=false):=θ (by rw[qK.o,Dc];exact .inl (zG η));go_wp2;go_ret;exact⟨C3,(kJ w x a b c).trans (lV.trans f1)⟩
    by_cases k2:0<v
    .have Hb:Hq (zH x n k v=false):=θ (by rw[qK.o,Dc];exact .inr (zG η));go_wp2;go_ret;exact⟨C3,(kJ w x a b c).trans (lV.trans f1)⟩
    .have Hb:Hq (zH x n k v=true):=θ (by rw[qK.o,rB];exact⟨zF η,zF η⟩)
     go_wp2;go_roundw
     case rel=>exact⟨k+1,cR,aX,S4,lV.trans f1⟩
     case measure=>exact dB
   .have qK:=θ (yl.o _ Hl.o)
    go_wp2_with fail;refine(nI _ x h0 h1 Ht.o).mono ?_;rintro e w1 ⟨rfl,f1⟩;have Ez:=f1.cell HY;have vK:=f1.cell (lV.cell (wU w x a b c k aX));rw[Hv.o]at vK;by_cases k1:v<0
    .have Hb:Hq (zH x n k v=false):=θ (by rw[qK.o,Dc];exact .inl (zG η));go_wp2;go_ret;exact⟨C3,(kJ w x a b c).trans (lV.trans f1)⟩
    by_cases k2:(n:Int)<v
    .have Hb:Hq (zH x n k v=false):=θ (by rw[qK.o,Dc];exact .inr (zG η));go_wp2;go_ret;exact⟨C3,(kJ w x a b c).trans (lV.trans f1)⟩
    .have Hb:Hq (zH x n k v=true):=θ (by rw[qK.o,rB];exact⟨zF η,zF η⟩)
     go_wp2;go_roundw
     case rel=>exact⟨k+1,cR,aX,S4,lV.trans f1⟩
     case measure=>exact dB
   .have qK:=θ (yl.o _ Hl.o)
    go_wp2_with fail;refine(nI _ x h0 h1 Ht.o).mono ?_;rintro e w1 ⟨rfl,f1⟩;have Ez:=f1.cell HY;have vK:=f1.cell (lV.cell (wU w x a b c k aX));rw[Hv.o]at vK;by_cases k1:v<0
    .have Hb:Hq (zH x n k v=false):=θ (by rw[qK.o,Dc];exact .inl (zG η));go_wp2;go_ret;exact⟨C3,(kJ w x a b c).trans (lV.trans f1)⟩
    by_cases k2:(n:Int)<v
    .have Hb:Hq (zH x n k v=false):=θ (by rw[qK.o,Dc];exact .inr (zG η));go_wp2;go_ret;exact⟨C3,(kJ w x a b c).trans (lV.trans f1)⟩
    .have Hb:Hq (zH x n k v=true):=θ (by rw[qK.o,rB];exact⟨zF η,zF η⟩)
     go_wp2;go_roundw
     case rel=>exact⟨k+1,cR,aX,S4,lV.trans f1⟩
     case measure=>exact dB
   .have qK:=θ (yl.o _ Hl.o)
    go_wp2_with fail;refine(nI _ x h0 h1 Ht.o).mono ?_;rintro e w1 ⟨rfl,f1⟩;have Ez:=f1.cell HY;have vK:=f1.cell (lV.cell (wU w x a b c k aX));rw[Hv.o]at vK;by_cases k1:v<0
    .have Hb:Hq (zH x n k v=false):=θ (by rw[qK.o,Dc];exact .inl (zG η));go_wp2;go_ret;exact⟨C3,(kJ w x a b c).trans (lV.trans f1)⟩
    by_cases k2:31<v
    .have Hb:Hq (zH x n k v=false):=θ (by rw[qK.o,Dc];exact .inr (zG η));go_wp2;go_ret;exact⟨C3,(kJ w x a b c).trans (lV.trans f1)⟩
    .have Hb:Hq (zH x n k v=true):=θ (by rw[qK.o,rB];exact⟨zF η,zF η⟩)
     go_wp2;go_roundw
     case rel=>exact⟨k+1,cR,aX,S4,lV.trans f1⟩
     case measure=>exact dB
   .have qK:=θ (yl.o _ Hl.o)
    go_wp2_with fail;refine(nI _ x h0 h1 Ht.o).mono ?_;rintro e w1 ⟨rfl,f1⟩;have Ez:=f1.cell HY;have vK:=f1.cell (lV.cell (wU w x a b c k aX));rw[Hv.o]at vK;by_cases k1:v<0
    .have Hb:Hq (zH x n k v=false):=θ (by rw[qK.o,Dc];exact .inl (zG η));go_wp2;go_ret;exact⟨C3,(kJ w x a b c).trans (lV.trans f1)⟩
    by_cases k2:31<v
    .have Hb:Hq (zH x n k v=false):=θ (by rw[qK.o,Dc];exact .inr (zG η));go_wp2;go_ret;exact⟨C3,(kJ w x a b c).trans (lV.trans f1)⟩
    .have Hb:Hq (zH x n k v=true):=θ (by rw[qK.o,rB];exact⟨zF η,zF η⟩)
     go_wp2;go_roundw
     case rel=>exact⟨k+1,cR,aX,S4,lV.trans f1⟩
     case measure=>exact dB
   .have qK:=θ (yl.o _ Hl.o)
    go_wp2_with fail;refine(nI _ x h0 h1 Ht.o).mono ?_;rintro e w1 ⟨rfl,f1⟩;have Ez:=f1.cell HY;have vK:=f1.cell (lV.cell (wU w x a b c k aX));rw[Hv.o]at vK;by_cases k1:v<0
    .have Hb:Hq (zH x n k v=false):=θ (by rw[qK.o,Dc];exact .inl (zG η));go_wp2;go_ret;exact⟨C3,(kJ w x a b c).trans (lV.trans f1)⟩
    by_cases k2:31<v
    .have Hb:Hq (zH x n k v=false):=θ (by rw[qK.o,Dc];exact .inr (zG η));go_wp2;go_ret;exact⟨C3,(kJ w x a b c).trans (lV.trans f1)⟩
    .have Hb:Hq (zH x n k v=true):=θ (by rw[qK.o,rB];exact⟨zF η,zF η⟩)
     go_wp2;go_roundw
     case rel=>exact⟨k+1,cR,aX,S4,lV.trans f1⟩
     case measure=>exact dB
  .obtain rfl:k=3:=by omega
   go_wp2;go_ret;exact⟨by rw[He.o];rfl,(kJ w x a b c).trans lV⟩

theorem Xo(w:κ)(a:Int)(ha:jQ a):τ prog 152 #[.int .i32 a,(32:Int)] w fun e w'=>e=.returned ((ue a:Nat):ξ)/\w'=w:=by
 unfold jQ at ha;obtain⟨m,hm,h1,h2⟩:∃m:Int,a.tmod 32=m/\-31<=m/\m<=31:=⟨_,rfl,by have:=agm a (show(0:Int)<32 by decide);omega,by have:=agn a (show(0:Int)<32 by decide);omega⟩;have h3:a.tmod 32=a % 32\/a.tmod 32=a % 32-32:=by
  rcases ago 0 a with h|h
  .left;exact agp h
  .have:=agq a 32;omega
 by_cases hn:m<0
 .have e:m+32=(ue a:Nat):=by unfold ue;omega
  go_enter func152,ntmps152;go_wp2;go_ret;exact⟨bT,rfl⟩
 .have e:m=(ue a:Nat):=by unfold ue;omega
  go_enter func152,ntmps152;go_wp2;go_ret;exact⟨rfl,rfl⟩
theorem aea(w:κ)(k a b:Int):τ prog 179 #[k,.int .i32 a,.int .i32 b] w fun e w'=>e=.returned (.int .i32 (Bv k a b))/\w'=w:=by
 by_cases h3:k=3
 .subst h3;go_enter func179,ntmps179;go_wp2_with fail;refine(ad0 _ _ _).mono ?_;rintro e w1 ⟨rfl,rfl⟩;go_wp2;go_ret;exact⟨JA,rfl⟩
 have b3:(k==3)=false:=by rw[beq_eq_false_iff_ne];exact h3
 by_cases h4:k=4
 .subst h4;go_enter func179,ntmps179;go_wp2_with fail;refine(ad1 _ _ _).mono ?_;rintro e w1 ⟨rfl,rfl⟩;go_wp2;go_ret;exact⟨JA,rfl⟩
 have b4:(k==4)=false:=by rw[beq_eq_false_iff_ne];exact h4
 by_cases h5:k=5
 .subst h5;go_enter func179,ntmps179;go_wp2_with fail;refine(ad2 _ _ _).mono ?_;rintro e w1 ⟨rfl,rfl⟩;go_wp2;go_ret;exact⟨JA,rfl⟩
 have b5:(k==5)=false:=by rw[beq_eq_false_iff_ne];exact h5
 by_cases h6:k=6
 .subst h6;go_enter func179,ntmps179;go_wp2_with fail;refine(ad3 _ _ _).mono ?_;rintro e w1 ⟨rfl,rfl⟩;go_wp2;go_ret;exact⟨JA,rfl⟩
 have b6:(k==6)=false:=by rw[beq_eq_false_iff_ne];exact h6
 by_cases h7:k=7
 .subst h7;go_enter func179,ntmps179;go_wp2_with fail;refine(Rv _ _).mono ?_;rintro e w1 ⟨rfl,rfl⟩;go_wp2;go_ret;exact⟨JA,rfl⟩
 have b7:(k==7)=false:=by rw[beq_eq_false_iff_ne];exact h7
 go_enter func179,ntmps179;go_wp2_with fail;refine(Rv _ _).mono ?_;rintro e w1 ⟨rfl,rfl⟩;go_wp2;go_ret;exact⟨by simp[Bv,h3,h4,h5,h6,h7];congr 1,rfl⟩
theorem vL(w:κ)(a:Int):τ prog 60 #[a] w fun e w'=>e=.returned (.int .i32 (Ew a))/\w'=w:=by
 obtain⟨m,hm,h1,h2⟩:∃m:Int,a.tmod 4294967296=m/\-4294967295<=m/\m<=4294967295:=⟨_,rfl,by have:=agm a (show(0:Int)<4294967296 by decide);omega,by have:=agn a (show(0:Int)<4294967296 by decide);omega⟩;have h3:a.tmod 4294967296=a % 4294967296\/a.tmod 4294967296=a % 4294967296-4294967296:=by
  rcases ago 0 a with h|h
  .left;exact agp h
  .have:=agq a 4294967296;omega
 obtain⟨r,hr⟩:∃r,Ew a=r:=⟨_,rfl⟩;have uH:=hr;unfold Ew at uH;rw[hr];have hw:∀x:Int,-2147483648<=x->x<=2147483647->oU.i32.wrap x=x:=fun x _ _=>by rw[oU.wrap_i32];omega
 by_cases hn:m<0
 .by_cases hb:2147483648<=m+4294967296
  .have e:m+4294967296-4294967296=r:=by omega
   go_enter func60,ntmps60;go_wp2;go_ret;exact⟨rfl,rfl⟩
  .have e:m+4294967296=r:=by omega
   go_enter func60,ntmps60;go_wp2;go_ret;exact⟨rfl,rfl⟩
 .by_cases hb:2147483648<=m
  .have e:m-4294967296=r:=by omega
   go_enter func60,ntmps60;go_wp2;go_ret;exact⟨rfl,rfl⟩
  .have e:m=r:=by omega
   go_enter func60,ntmps60;go_wp2;go_ret;exact⟨rfl,rfl⟩
theorem abc{a b:Int}(ha:jQ a):-2147483648<=a.tdiv b/\a.tdiv b<=2147483648:=by unfold jQ at ha;have h:=Int.natAbs_tdiv_le_natAbs a b;omega
theorem abd(w:κ)(a b:Int)(ha:jQ a)(hb:jQ b):τ prog 95 #[.int .i32 a,.int .i32 b] w fun e w'=>e=.returned (.int .i32 (JJ a b))/\w'=w:=by
 have hbd:=abc (b:=b) ha;unfold jQ at ha hb;by_cases h0:b=0
 .subst h0;go_enter func95,ntmps95;go_wp2;go_ret;exact⟨by simp[JJ],rfl⟩
 have b0:(b==0)=false:=by rw[beq_eq_false_iff_ne];exact h0
 have hd:JJ a b=Ew (a.tdiv b):=if_neg h0;rw[hd];clear hd;go_enter func95,ntmps95;go_wp2_with fail;refine(vL _ _).mono ?_;rintro e w1 ⟨rfl,rfl⟩;go_wp2;go_ret;exact⟨rfl,rfl⟩
theorem RA(w:κ)(a:Int)(ha:jQ a):τ prog 59 #[.int .i32 a,(32:Int)] w fun e w'=>e=.returned ((ue a:Nat):ξ)/\w'=w:=by
 unfold jQ at ha;obtain⟨m,hm,h1,h2⟩:∃m:Int,a.tmod 32=m/\-31<=m/\m<=31:=⟨_,rfl,by have:=agm a (show(0:Int)<32 by decide);omega,by have:=agn a (show(0:Int)<32 by decide);omega⟩;have h3:a.tmod 32=a % 32\/a.tmod 32=a % 32-32:=by
  rcases ago 0 a with h|h
  .left;exact agp h
  .have:=agq a 32;omega
 by_cases hn:m<0
 .have e:m+32=(ue a:Nat):=by unfold ue;omega
  go_enter func59,ntmps59;go_wp2;go_ret;exact⟨bT,rfl⟩
 .have e:m=(ue a:Nat):=by unfold ue;omega
  go_enter func59,ntmps59;go_wp2;go_ret;exact⟨rfl,rfl⟩
theorem Tr(w:κ)(k a b:Int)(ha:jQ a)(hb:jQ b):τ prog 61 #[k,.int .i32 a,.int .i32 b] w fun e w'=>e=.returned (.int .i32 (Bv k a b))/\w'=w:=by
 have hdiv:=fun W=>abd W a b ha hb;have hmul:-4611686018427387904<=a*b/\a*b<=4611686018427387904:=by
  have h:(a*b).natAbs<=2147483648*2147483648:=by rw[Int.natAbs_mul];exact Nat.mul_le_mul (by unfold jQ at ha;omega) (by unfold jQ at hb;omega)
  omega
 unfold jQ at ha hb;by_cases h3:k=3
 .subst h3;go_enter func61,ntmps61;go_wp2_with fail;refine(vL _ _).mono ?_;rintro e w1 ⟨rfl,rfl⟩;go_wp2;go_ret;exact⟨JA,rfl⟩
 have b3:(k==3)=false:=by rw[beq_eq_false_iff_ne];exact h3
 by_cases h4:k=4
 .subst h4;go_enter func61,ntmps61;go_wp2_with fail;refine(vL _ _).mono ?_;rintro e w1 ⟨rfl,rfl⟩;go_wp2;go_ret;exact⟨JA,rfl⟩
 have b4:(k==4)=false:=by rw[beq_eq_false_iff_ne];exact h4
 by_cases h5:k=5
 .subst h5;go_enter func61,ntmps61;go_wp2_with fail;refine(vL _ _).mono ?_;rintro e w1 ⟨rfl,rfl⟩;go_wp2;go_ret;exact⟨JA,rfl⟩
 have b5:(k==5)=false:=by rw[beq_eq_false_iff_ne];exact h5
 by_cases h6:k=6
 .subst h6;go_enter func61,ntmps61;go_wp2_with fail;refine(hdiv _).mono ?_;rintro e w1 ⟨rfl,rfl⟩;go_wp2;go_ret;exact⟨JA,rfl⟩
 have b6:(k==6)=false:=by rw[beq_eq_false_iff_ne];exact h6
 by_cases h7:k=7
 .subst h7
  by_cases vf:a<b
  .go_enter func61,ntmps61;go_wp2;go_ret;exact⟨by simp[Bv,Ah,vf],rfl⟩
  .have aiN:=dh (a<b) vf;go_enter func61,ntmps61;go_wp2;go_ret;exact⟨by simp[Bv,Ah,aiN],rfl⟩
 have b7:(k==7)=false:=by rw[beq_eq_false_iff_ne];exact h7
 by_cases vf:a=b
 .subst vf;go_enter func61,ntmps61;go_wp2;go_ret;exact⟨by simp[Bv,Ah,h3,h4,h5,h6,h7],rfl⟩
 .have aiN:(a==b)=false:=by rw[beq_eq_false_iff_ne];exact vf
  go_enter func61,ntmps61;go_wp2;go_ret;exact⟨by simp[Bv,Ah,h3,h4,h5,h6,h7,vf],rfl⟩

theorem Xp{n:Int}(h:(Lit.int .i64 n).wf=true):-9223372036854775808<=n/\n<=9223372036854775807:=by simp[Lit.wf,oU.min,oU.max,oU.bits,oU.signed]at h;omega
section
variable {P:Program}{w w':κ}{b:Nat}{vs:List ξ}
theorem JO{fs:Array Field}{o:Nat}(hu:P.underlying ty=some (.struct fs))(hi:(P.info? ty).map (·.size)=some vs.length)(h:∀i v,vs[i]?=some v->w.cell? ⟨b,o+i,none⟩=some v):(loadVar ty ⟨b,o,none⟩).run P w=.ok (.agg vs.toArray) w:=by
 have hl:(loadCells ⟨b,o,none⟩ vs.length).run P w=.ok vs.toArray w :=
  run_loadCells_list (P:=P) w ⟨b,o,none⟩ _ (fun j v hv=>by rw[Addr.add_lit];exact h j v hv)
 cases hq:P.info? ty with
 |none=>simp[hq]at hi
 |some i =>
  have hs:i.size=vs.length:=S6;have OR:(isAgg ty).run P w=.ok true w:=by unfold isAgg;rw[Sem.run_bind,run_underlying hu w];simp
  simp[loadVar,Sem.run_bind,OR,sizeOf,typeInfo,hq,hs,hl]
theorem qg{o:Oper}(ty:aY)(x:Operand)(ho:o.op=.load ty x)(hx:a.eval x=.pointer (b,k)){fs:Array Field}(hu:P.underlying ty=some (.struct fs))(hi:(P.info? ty).map (·.size)=some vs.length)(h:∀i v,vs[i]?=some v->w.cell? ⟨b,k+i,none⟩=some v):(execOp a.eval o).run P w=.ok (.value (.agg vs.toArray)) w:=by unfold execOp;simp only[ho,hx,Instr.loadAt,Instr.sureAddr,Sem.run_bind,Sem.run_pure,Result.andThen_ok,JO hu hi h]
theorem bI{o:Oper}(rJ:o.guard=none)(ty:aY)(x:Operand)(ho:o.op=.load ty x)(hx:a.eval x=.pointer (b,k)){fs:Array Field}(hu:P.underlying ty=some (.struct fs))(hi:(P.info? ty).map (·.size)=some n)(hn:vs.length=n)(h:∀i v,vs[i]?=some v->w.cell? ⟨b,k+i,none⟩=some v)(hk:wpList P ops Q rest (a.put o.dst (.agg vs.toArray)) w):wpList P ops Q (o::rest) a w:=by refine wpList_plain rJ fun K hK=>?_;unfold Oper.wp;subst hn;rw[qg ty x ho hx hu hi h];exact hK _ _ hk
theorem Has.all{T:Tg}(h:Has w T t b vs):∀i v,vs[i]?=some v->w.cell? ⟨b,0+i,none⟩=some v:=fun i v hv=>by rw[Nat.zero_add];exact h.cell hv
theorem bE{o:Oper}(rJ:o.guard=none)(ty:aY)(x y:Operand)(ho:o.op=.store ty x y)(hx:a.eval x=.pointer b){us:List ξ}(hy:a.eval y=.agg us.toArray){T:Tg}(h:Has w T t b vs)(hl:us.length=n)(hv:vs.length=n)(hi:(P.info? ty).map (·.size)=some n)(h1:∀u∈us,u.oneCell'=true)(hk:∀W2,Has W2 T t b us->w.grownBy W2 (some b)->W2.heap.size=w.heap.size->wpList P ops Q rest (a.put o.dst undef) W2):wpList P ops Q (o::rest) a w:=by
 obtain⟨ht,e,hb⟩:=h;exact wpList_store_row rJ ty x y ho b us.toArray hx hy e vs.toArray hb (by simp[hi,hl]) (by simp[hl,hv]) (by rw[List.all_toArray];exact List.all_eq_true.2 h1)
  (hk _ ⟨ht,e,setRow_heap w b _ _ _ _ hb⟩ ⟨rfl,rfl,rfl,bT,fun k _ hk=>Go.setRow_other w b k _ (fun e=>hk (by rw[e]))⟩ bT)
theorem sQ{fn:Func}{p:Tmp}(h:fn.results = #[.cell p ty])(tmps:Array ξ)(hp:tmps.getD p undef=.pointer b){T:Tg}(hg:Has w T t b vs){fs:Array Field}(hu:P.underlying ty=some (.struct fs))(hi:(P.info? ty).map (·.size)=some vs.length):(results fn tmps).run P w=.ok (.agg vs.toArray) w:=by have JP:tmps[p]?.getD undef=.pointer b:=Td;simp[results,h,JP,asAddr,JO hu hi hg.all]
theorem uf{fn:Func}{p q:Tmp}(h:fn.results = #[.cell p ty,.tmp q])(tmps:Array ξ)(hp:tmps.getD p undef=.pointer b){T:Tg}(hg:Has w T t b vs){fs:Array Field}(hu:P.underlying ty=some (.struct fs))(hi:(P.info? ty).map (·.size)=some vs.length):(results fn tmps).run P w=.ok (.tuple #[.agg vs.toArray,tmps.getD q undef]) w:=by have JP:tmps[p]?.getD undef=.pointer b:=Td;simp[results,h,JP,asAddr,JO hu hi hg.all]
end
theorem Lv{o:aD}(h:l <+: o):l.length<=o.length:=h.length_le
theorem Am{o:aD}(h:l <+: o)(hk:k<l.length):l.getD k 0=o.getD k 0:=by obtain⟨r,rfl⟩:=h;simp[cO,List.getElem?_append_left hk]
theorem EB(first:Nat)(b:aD):l <+: j8 l first b:=by
 unfold j8;split
 .exact Ls _ _
 .exact xT _
theorem EC{o b:aD}(h:l <+: o)(hb:b=(o.drop first).take b.length)(ho:o.length<=1000):j8 l first b <+: o:=by
 unfold j8;split
 .rename_i hf
  obtain⟨r,rfl⟩:=h;refine List.prefix_append_right_inj _ |>.2 ?_
  rw[hb,List.drop_take,List.drop_drop,show first+(l.length-first)=l.length by omega,agk (aq _),Db,Tl];exact(aiJ _ _).trans (aiJ _ _)
 .exact h
theorem Tt{b:aD}(hf:first<=l.length)(h1:first+b.length<=1000):first+b.length<=(j8 l first b).length:=by unfold j8;rw[if_pos hf,eU,tN,Bq];omega
def qL(sm:bH->Nat->Nat):Prop:=∀a b f,(∀k,k<f->bp a k=bp b k)->sm a f=sm b f
section
variable (sm:bH->Nat->Nat) (n Ω χ:Nat)
structure BJ(W:Wd)(x:Nat×Nat):Prop where
 all:∀p,p<n->x.1<=(W.own p).length
 sum:0<x.1->x.2=sm (W.owns n) x.1
structure vM(W:Wd)(k:Pk):Prop where
 src:k.src<n
 dst:k.dst<n
 ne:k.src≠k.dst
 bye:k.iA=true->k.first=0/\k.ν=[]/\k.dP=0/\k.frame=0/\k.sum=0
 first:k.first<=(W.line k.dst k.src).length
 dz:k.ν.length<=32
 ν:k.ν=((W.own k.src).drop k.first).take k.ν.length
 dP:k.dP<=(W.line k.src k.dst).length
 least:k.iA=false->Ω<=k.dP
 word:BJ sm n W (k.frame,k.sum)
structure Good(B:Nat)(W:Wd):Prop where
 len:∀i,i<n->(W.ps i).ls.length=n
 xU:∀i p,i<n->p<n->W.line i p <+: W.own p
 least:∀i p,i<n->p<n->Ω<=(W.line i p).length
 dz:∀p,p<n->(W.own p).length<=1000
 has:∀i j,i<n->j<n->Ω<=(W.ps i).has j/\(W.ps i).has j<=(W.line j i).length
 word:∀i j,i<n->j<n->BJ sm n W ((W.ps i).words j)
 heard:∀i j,i<n->(W.ps i).heard j<=(W.ps i).now
 now:∀i,i<n->(W.ps i).now<=B
 bx:∀i,(W.ps i).bx=[]
 log:∀i,∀x∈W.log i,(x.1=1\/x.1=2)/\x.2<n
 au:∀k∈W.au,vM sm n Ω W k
 room:W.au.length<=300
 ahead:∀i,i<n->(W.own i).length<=(W.ps i).front+χ
end
section
variable {sm:bH->Nat->Nat}{n Ω χ B:Nat}{W W':Wd}
theorem ug(hp:p<n)(f:Nat->List UInt8):((dJ n).map f).getD p []=f p:=by simp[cO,hp]
theorem Ia{a:bH}(ha:a.length=n):a=(dJ n).map fun p=>a.getD p []:=by
 apply List.ext_getElem
 .simp[ha]
 .intro k h1 h2;simp[cO,h1]
theorem Ao{a b:bH}(ha:a.length=n)(hb:b.length=n)(h:∀p,p<n->(a.getD p []).getD k 0=(b.getD p []).getD k 0):bp a k=bp b k:=by rw[Ia ha,Ia hb];simp only[bp,List.map_map];apply List.map_congr_left;intro p hp;exact h p (List.mem_range.1 hp)
theorem dW(hl:(W.ps i).ls.length=n)(hp:p<n):(W.ps i).front<=(W.line i p).length:=by refine jt _ _ ?_;unfold Wd.line;rw[cO,bf η];exact List.getElem_mem _
theorem Aq(hl:(W.ps i).ls.length=n)(hn:0<n)(h:∀p,p<n->m<=(W.line i p).length):m<=(W.ps i).front:=by refine G8 (by intro e;rw[e]at hl;simp at hl;omega) fun l hm=>?_;obtain⟨k,hk,rfl⟩:=List.getElem_of_mem hm;have:=h k η;unfold Wd.line at this;rw[cO,bf hk]at this;exact this
theorem Good.yI(hs:qL sm)(h:Good sm n Ω χ B W)(hi:i<n)(hf:f<=(W.ps i).front):sm (W.ps i).ls f=sm (W.owns n) f:=by refine hs _ _ f fun k hk=>Ao (h.len i hi) (by simp[Wd.owns]) fun p hp=>?_;rw[Wd.owns,ug hp];exact Am (h.xU i p hi hp) (eM hk (aF hf (dW (h.len i hi) hp)))
theorem Good.ym(h:Good sm n Ω χ B W)(hi:i<n)(hk:k<(W.ps i).front):bp (W.ps i).ls k=bp (W.owns n) k:=by refine Ao (h.len i hi) (by simp[Wd.owns]) fun p hp=>?_;rw[Wd.owns,ug hp];exact Am (h.xU i p hi hp) (eM hk (dW (h.len i hi) hp))
theorem Good.holds(hs:qL sm)(h:Good sm n Ω χ B W)(hi:i<n)(hj:j<n)(h0:0<((W.ps i).words j).1)(hf:((W.ps i).words j).1<=(W.ps i).front):((W.ps i).words j).2=sm (W.ps i).ls ((W.ps i).words j).1:=by rw[h.yI hs hi hf];exact(h.word i j hi hj).sum h0
theorem BJ.grow(hs:qL sm){x:Nat×Nat}(h:BJ sm n W x)(hg:∀p,p<n->W.own p <+: W'.own p):BJ sm n W' x:=by refine⟨fun p hp=>aF (h.all p hp) (hg p hp).length_le,fun h0=>?_⟩;rw[h.sum h0];refine hs _ _ _ fun k hk=>Ao (n:=n) (by simp[Wd.owns]) (by simp[Wd.owns]) fun p hp=>?_;rw[Wd.owns,ug hp,Wd.owns,ug hp];exact Am (hg p hp) (eM hk (h.all p hp))
theorem vM.grow(hs:qL sm){k:Pk}(h:vM sm n Ω W k)(hg:∀p,p<n->W.own p <+: W'.own p)(hl:(W.line k.dst k.src).length<=(W'.line k.dst k.src).length)(vp:(W.line k.src k.dst).length<=(W'.line k.src k.dst).length):vM sm n Ω W' k:=by
 refine⟨h.src,h.dst,h.ne,h.bye,aF h.first hl,h.dz,?_,aF h.dP vp,h.least,h.word.grow hs hg⟩;obtain⟨r,hr⟩:=hg _ h.src;have hp:=h.ν;rw[←hr];by_cases he:k.ν.length=0
 .rw[he,List.take_zero];exact List.eq_nil_of_length_eq_zero he
 .have hlen:=congrArg List.length hp;rw[tN,Bq]at hlen;rw[agk η,List.take_append_of_le_length tU];exact hp
end
section
variable {sm:bH->Nat->Nat}{n Ω χ B B':Nat}{W W':Wd}
theorem Good.ο(hs:qL sm)(h:Good sm n Ω χ B W)(len:∀i,i<n->(W'.ps i).ls.length=n)(grow:∀i p,i<n->p<n->W.line i p <+: W'.line i p)(xU:∀i p,i<n->p<n->W'.line i p <+: W'.own p)(dz:∀p,p<n->(W'.own p).length<=1000)(has:∀i j,i<n->j<n->(W'.ps i).has j=(W.ps i).has j\/(Ω<=(W'.ps i).has j/\(W'.ps i).has j<=(W'.line j i).length))(word:∀i j,i<n->j<n->(W'.ps i).words j=(W.ps i).words j\/BJ sm n W' ((W'.ps i).words j))(heard:∀i j,i<n->(W'.ps i).heard j<=(W'.ps i).now)(now:∀i,i<n->(W'.ps i).now<=B')(bx:∀i,(W'.ps i).bx=[])(log:∀i,∀x∈W'.log i,x∈W.log i\/((x.1=1\/x.1=2)/\x.2<n))(au:∀k∈W'.au,k∈W.au\/vM sm n Ω W' k)(room:W'.au.length<=300)(ahead:∀i,i<n->(W'.own i).length<=(W'.ps i).front+χ):Good sm n Ω χ B' W':=by
 have ho:∀p,p<n->W.own p <+: W'.own p:=fun p hp=>grow p p hp hp;refine⟨len,xU,fun i p hi hp=>aF (h.least i p hi hp) (grow i p hi hp).length_le,dz,fun i j hi hj=>?_,fun i j hi hj=>?_,heard,now,bx,fun i x hx=>?_,fun k hk=>?_,room,ahead⟩
 .rcases has i j hi hj with e|e
  .rw[e];exact⟨(h.has i j hi hj).1,aF (h.has i j hi hj).2 (grow j i hj hi).length_le⟩
  .exact e
 .rcases word i j hi hj with e|e
  .rw[e];exact(h.word i j hi hj).grow hs ho
  .exact e
 .rcases log i x hx with e|e
  .exact h.log i x e
  .exact e
 .rcases au k hk with e|e
  .have hk:=h.au k e;exact hk.grow hs ho (grow _ _ hk.dst hk.src).length_le (grow _ _ hk.src hk.dst).length_le
  .exact e
theorem ED(hn:0<n)(h1:(W.ps i).ls.length=n)(h2:(W'.ps i).ls.length=n)(hg:∀p,p<n->W.line i p <+: W'.line i p):(W.ps i).front<=(W'.ps i).front :=
 Aq h2 hn fun p hp=>aF (dW h1 hp) (hg p hp).length_le
theorem Good.still(hs:qL sm)(h:Good sm n Ω χ B W)(hl:∀i,(W'.ps i).ls=(W.ps i).ls)(has:∀i j,i<n->j<n->(W'.ps i).has j=(W.ps i).has j)(word:∀i j,i<n->j<n->(W'.ps i).words j=(W.ps i).words j)(heard:∀i j,i<n->(W'.ps i).heard j<=(W'.ps i).now)(now:∀i,i<n->(W'.ps i).now<=B')(bx:∀i,(W'.ps i).bx=[])(log:∀i,∀x∈W'.log i,x∈W.log i\/((x.1=1\/x.1=2)/\x.2<n))(au:∀k∈W'.au,k∈W.au\/vM sm n Ω W' k)(room:W'.au.length<=300):Good sm n Ω χ B' W':=by
 have kQ:∀i p,W'.line i p=W.line i p:=fun i p=>by unfold Wd.line;rw[hl]
 have fS:∀p,W'.own p=W.own p:=fun p=>kQ p p;refine h.ο hs (fun i hi=>by rw[hl];exact h.len i hi) (fun i p _ _=>by rw[kQ];exact xT _) (fun i p hi hp=>by rw[kQ,fS];exact h.xU i p hi hp) (fun p hp=>by rw[fS];exact h.dz p hp)
  (fun i j hi hj=>.inl (has i j hi hj)) (fun i j hi hj=>.inl (word i j hi hj)) heard now bx log au room (fun i hi=>?_)
 have:(W'.ps i).front=(W.ps i).front:=by unfold Cr.front;rw[hl]
 rw[fS,this];exact h.ahead i hi
theorem Good.mono(hs:qL sm)(h:Good sm n Ω χ B W)(hb:B<=B'):Good sm n Ω χ B' W:={h with now:=fun i hi=>aF (h.now i hi) hb}
theorem sR(h:Good sm n Ω χ B W)(c:Cr)(hc:∀x∈c.bx,(x.1=1\/x.1=2)/\x.2<n)(au:List Pk):∀i,∀x∈(Wd.told ⟨aW W.ps p c,au,W.log⟩).log i,x∈W.log i\/((x.1=1\/x.1=2)/\x.2<n):=by
 intro i x hx;simp only[Wd.told,BG]at hx;rcases hx with hx|hx
 .exact .inl hx
 .by_cases e:i=p
  .subst e;rw[aH]at hx;exact .inr (hc x hx)
  .rw[az _ _ e,h.bx i]at hx;cases hx
theorem Good.cF(hs:qL sm)(h:Good sm n Ω χ B W)(hp:p<n)(b:UInt8):Good sm n Ω χ B (W.cF χ p b):=by
 by_cases he:(W.ps p).iB p χ=0
 .have hc:(W.ps p).ν p χ b={W.ps p with ls:=(W.ps p).ls.set p ((W.ps p).nr p++[b])}:=if_pos he
  have Gd:∀i,((W.cF χ p b).ps i).ls=if i=p then (W.ps p).ls.set p ((W.ps p).nr p++[b]) else (W.ps i).ls:=by
   intro i;by_cases e:i=p
   .subst e;simp[Wd.cF,Wd.told,aH,hc]
   .simp[Wd.cF,Wd.told,az _ _ e,e]
  have hr:∀i,((W.cF χ p b).ps i).has=(W.ps i).has/\((W.cF χ p b).ps i).words=(W.ps i).words/\((W.cF χ p b).ps i).heard=(W.ps i).heard/\((W.cF χ p b).ps i).now=(W.ps i).now:=by
   intro i;by_cases e:i=p
   .subst e;simp[Wd.cF,Wd.told,aH,hc]
   .simp[Wd.cF,Wd.told,az _ _ e]
  have kQ:∀i q,i<n->q<n->(W.cF χ p b).line i q=if i=p/\q=p then W.own p++[b] else W.line i q:=by
   intro i q hi hq;unfold Wd.line;rw[Gd];by_cases e:i=p
   .subst e
    rw[if_pos rfl,cO,Es];by_cases e2:q=i
    .subst e2;rw[if_pos rfl,if_pos (by rw[h.len q hi];exact hi),if_pos ⟨rfl,rfl⟩];rfl
    .rw[if_neg (fun h=>e2 h.symm),if_neg (fun h=>e2 h.2),cO]
   .rw[if_neg e,if_neg (fun h=>e h.1)]
  have fS:∀q,q<n->(W.cF χ p b).own q=if q=p then W.own p++[b] else W.own q:=by
   intro q hq;show(W.cF χ p b).line q q=_
   rw[kQ q q hq hq];by_cases e:q=p
   .subst e;simp
   .simp[e];rfl
  unfold Cr.iB at he;have hlen:∀i,i<n->((W.cF χ p b).ps i).ls.length=n:=fun i hi=>by
   rw[Gd];split
   .rw[Ae];exact h.len p hp
   .exact h.len i hi
  have Ib:∀i q,i<n->q<n->W.line i q <+: (W.cF χ p b).line i q:=fun i q hi hq=>by
   rw[kQ i q hi hq];split
   .rename_i e;obtain⟨rfl,rfl⟩:=e;exact Ls _ _
   .exact xT _
  have aht:(W.ps p).head p=(W.own p).length:=rfl;rw[aht]at he;split at he
  .cases he
  .split at he
   .cases he
   .split at he
    .cases he
    .refine h.ο hs hlen Ib (fun i q hi hq=>?_) (fun q hq=>?_) (fun i j _ _=>.inl (by rw[(hr i).1])) (fun i j _ _=>.inl (by rw[(hr i).2.1])) (fun i j hi=>by rw[(hr i).2.2.1,(hr i).2.2.2];exact h.heard i j hi)
      (fun i hi=>by rw[(hr i).2.2.2];exact h.now i hi) (fun i=>rfl) (sR h _ (by rw[hc];rw[h.bx p];simp) _) (fun k hk=>.inl hk) h.room (fun i hi=>?_)
     .rw[kQ i q hi hq,fS q hq]
      by_cases e:q=p
      .subst e
       rw[if_pos rfl];split
       .exact xT _
       .exact(h.xU i q hi hq).trans (Ls _ _)
      .rw[if_neg e,if_neg (fun h=>e h.2)];exact h.xU i q hi hq
     .rw[fS q hq];split
      .rw[eU];simp;omega
      .exact h.dz q hq
     .rw[fS i hi]
      have hm:=ED (W:=W) (W':=W.cF χ p b) (i:=i) η (h.len i hi) (hlen i hi) (fun q hq=>Ib i q hi hq);split
      .rename_i e;subst e;rw[eU];simp only[lf,BF];omega
      .have:=h.ahead i hi;omega
 .have hc:(W.ps p).ν p χ b=W.ps p:=if_neg he
  have qx:∀i,((W.cF χ p b).ps i)={W.ps i with bx:=[]}:=fun i=>by
   by_cases e:i=p
   .subst e;simp[Wd.cF,Wd.told,aH,hc]
   .simp[Wd.cF,Wd.told,az _ _ e]
  exact h.still hs (fun i=>by rw[qx]) (fun i j _ _=>by rw[qx]) (fun i j _ _=>by rw[qx]) (fun i j hi=>by rw[qx];exact h.heard i j hi) (fun i hi=>by rw[qx];exact h.now i hi) (fun i=>rfl)
   (sR h _ (by rw[hc,h.bx p];simp) _) (fun k hk=>.inl hk) h.room
theorem take_len(X:aD)(m:Nat):X.take m=X.take (X.take m).length:=by
 rw[tN];by_cases h:m<=X.length
 .rw[Nat.min_eq_left h]
 .rw[Nat.min_eq_right η,List.take_length,jL η]
theorem Good.input(hs:qL sm)(h:Good sm n Ω χ B W)(hp:p<n)(hq:q<n)(hne:p≠q):vM sm n Ω W ((W.ps p).input sm p q):=by
 refine⟨hp,hq,hne,fun h=>(Bool.false_ne_true h).elim,(h.has p q hp hq).2,?_,?_,aq _,fun _=>h.least p q hp hq,⟨fun r hr=>aF (dW (h.len p hp) hr) (h.xU p r hp hr).length_le,fun h1=>?_⟩⟩
 .simp[Cr.input];omega
 .exact take_len _ _
 .show(if (W.ps p).front=0 then 0 else sm (W.ps p).ls (W.ps p).front)=_
  have h2:0<(W.ps p).front:=h1;rw[if_neg η,h.yI hs hp (aq _)];rfl
theorem yK{c:Cr}{me:Nat}(hn:c.ls.length=n):i∈c.others me↔i<n/\i≠me:=by simp[Cr.others,hn]
section
variable(hs:qL sm)(h:Good sm n Ω χ B W)
include hs h
theorem Good.fF(hp:p<n):Good sm n Ω χ (B+1) (W.fF sm p):=by
 have Gd:∀c:Cr,(c.tick p).ls=c.ls/\(c.tick p).has=c.has/\(c.tick p).words=c.words/\(c.tick p).heard=c.heard/\c.now<=(c.tick p).now/\(c.tick p).now<=c.now+1:=fun c=>by
  unfold Cr.tick;split
  .exact⟨rfl,rfl,rfl,rfl,aq _,Nat.le_succ _⟩
  .split<;>exact⟨rfl,rfl,rfl,rfl,Nat.le_succ _,aq _⟩
 have qx:∀i,((W.fF sm p).ps i).ls=(W.ps i).ls/\((W.fF sm p).ps i).has=(W.ps i).has/\((W.fF sm p).ps i).words=(W.ps i).words/\((W.fF sm p).ps i).heard=(W.ps i).heard/\(W.ps i).now<=((W.fF sm p).ps i).now/\((W.fF sm p).ps i).now<=(W.ps i).now+1:=fun i=>by
  by_cases e:i=p
  .subst e;have:=Gd (W.ps i);simp only[Wd.fF,Wd.told,aH];exact this
  .simp[Wd.fF,Wd.told,az _ _ e]
 have kQ:∀i q,(W.fF sm p).line i q=W.line i q:=fun i q=>by unfold Wd.line;rw[(qx i).1]
 have fS:∀q,(W.fF sm p).own q=W.own q:=fun q=>kQ q q;refine h.still hs (fun i=>(qx i).1) (fun i j _ _=>by rw[(qx i).2.1]) (fun i j _ _=>by rw[(qx i).2.2.1]) (fun i j hi=>by rw[(qx i).2.2.2.1];exact aF (h.heard i j hi) (qx i).2.2.2.2.1)
  (fun i hi=>aF (qx i).2.2.2.2.2 (Nat.add_le_add_right (h.now i hi) 1)) (fun i=>rfl) (sR h _ (fun x hx=>?_) _) (fun k hk=>?_) ?_
 .unfold Cr.tick at hx
  split at hx
  .rw[h.bx p]at hx;cases hx
  .split at hx
   .rename_i i he;rw[h.bx p]at hx;simp only[Tl,sP]at hx;subst hx;have:=List.mem_of_find?_eq_some he;exact⟨.inr rfl,((yK (h.len p hp)).1 this).1⟩
   .rw[h.bx p]at hx;cases hx
 .have hk:k∈W.au++((W.ps p).kP sm p).take (300-W.au.length):=hk
  rcases BG.1 hk with hk|hk
  .exact .inl hk
  .refine .inr ?_
   have hk:=aiK hk;unfold Cr.kP at hk;split at hk
   .cases hk
   .split at hk
    .cases hk
    .obtain⟨q,hq,rfl⟩:=fK.1 hk;have hq:=(yK (h.len p hp)).1 hq;exact(h.input hs hp hq.1 hq.2.symm).grow hs (fun r _=>by rw[fS];exact xT _) (by rw[kQ];exact aq _) (by rw[kQ];exact aq _)
 .show(W.au++((W.ps p).kP sm p).take (300-W.au.length)).length<=300
  have:=h.room;rw[eU,tN];omega
theorem Good.dropped(i:Nat):Good sm n Ω χ B (W.dropped i) :=
 h.still hs (fun _=>rfl) (fun _ _ _ _=>rfl) (fun _ _ _ _=>rfl) h.heard h.now (fun _=>rfl) (fun j x hx=>by have hx:x∈W.log j++(W.ps j).bx:=hx;rw[h.bx j,Af]at hx;exact .inl hx) (fun k hk=>.inl (OP hk)) (aF (List.length_eraseIdx_le _ _) h.room)
theorem Good.got{k:Pk}(hk:vM sm n Ω W k):Good sm n Ω χ B (W.heard k):=by
 have hn:0<n:=by have:=hk.src;omega
 have JQ:=h.len k.dst hk.dst;by_cases j5:(W.ps k.dst).closed=true
 .have hc:(W.ps k.dst).recv k.dst k=W.ps k.dst:=if_pos j5
  have qx:∀i,((W.heard k).ps i)={W.ps i with bx:=[]}:=fun i=>by
   by_cases e:i=k.dst
   .subst e;simp[Wd.heard,Wd.told,aH,hc]
   .simp[Wd.heard,Wd.told,az _ _ e]
  exact h.still hs (fun i=>by rw[qx]) (fun i j _ _=>by rw[qx]) (fun i j _ _=>by rw[qx]) (fun i j hi=>by rw[qx];exact h.heard i j hi) (fun i hi=>by rw[qx];exact h.now i hi) (fun i=>rfl)
   (sR h _ (by rw[hc,h.bx];simp) _) (fun k hk=>.inl hk) h.room
 by_cases hq:k.iA=true
 .have hc:(W.ps k.dst).recv k.dst k={W.ps k.dst with heard:=aW (W.ps k.dst).heard k.src (W.ps k.dst).now,bx:=(W.ps k.dst).bx++[(1,k.src)],closed:=true}:=by unfold Cr.recv;rw[if_neg j5,if_pos hq]
  have qx:∀i,((W.heard k).ps i).ls=(W.ps i).ls/\((W.heard k).ps i).has=(W.ps i).has/\((W.heard k).ps i).words=(W.ps i).words/\((W.heard k).ps i).now=(W.ps i).now:=fun i=>by
   by_cases e:i=k.dst
   .subst e;simp[Wd.heard,Wd.told,aH,hc]
   .simp[Wd.heard,Wd.told,az _ _ e]
  refine h.still hs (fun i=>(qx i).1) (fun i j _ _=>by rw[(qx i).2.1]) (fun i j _ _=>by rw[(qx i).2.2.1]) (fun i j hi=>?_) (fun i hi=>by rw[(qx i).2.2.2];exact h.now i hi) (fun i=>rfl)
   (sR h _ (fun x hx=>?_) _) (fun k hk=>.inl hk) h.room
  .rw[(qx i).2.2.2]
   by_cases e:i=k.dst
   .subst e
    have:((W.heard k).ps k.dst).heard j=aW (W.ps k.dst).heard k.src (W.ps k.dst).now j:=by simp[Wd.heard,Wd.told,aH,hc]
    rw[this];by_cases e2:j=k.src
    .subst e2;rw[aH];exact aq _
    .rw[az _ _ e2];exact h.heard _ j hi
   .have:((W.heard k).ps i).heard j=(W.ps i).heard j:=by simp[Wd.heard,Wd.told,az _ _ e]
    rw[this];exact h.heard i j hi
  .rw[hc]at hx;simp only[h.bx,Tl,sP]at hx;subst hx;exact⟨.inl rfl,hk.src⟩
 .
  have vC:k.iA=false:=Tc;have hd:Ω<=k.dP:=hk.least vC;obtain⟨l',G3⟩:∃l',j8 ((W.ps k.dst).ls.getD k.src []) k.first k.ν=l':=⟨_,rfl⟩;obtain⟨Dg,Lw⟩:∃Dg,(W.ps k.dst).ls.set k.src l'=Dg:=⟨_,rfl⟩;have RB:Dg.length=n:=by rw[←Lw,Ae];exact JQ
  have vz:W.line k.dst k.src <+: l':=G3▸EB _ _;have hto:l' <+: W.own k.src:=G3▸EC (h.xU _ _ hk.dst hk.src) hk.ν (h.dz _ hk.src);have yL:∀q,q<n->Dg.getD q []=if q=k.src then l' else W.line k.dst q:=by
   intro q hq;rw[←Lw,cO,Es];by_cases e:q=k.src
   .subst e;rw[if_pos rfl,if_pos η,if_pos rfl];rfl
   .rw[if_neg (fun h=>e h.symm),if_neg e,←cO];rfl
  have RC:Dg.getD k.dst []=W.own k.dst:=by rw[yL _ hk.dst,if_neg (fun h=>hk.ne h.symm)];rfl
  have hc:(W.ps k.dst).recv k.dst k={W.ps k.dst with ls:=Dg,heard:=aW (W.ps k.dst).heard k.src (W.ps k.dst).now,has:=if (W.ps k.dst).has k.src<k.dP/\k.dP<=(W.own k.dst).length then aW (W.ps k.dst).has k.src k.dP else (W.ps k.dst).has,words:=if 0<k.frame/\((W.ps k.dst).words k.src).1<=k.frame then aW (W.ps k.dst).words k.src (k.frame,k.sum) else (W.ps k.dst).words}:=by unfold Cr.recv;rw[if_neg j5,if_neg hq];simp only[G3,Lw,RC]
  obtain⟨c',hc'⟩:∃c',(W.ps k.dst).recv k.dst k=c':=⟨_,rfl⟩;have qx:∀i,i≠k.dst->(W.heard k).ps i={W.ps i with bx:=[]}:=fun i e=>by simp[Wd.heard,Wd.told,az _ _ e]
  have OS:(W.heard k).ps k.dst={c' with bx:=[]}:=by simp[Wd.heard,Wd.told,aH,hc']
  rw[hc']at hc;have kQ:∀i q,i<n->q<n->(W.heard k).line i q=if i=k.dst/\q=k.src then l' else W.line i q:=by
   intro i q hi hq;unfold Wd.line;by_cases e:i=k.dst
   .subst e
    rw[OS,hc];show Dg.getD q []=_
    rw[yL q hq];by_cases e2:q=k.src
    .subst e2;simp
    .simp[e2];rfl
   .rw[qx i e,if_neg (fun h=>e h.1)]
  have fS:∀q,q<n->(W.heard k).own q=W.own q:=fun q hq=>by
   show(W.heard k).line q q=_
   rw[kQ q q hq hq,if_neg (fun h9:q=k.dst/\q=k.src=>hk.ne (h9.2.symm.trans h9.1))];rfl
  have hlen:∀i,i<n->((W.heard k).ps i).ls.length=n:=fun i hi=>by
   by_cases e:i=k.dst
   .subst e;rw[OS,hc];exact RB
   .rw[qx i e];exact h.len i hi
  have Ib:∀i q,i<n->q<n->W.line i q <+: (W.heard k).line i q:=fun i q hi hq=>by
   rw[kQ i q hi hq];split
   .rename_i e;obtain⟨rfl,rfl⟩:=e;exact vz
   .exact xT _
  have Xq:∀q,q<n->W.own q <+: (W.heard k).own q:=fun q hq=>by rw[fS q hq];exact xT _
  refine h.ο hs hlen Ib (fun i q hi hq=>?_) (fun q hq=>by rw[fS q hq];exact h.dz q hq) (fun i j hi hj=>?_) (fun i j hi hj=>?_) (fun i j hi=>?_) (fun i hi=>?_) (fun i=>rfl)
   (sR h _ (by rw[hc',hc];show ∀x∈(W.ps k.dst).bx,_;rw[h.bx];simp) _) (fun k hk=>.inl hk) h.room (fun i hi=>?_)
  .rw[kQ i q hi hq,fS q hq];split
   .rename_i e;obtain⟨rfl,rfl⟩:=e;exact hto
   .exact h.xU i q hi hq
  .by_cases e:i=k.dst
   .subst e
    have hh:((W.heard k).ps k.dst).has=if (W.ps k.dst).has k.src<k.dP/\k.dP<=(W.own k.dst).length then aW (W.ps k.dst).has k.src k.dP else (W.ps k.dst).has:=by rw[OS,hc]
    rw[hh];split
    .by_cases e2:j=k.src
     .subst e2;rw[aH];exact .inr ⟨hd,aF hk.dP (Ib _ _ hk.src hk.dst).length_le⟩
     .rw[az _ _ e2];exact .inl rfl
    .exact .inl rfl
   .rw[qx i e];exact .inl rfl
  .by_cases e:i=k.dst
   .subst e
    have hh:((W.heard k).ps k.dst).words=if 0<k.frame/\((W.ps k.dst).words k.src).1<=k.frame then aW (W.ps k.dst).words k.src (k.frame,k.sum) else (W.ps k.dst).words:=by rw[OS,hc]
    rw[hh];split
    .by_cases e2:j=k.src
     .subst e2;rw[aH];exact .inr (hk.word.grow hs Xq)
     .rw[az _ _ e2];exact .inl rfl
    .exact .inl rfl
   .rw[qx i e];exact .inl rfl
  .by_cases e:i=k.dst
   .subst e
    rw[OS,hc];show aW (W.ps k.dst).heard k.src (W.ps k.dst).now j<=(W.ps k.dst).now
    by_cases e2:j=k.src
    .subst e2;rw[aH];exact aq _
    .rw[az _ _ e2];exact h.heard _ j hi
   .rw[qx i e];exact h.heard i j hi
  .by_cases e:i=k.dst
   .subst e;rw[OS,hc];exact h.now _ hi
   .rw[qx i e];exact h.now i hi
  .rw[fS i hi];have hm:=ED (W:=W) (W':=W.heard k) (i:=i) hn (h.len i hi) (hlen i hi) (fun q hq=>Ib i q hi hq);have:=h.ahead i hi;omega
end
end
def iX(o:Nat)(aa:aD)(j v:Nat):Nat:=((dJ j).filter fun i=>decide ((aa.drop i).take o=aa.drop (aa.length-o))&&decide ((aa.getD (i+o) 0).toNat=v)).length
def qM(kind o:Nat)(aa:aD)(v:Nat):Nat:=if kind=2/\o<=aa.length then iX o aa (aa.length-o) v else 0
theorem EE(o:Nat)(aa:aD)(j v:Nat):iX o aa (j+1) v=iX o aa j v+if (aa.drop j).take o=aa.drop (aa.length-o)/\(aa.getD (j+o) 0).toNat=v then 1 else 0:=by
 unfold iX;rw[List.range_succ,List.filter_append,eU];congr 1
 by_cases h:(aa.drop j).take o=aa.drop (aa.length-o)/\(aa.getD (j+o) 0).toNat=v
 .rw[if_pos h,List.filter_cons_of_pos (by simp only[rB,decide_eq_true_eq];exact h)];rfl
 .rw[if_neg h,List.filter_cons_of_neg (by simp only[rB,decide_eq_true_eq];exact h)];rfl
theorem EF(o:Nat)(aa:aD)(j v:Nat):iX o aa j v<=j:=by unfold iX;exact aF (agl _ _) bT
theorem RD(kind o:Nat)(aa:aD)(v:Nat):qM kind o aa v<=aa.length:=by
 unfold qM;split
 .exact aF (EF _ _ _ _) η
 .omega
def rO(aa:aD):UInt8:=aa.getLastD 0
def fP(w:Nat->Nat)(last:Nat):Nat->Nat
 |0=>last
 |v+1=>if w (fP w last v)<w v then v else fP w last v
theorem vN(w:Nat->Nat)(last:Nat):∀v,(∀u,u<v->w u<=w (fP w last v))/\w last<=w (fP w last v)/\(fP w last v≠last->fP w last v<v/\w last<w (fP w last v)/\∀u,u<v->w u=w (fP w last v)->fP w last v<=u)
 |0=>⟨fun u h=>absurd h η,aq _,fun h=>absurd rfl h⟩
 |v+1=>by
  obtain⟨h1,h2,h3⟩:=vN w last v;rw[fP];split
  .rename_i h
   refine⟨fun u hu=>?_,η,fun _=>⟨η,η,fun u hu e=>?_⟩⟩
   .by_cases e:u=v
    .subst e;exact aq _
    .have:=h1 u η;omega
   .by_cases e':u=v
    .omega
    .have:=h1 u η;omega
  .rename_i h
   refine⟨fun u hu=>?_,h2,fun hne=>?_⟩
   .by_cases e:u=v
    .subst e;omega
    .exact h1 u η
   .obtain⟨h4,h5,h6⟩:=h3 hne
    refine⟨η,h5,fun u hu e=>?_⟩;by_cases e':u=v
    .omega
    .exact h6 u η e
theorem Ic(w:Nat->Nat)(h:last<256){v:Nat}(hv:v<=256):fP w last v<256:=by
 by_cases e:fP w last v=last
 .omega
 .have:=((vN w last v).2.2 e).1;omega
def lu(w:Nat->Nat)(last:Nat):Nat->Nat
 |0=>0
 |v+1=>if v=0 then 0 else if w (lu w last v)<w v\/(w v=w (lu w last v)/\v=last) then v else lu w last v
theorem yM(w:Nat->Nat)(last:Nat):∀v,0<v->lu w last v<v/\(∀u,u<v->w u<=w (lu w last v))/\(∀u,u<v->w u=w (lu w last v)->(u=last->lu w last v=last)/\(lu w last v≠last->lu w last v<=u))
 |0,h=>absurd h η
 |v+1,_=>by
  by_cases hv:v=0
  .subst hv;have e:lu w last 1=0:=rfl;rw[e];refine⟨η,fun u hu=>?_,fun u hu _=>⟨fun h=>η,fun _=>η⟩⟩;obtain rfl:u=0:=η;exact aq _
  .obtain⟨h1,h2,h3⟩:=yM w last v η
   rw[lu,if_neg hv];split
   .rename_i h
    refine⟨η,fun u hu=>?_,fun u hu e=>⟨fun h9=>?_,fun hne=>?_⟩⟩
    .by_cases e:u=v
     .subst e;exact aq _
     .have:=h2 u η;omega
    .by_cases e':u=v
     .omega
     .have h8:=h2 u η
      rcases h with h|⟨h,h'⟩
      .omega
      .exact h'
    .by_cases e':u=v
     .omega
     .have h8:=h2 u η
      rcases h with h|⟨h,h'⟩
      .omega
      .exact absurd h' hne
   .rename_i h
    refine⟨η,fun u hu=>?_,fun u hu e=>⟨fun h9=>?_,fun hne=>?_⟩⟩
    .by_cases e:u=v
     .subst e;omega
     .exact h2 u η
    .by_cases e':u=v
     .subst e';exact absurd (.inr ⟨e,h9⟩) h
     .exact(h3 u η e).1 h9
    .by_cases e':u=v
     .omega
     .exact(h3 u η e).2 hne
theorem Xr(w:Nat->Nat)(hl:last<256):lu w last 256=fP w last 256:=by
 obtain⟨a1,a2,a3⟩:=yM w last 256 Γ;obtain⟨b1,b2,b3⟩:=vN w last 256;generalize lu w last 256=r at*;generalize fP w last 256=b at*;by_cases e:b=last
 .subst e;have h1:=b1 r a1;have h2:=a2 b hl;exact(a3 b hl η).1 rfl
 .obtain⟨c1,c2,c3⟩:=b3 e
  have h1:=b1 r a1;have h2:=a2 b c1;have hr:r≠last:=by rintro rfl;omega
  have h3:=(a3 b c1 η).2 hr;have h4:=c3 r a1 η;omega
def EG(kind o:Nat)(aa:aD):Nat:=fP (qM kind o aa) (rO aa).toNat 256
theorem Tu(kind o:Nat)(aa:aD):EG kind o aa<256:=Ic _ (UInt8.toNat_lt _) (aq _)
def nJ(kind o:Nat)(aa:aD):UInt8:=UInt8.ofNat (EG kind o aa)
theorem JR(kind o:Nat)(aa:aD):(nJ kind o aa).toNat=EG kind o aa:=by have:=Tu kind o aa;simp[nJ,UInt8.toNat_ofNat'];omega
def ji(kind o:Nat)(aa:aD):Nat->List UInt8
 |0=>aa
 |n+1=>ji kind o aa n++[nJ kind o (ji kind o aa n)]
theorem wM(kind o:Nat)(aa:aD):∀n,(ji kind o aa n).length=aa.length+n
 |0=>rfl
 |n+1=>by rw[ji,eU,wM kind o aa n];simp;omega
theorem yN(kind o:Nat)(aa:aD):∀n,aa <+: ji kind o aa n
 |0=>xT _
 |n+1=>(yN kind o aa n).trans (Ls _ _)
def mM(kind o:Nat)(aa:aD)(n:Nat):List UInt8:=(ji kind o aa n).drop aa.length
section
variable(kind o:Nat)(aa:aD)(n:Nat)
theorem yO:(mM kind o aa n).length=n:=by simp[mM,wM]
theorem EH:aa++mM kind o aa n=ji kind o aa n:=by obtain⟨r,hr⟩:=yN kind o aa n;rw[mM,←hr];simp
theorem Lx:mM kind o aa (n+1)=mM kind o aa n++[nJ kind o (ji kind o aa n)]:=by rw[mM,ji,agk WC];rfl
end
def oq(kind o:Nat)(ls:bH)(tq:Nat):bH:=ls.map fun l=>ji kind o l (tq-l.length)
def gD(kind o:Nat)(ls:bH)(tq:Nat):List (List UInt8):=(dJ (tq-cn ls)).map fun j=>bp (oq kind o ls tq) (cn ls+j)
theorem qN(ls:bH)(f:Nat):(bp ls f).length=ls.length:=by simp[bp]
theorem yQ(kind o:Nat)(ls:bH)(tq:Nat):(gD kind o ls tq).length=tq-cn ls:=by simp[gD]
section
variable {sm:bH->Nat->Nat}{n Ω χ N:Nat}{W:Wd}
theorem abe(h:∀i,(W.ps i).bx=[]):W.told=W:=by
 obtain⟨ps,au,log⟩:=W;have h':∀i,(ps i).bx=[]:=h;unfold Wd.told;have e1:(fun i=>log i++(ps i).bx)=log:=funext fun i=>by rw[h' i,Af]
 have e2:(fun i=>({ps i with bx:=[]}:Cr))=ps:=funext fun i=>by
  have:=h' i;generalize ps i=c at*;obtain⟨a1,a2,a3,a4,a5,a6,a7⟩:=c;cases this
  rfl
 simp only[e1,e2]
def Wd.lX(W:Wd)(i:Nat)(k:Pk):Wd:=Wd.heard {W with au:=W.au.eraseIdx i} k
structure Cm(sm:bH->Nat->Nat)(n Ω χ N:Nat)(W:Wd):Prop where
 eP:Good sm n Ω χ N W
 open_:∀i,i<n->(W.ps i).closed=false
 au:∀k∈W.au,k.iA=false
theorem Good.o(hs:qL sm)(h:Good sm n Ω χ N W)(i:Nat):Good sm n Ω χ N {W with au:=W.au.eraseIdx i}:=by have h1:=h.dropped hs i;unfold Wd.dropped at h1;rw[abe (W:={W with au:=W.au.eraseIdx i}) h.bx]at h1;exact h1
theorem vM.o{k:Pk}(h:vM sm n Ω W k)(kK:List Pk):vM sm n Ω {W with au:=kK} k:=⟨h.src,h.dst,h.ne,h.bye,h.first,h.dz,h.ν,h.dP,h.least,⟨h.word.all,h.word.sum⟩⟩
theorem Good.lX(hs:qL sm)(h:Good sm n Ω χ N W){k:Pk}(hk:W.au[i]?=some k):Good sm n Ω χ N (W.lX i k) :=
 (h.o hs i).got hs ((h.au k (sO hk)).o _)
structure Prs(p:Nat)(b:UInt8)(W W':Wd)(n:Nat):Prop where
 own:∀q,q<n->W'.own q=if q=p then W.own p++[b] else W.own q
 line:∀i q,i<n->q<n->W.line i q <+: W'.line i q
 au:W'.au=W.au
theorem Cm.ν(hs:qL sm)(h:Cm sm n Ω χ N W)(hp:p<n)(hw:(W.own p).length<Ω+χ)(hh:(W.own p).length<1000)(b:UInt8):Cm sm n Ω χ N (W.cF χ p b)/\Prs p b W (W.cF χ p b) n:=by
 have hf:Ω<=(W.ps p).front:=Aq (h.eP.len p hp) η fun q hq=>h.eP.least p q hp hq;have DJ:(W.ps p).front<=(W.own p).length:=dW (h.eP.len p hp) hp;have he:(W.ps p).iB p χ=0:=by have sS:(W.ps p).head p=(W.own p).length:=rfl;unfold Cr.iB;rw[if_neg (by rw[h.open_ p hp];decide),sS,if_neg η,if_neg η]
 have hc:(W.ps p).ν p χ b={W.ps p with ls:=(W.ps p).ls.set p ((W.ps p).nr p++[b])}:=if_pos he;have kQ:∀i q,i<n->q<n->(W.cF χ p b).line i q=if i=p/\q=p then W.own p++[b] else W.line i q:=by
  intro i q hi hq;unfold Wd.line Wd.cF Wd.told;by_cases e:i=p
  .subst e
   simp only[aH,hc];rw[cO,Es];by_cases e2:q=i
   .subst e2;rw[if_pos rfl,if_pos (by rw[h.eP.len q hi];exact hi),if_pos bT];rfl
   .rw[if_neg (fun h=>e2 h.symm),if_neg (fun h=>e2 h.2),cO]
  .simp only[az _ _ e];rw[if_neg (fun h=>e h.1)]
 refine⟨⟨h.eP.cF hs hp b,fun i hi=>?_,h.au⟩,⟨fun q hq=>?_,fun i q hi hq=>?_,rfl⟩⟩
 .by_cases e:i=p
  .subst e;simp only[Wd.cF,Wd.told,aH,hc];exact h.open_ i hi
  .simp only[Wd.cF,Wd.told,az _ _ e];exact h.open_ i hi
 .show(W.cF χ p b).line q q=_
  rw[kQ q q hq hq];by_cases e:q=p
  .rw[if_pos ⟨e,e⟩,if_pos e]
  .rw[if_neg (fun h=>e h.1),if_neg e];rfl
 .rw[kQ i q hi hq]
  split
  .rename_i e;obtain⟨rfl,rfl⟩:=e;exact Ls _ _
  .exact xT _
structure Tck(p:Nat)(W W':Wd)(sm:bH->Nat->Nat):Prop where
 line:∀i q,W'.line i q=W.line i q
 au:W'.au=W.au++(((W.ps p).others p).map ((W.ps p).input sm p)).take (300-W.au.length)
theorem Cm.tick(hs:qL sm)(h:Cm sm n Ω χ N W)(hp:p<n)(hN:N<39):Cm sm n Ω χ (N+1) (W.fF sm p)/\Tck p W (W.fF sm p) sm:=by
 have hl:(W.ps p).late p=none:=by unfold Cr.late;rw[List.find?_eq_none];intro i _;have:=h.eP.now p hp;simp only[decide_eq_true_eq];omega
 have hc:(W.ps p).tick p={W.ps p with now:=(W.ps p).now+1}:=by unfold Cr.tick;rw[if_neg (by rw[h.open_ p hp];decide),hl]
 have hk:(W.ps p).kP sm p=((W.ps p).others p).map ((W.ps p).input sm p):=by unfold Cr.kP;rw[if_neg (by rw[h.open_ p hp];decide),hl]
 refine⟨⟨h.eP.fF hs hp,fun i hi=>?_,fun k hm=>?_⟩,fun i q=>?_,?_⟩
 .by_cases e:i=p
  .subst e;simp only[Wd.fF,Wd.told,aH,hc];exact h.open_ i hi
  .simp only[Wd.fF,Wd.told,az _ _ e];exact h.open_ i hi
 .have hm:k∈W.au++((W.ps p).kP sm p).take (300-W.au.length):=hm
  rcases BG.1 hm with hm|hm
  .exact h.au k hm
  .rw[hk]at hm;obtain⟨q,_,rfl⟩:=fK.1 (aiK hm);rfl
 .unfold Wd.line
  by_cases e:i=p
  .subst e;simp only[Wd.fF,Wd.told,aH,hc]
  .simp only[Wd.fF,Wd.told,az _ _ e]
 .show W.au++((W.ps p).kP sm p).take (300-W.au.length)=_
  rw[hk]
structure Hrd(i:Nat)(k:Pk)(W W':Wd)(n:Nat):Prop where
 own:∀q,q<n->W'.own q=W.own q
 line:∀i q,i<n->q<n->W.line i q <+: W'.line i q
 au:W'.au=W.au.eraseIdx i
def Full(W:Wd)(k:Pk):Prop:=(W.own k.src).length<=k.first+k.ν.length
theorem Cm.lX(hs:qL sm)(h:Cm sm n Ω χ N W){k:Pk}(hk:W.au[i]?=some k):Cm sm n Ω χ N (W.lX i k)/\Hrd i k W (W.lX i k) n/\(Full W k->(W.lX i k).line k.dst k.src=W.own k.src):=by
 have hm:=sO hk;have ho:=h.eP.au k hm;have hq:=h.au k hm;have hd:=ho.dst;have JQ:=h.eP.len k.dst hd;obtain⟨l',G3⟩:∃l',j8 ((W.ps k.dst).ls.getD k.src []) k.first k.ν=l':=⟨_,rfl⟩;have vz:W.line k.dst k.src <+: l':=G3▸EB _ _;have hto:l' <+: W.own k.src:=G3▸EC (h.eP.xU _ _ hd ho.src) ho.ν (h.eP.dz _ ho.src);obtain⟨c',hc'⟩:∃c',(W.ps k.dst).recv k.dst k=c':=⟨_,rfl⟩;have Gd:c'.ls=(W.ps k.dst).ls.set k.src l'/\c'.closed=false:=by
  rw[←hc'];unfold Cr.recv;rw[if_neg (by rw[h.open_ _ hd];decide),if_neg (by rw[hq];decide),G3]
  exact⟨rfl,h.open_ _ hd⟩
 have qx:∀j,j≠k.dst->((W.lX i k).ps j).ls=(W.ps j).ls/\((W.lX i k).ps j).closed=(W.ps j).closed:=fun j e=>by simp only[Wd.lX,Wd.heard,Wd.told,az _ _ e];exact⟨trivial,trivial⟩
 have OS:((W.lX i k).ps k.dst).ls=c'.ls/\((W.lX i k).ps k.dst).closed=c'.closed:=by simp only[Wd.lX,Wd.heard,Wd.told,aH,hc'];exact⟨trivial,trivial⟩
 have kQ:∀j q,j<n->q<n->(W.lX i k).line j q=if j=k.dst/\q=k.src then l' else W.line j q:=by
  intro j q hj hq;unfold Wd.line;by_cases e:j=k.dst
  .subst e
   rw[OS.1,Gd.1,cO,Es];by_cases e2:q=k.src
   .subst e2;rw[if_pos rfl,if_pos η,if_pos ⟨rfl,rfl⟩];rfl
   .rw[if_neg (fun h=>e2 h.symm),if_neg (fun h=>e2 h.2),←cO]
  .rw[(qx j e).1,if_neg (fun h=>e h.1)]
 refine⟨⟨h.eP.lX hs hk,fun j hj=>?_,fun x hx=>h.au x (OP hx)⟩,⟨fun q hq=>?_,fun j q hj hq=>?_,rfl⟩,fun hf=>?_⟩
 .by_cases e:j=k.dst
  .subst e;rw[OS.2,Gd.2]
  .rw[(qx j e).2];exact h.open_ j hj
 .show(W.lX i k).line q q=_
  rw[kQ q q hq hq,if_neg (fun h9:q=k.dst/\q=k.src=>ho.ne (h9.2.symm.trans h9.1))];rfl
 .rw[kQ j q hj hq];split
  .rename_i e;obtain⟨rfl,rfl⟩:=e;exact vz
  .exact xT _
 .rw[kQ _ _ hd ho.src,if_pos ⟨rfl,rfl⟩]
  have h1:=ho.first;have h2:k.first+k.ν.length<=1000:=by have h3:=congrArg List.length ho.ν;rw[tN,Bq]at h3;have:=h.eP.dz _ ho.src;have h4:=(h.eP.xU _ _ hd ho.src).length_le;omega
  have h5:k.first+k.ν.length<=l'.length:=G3▸Tt h1 h2;exact hto.eq_of_length (WY hto.length_le (aF hf h5))
theorem Cm.drop(hs:qL sm)(h:Cm sm n Ω χ N W)(i:Nat)(k:Pk):Cm sm n Ω χ N (W.dropped i)/\Hrd i k W (W.dropped i) n :=
 ⟨⟨h.eP.dropped hs i,fun j hj=>h.open_ j hj,fun x hx=>h.au x (OP hx)⟩,fun _ _=>rfl,fun _ _ _ _=>xT _,rfl⟩
structure Flw(n:Nat)(W W':Wd):Prop where
 own:∀q,q<n->W'.own q=W.own q
 line:∀i q,i<n->q<n->W.line i q <+: W'.line i q
 full:∀k∈W.au,Full W k->k∈W'.au\/W'.line k.dst k.src=W.own k.src
theorem Flw.refl(n:Nat)(W:Wd):Flw n W W:=⟨fun _ _=>rfl,fun _ _ _ _=>xT _,fun _ h _=>.inl h⟩
theorem Flw.step{W0:Wd}(hs:qL sm)(hF:Flw n W0 W)(h:Cm sm n Ω χ N W)(hn:∀k∈W0.au,k.src<n/\k.dst<n){k:Pk}(hk:W.au[0]?=some k):Cm sm n Ω χ N (W.lX 0 k)/\Flw n W0 (W.lX 0 k):=by
 obtain⟨h1,h2,h3⟩:=h.lX hs hk;refine⟨h1,fun q hq=>by rw[h2.own q hq,hF.own q hq],fun i q hi hq=>(hF.line i q hi hq).trans (h2.line i q hi hq),fun x hx hf=>?_⟩;obtain⟨BK,hxd⟩:=hn x hx;have ahu:W.line x.dst x.src=W0.own x.src->(W.lX 0 k).line x.dst x.src=W0.own x.src:=fun e=>by have h4:=h2.line x.dst x.src hxd BK;have h5:=h1.eP.xU x.dst x.src hxd BK;rw[h2.own _ BK,hF.own _ BK]at h5;rw[e]at h4;exact h5.eq_of_length (WY h5.length_le h4.length_le)
 rcases hF.full x hx hf with h4|h4
 .by_cases e:x=k
  .subst e;refine .inr ?_;rw[h3 (by unfold Full;rw[hF.own _ BK];exact hf),hF.own _ BK]
  .refine .inl ?_
   rw[h2.au];cases hw:W.au with
   |nil=>rw[hw]at h4;cases h4
   |cons y r =>
    rw[hw]at h4 hk;simp at hk
    rcases Ad.1 h4 with h6|h6
    .exact absurd (h6.trans hk) e
    .simpa using h6
 .exact .inr (ahu h4)
theorem EI(h:Cm sm n Ω χ N W)(hp:p<n)(hq:q<n)(hl:(W.own p).length<=32):Full W ((W.ps p).input sm p q):=by
 have h1:=(h.eP.has p q hp hq).2;have h2:=(h.eP.xU q p hq hp).length_le;show(W.own p).length<=(W.ps p).has q+(((W.own p).drop ((W.ps p).has q)).take 32).length
 rw[tN,Bq];omega
theorem Lz(h:Cm sm n Ω χ N W)(hp:p<n)(hq:q<n)(hne:q≠p){W':Wd}(hT:Tck p W W' sm)(hr:W.au.length+n<=300):(W.ps p).input sm p q∈W'.au:=by
 rw[hT.au];refine List.mem_append_right _ ?_;rw[jL]
 .exact List.mem_map_of_mem ((yK (h.eP.len p hp)).2 ⟨hq,hne⟩)
 .have:=agl (fun x=>decide (x≠p)) (dJ (W.ps p).ls.length);rw[xN];unfold Cr.others;rw[h.eP.len p hp,acH]at this;rw[h.eP.len p hp];omega
theorem Tck.len{W':Wd}(h:Cm sm n Ω χ N W)(hp:p<n)(hT:Tck p W W' sm):W'.au.length<=W.au.length+n:=by rw[hT.au,eU,tN,xN];have:=agl (fun x=>decide (x≠p)) (dJ (W.ps p).ls.length);unfold Cr.others;rw[h.eP.len p hp,acH]at this;rw[h.eP.len p hp];omega
theorem Good.Xs(h:Good sm n Ω χ N W)(hi:i<n)(hl:∀q,q<n->(W.line i q).length=f):(W.ps i).front=f:=by
 refine WY ?_ ?_
 .rw[←hl i hi];exact dW (h.len i hi) hi
 .exact Aq (h.len i hi) η fun q hq=>by rw[hl q hq];exact aq _
end
end Go.Proofs.YtffcefoadaogbaaGreat
