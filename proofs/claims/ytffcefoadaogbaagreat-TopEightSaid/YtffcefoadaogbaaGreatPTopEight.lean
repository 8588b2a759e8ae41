/- The law TopEight: its statement, out of its walk. Conditions: none; the statement is the given one. -/
import Derived.Test.YtffcefoadaogbaaGreatRows
import Derived.Test.YtffcefoadaogbaaGreatS27
import Derived.WalkKit
namespace Go.Proofs.YtffcefoadaogbaaGreat.topEight
open Go.Proofs.Tryz Go.ChangeShapes Go.WideShapes Go.ChangeAt Go.RowKit
set_option linter.unusedVariables false
theorem own:ownKnob prog.godebug=none:=by kernel_rfl
theorem laidOut:laidOutB prog=true:=by kernel_rfl
set_option maxRecDepth 100000 in
theorem lifted(os:Go.Os)(started:os.Started)(H:Type)(enc:TypeId×Value->H) :
  ReturnsInHanded {} Tryz.checked os 8 .any (Rows.topEightSpec.pre6 enc prog Tryz.f8 Rows.topEightRow.domain false) (Rows.topEightSpec.post enc prog Tryz.f8 false true false false):=by
 refine returnsInHanded_of_change (C:=Tryz.checked) own started (by kernel_rfl) func8
  (ChangeSpec.witness6 (enc:=enc) (C:=Tryz.checked) false ⟨#[],#[.int .i64 0,.int .i64 0,.bool false],[]⟩ 8 (by kernel_rfl) (by kernel_rfl) (by kernel_rfl) (by kernel_rfl)) ?_
 intro W base args ds gs before adX hW hcnd _;have hval:∀(j:Nat) t v,Tryz.f8.params[j]?=some t->args[j]?=some v->Value.okWide prog W .any base t v:=adX;have We:=hW;obtain⟨p,q,hA0,hV,rfl,hfz,SF⟩:=hW;have hA:DataW.TrodAll enc prog W 0 (fun _=>true) true Tryz.f8.params.toList args.toList ds p:=hA0;rw[Tryz.params8]at hA hval;obtain⟨v0,vs0,d0,ds0,p0,q0,amR,rfl,rfl,h0,r0⟩:=trodAll_cons hA;obtain⟨v1,vs1,d1,ds1,p1,q1,rfl,rfl,rfl,h1,r1⟩:=trodAll_cons r0;obtain⟨v2,vs2,d2,ds2,p2,q2,rfl,rfl,rfl,h2,r2⟩:=trodAll_cons r1;obtain⟨rfl,rfl,rfl⟩:=trodAll_nil r2;obtain rfl:args = #[v0,v1,v2]:=by cases args;simp_all
 obtain⟨rfl,rfl⟩:=trodVars_none hV;obtain⟨a0,rfl,rfl,rfl,w0⟩:=open_int underlying3 (hval 0 3 v0 rfl rfl) h0;have c0:=Xp w0;obtain⟨a1,rfl,rfl,rfl,w1⟩:=open_int underlying3 (hval 1 3 v1 rfl rfl) h1;have c1:=Xp w1;obtain⟨a2,rfl,rfl,rfl⟩:=open_bool underlying4 (hval 2 4 v2 rfl rfl) h2;clear hA0 adX;refine(VX W a0 c0.1 c0.2 a1 c1.1 c1.2 a2).mono fun e W' ⟨he,bel⟩=>?_;subst he;exact⟨_,rfl,_,_,_,[],_,[],We,trodAll_mk1 (shut_bool underlying4 _),(trodAll_cons_mk (shut_int underlying3 w0) (trodAll_cons_mk (shut_int underlying3 w1) (trodAll_cons_mk (shut_bool underlying4 a2) trodAll_mk0))),rfl,bel.frame _,fun h=>by cases h⟩
theorem q1:(Rows.topEightRow.inPlace==Tryz.pinned.checked.prog.inPlace 8)=true:=by kernel_rfl
theorem q2:(Rows.topEightRow.unfollowed==Tryz.pinned.checked.prog.unfollowed 8)=true:=by kernel_rfl
theorem q3:(Rows.topEightRow.recurses==Tryz.pinned.checked.prog.recurses 8)=true:=by kernel_rfl
theorem q4:(Rows.topEightRow.named==Tryz.pinned.checked.prog.varsNamed 8)=true:=by kernel_rfl
theorem fits:joinedFacts Tryz.pinned.checked.prog 8 Tryz.f8 Rows.topEightSpec Rows.topEightRow=true:=by
 unfold joinedFacts;rw[q1,q2,q3,q4];kernel_rfl
theorem over:Rows.topEightRow.holds Tryz.pinned (OpenSpec.ofChange Rows.topEightSpec) :=
 OpenClaim.holds_of_wide 8 Tryz.f8 rfl rfl rfl rfl rfl rfl rfl ⟨rfl,rfl,rfl,rfl,rfl⟩ rfl rfl rfl rfl rfl (by kernel_rfl) func8 fits
  (of_decide_eq_true (by kernel_rfl)) (by unfold Func.isWrapper;first|(rw[if_pos (by decide +kernel)];kernel_rfl)|(rw[if_neg (by decide +kernel)];exact⟨rfl,rfl⟩))
  (fun os started H enc _=>lifted os started H enc)
theorem proved:Rows.TopEightSaid:=over
end Go.Proofs.YtffcefoadaogbaaGreat.topEight
