/- The reference's pressed; a result that lies in a block, beside a number. -/
import Derived.Test.YtihegdjdgklbgaaVmT
import Derived.Test.YtihegdjdgklbgaaRuneT
namespace Go.Proofs.Ytihegdjdgklbgaa
set_option maxRecDepth 100000
open Go.RowKit
set_option linter.unusedVariables false

theorem pressed_is (w : World) (Pa : Option Addr) (pn pc : Nat) (press : List UInt8) (hp : Rb w Pa pn pc press) (who : Int) (ho : ok32 who) :
    Calls Try.prog 33 #[.slice Pa pn pc, .int .i32 who] w fun e w' => e = .returned (.int .i32 (inN press who)) ∧ w' = w := by
  have hmx := hp.max
  unfold maxLen at hmx
  unfold ok32 at ho
  by_cases h0 : who < 0
  · have hv : inN press who = 0 := if_pos h0
    rw [hv]
    clear hv
    go_enter Try.func33, Try.ntmps33
    go_wp2_with fail
    go_ret
    exact ⟨rfl, rfl⟩
  have hn := hp.len
  subst hn
  by_cases h1 : who.toNat < press.length
  · obtain ⟨pb, po, rfl, hc⟩ := hp.at_ h1
    have hv : inN press who = (press[who.toNat].toNat : Nat) := by
      unfold inN bt
      rw [if_neg h0, List.getD_eq_getElem?_getD, List.getElem?_eq_getElem h1]; rfl
    have hw : who < press.length := by omega
    rw [hv]
    clear hv
    generalize press[who.toNat] = u at *
    have hu := u.toNat_lt
    generalize u.toNat = v at *
    go_enter Try.func33, Try.ntmps33
    go_wp2_with fail
    go_ret
    exact ⟨rfl, rfl⟩
  · have hv : inN press who = 0 := by
      unfold inN bt
      rw [if_neg h0, List.getD_eq_getElem?_getD, List.getElem?_eq_none (by omega)]; rfl
    have hw : (press.length : Int) ≤ who := by omega
    rw [hv]
    clear hv
    go_enter Try.func33, Try.ntmps33
    go_wp2_with fail
    go_ret
    exact ⟨rfl, rfl⟩
/-- A result that lies in a block, beside a second one. -/
theorem result_gm2 {P : Program} {w : World} {b : Nat} {g : List Int} {fn : Func} {p q : Tmp} {ty e : TypeId} (h : fn.results = #[.cell p ty, .tmp q]) (tmps : Array Value) (hp : tmps.getD p undef = .pointer (some ⟨b, 0, none⟩)) {v : Value} (hq : tmps.getD q undef = v) (hg : Gm w b g) (hu : P.underlying ty = some (.array 32 e)) (hi : (P.info? ty).map (·.size) = some 32) :
    (results fn tmps).run P w = .ok (.tuple #[.agg (gcs g), v]) w := by
  have hp' : tmps[p]?.getD undef = .pointer (some ⟨b, 0, none⟩) := by simpa using hp
  have hq' : tmps[q]?.getD undef = v := by simpa using hq
  simp [results, h, hp', hq', asAddr, gm_load hu hi hg]
end Go.Proofs.Ytihegdjdgklbgaa
