/- Numbers of 32 bits: word's functions, vm's flag and sum; and the reference's Round, Div, Mod, reckon. -/
import Derived.Test.YtihegdjdgklbgaaRows
import Derived.Test.YtihegdjdgklbgaaKit
namespace Go.Proofs.Ytihegdjdgklbgaa
set_option maxRecDepth 100000
open Go.RowKit

def ok32 (x : Int) : Prop := -2147483648 ≤ x ∧ x ≤ 2147483647
/-- A number modulo 2^32, from -2^31 on. -/
def w32 (x : Int) : Int := (x + 2147483648) % 4294967296 - 2147483648
def flagN (b : Bool) : Int := if b then 1 else 0
def divN (a b : Int) : Int := if b = 0 then 0 else w32 (a.tdiv b)
def remN (a : Int) : Nat := (a % 32).toNat
/-- What an operation of two numbers gives. -/
def sumN (k a b : Int) : Int :=
  if k = 3 then w32 (a + b) else if k = 4 then w32 (a - b) else if k = 5 then w32 (a * b) else if k = 6 then divN a b else if k = 7 then flagN (decide (a < b)) else flagN (decide (a = b))
theorem wrap32_is (x : Int) : wrap32 x = w32 x := by unfold wrap32 w32; omega
theorem w32_ok (x : Int) : ok32 (w32 x) := by unfold ok32 w32; omega
theorem w32_id {x : Int} (h : ok32 x) : w32 x = x := by unfold ok32 at h; unfold w32; omega
theorem flagN_ok (b : Bool) : ok32 (flagN b) := by cases b <;> simp [flagN, ok32]
theorem remN_lt (a : Int) : remN a < 32 := by unfold remN; omega
theorem sumN_ok (k a b : Int) : ok32 (sumN k a b) := by
  unfold sumN divN
  repeat' split
  all_goals first | exact w32_ok _ | exact flagN_ok _ | (unfold ok32; omega)

theorem flag_is (w : World) (b : Bool) : Calls Try.prog 72 #[.bool b] w fun e w' => e = .returned (.int .i32 (flagN b)) ∧ w' = w := by
  cases b <;>
  · go_enter Try.func72, Try.ntmps72
    go_wp2_with fail
    go_ret
    exact ⟨rfl, rfl⟩
theorem add_is (w : World) (a b : Int) : Calls Try.prog 68 #[.int .i32 a, .int .i32 b] w fun e w' => e = .returned (.int .i32 (w32 (a + b))) ∧ w' = w := by
  go_enter Try.func68, Try.ntmps68
  go_wp2_with fail
  go_ret
  exact ⟨by simp [wrap32_is], rfl⟩
theorem sub_is (w : World) (a b : Int) : Calls Try.prog 69 #[.int .i32 a, .int .i32 b] w fun e w' => e = .returned (.int .i32 (w32 (a - b))) ∧ w' = w := by
  go_enter Try.func69, Try.ntmps69
  go_wp2_with fail
  go_ret
  exact ⟨by simp [wrap32_is], rfl⟩
theorem mul_is (w : World) (a b : Int) : Calls Try.prog 70 #[.int .i32 a, .int .i32 b] w fun e w' => e = .returned (.int .i32 (w32 (a * b))) ∧ w' = w := by
  go_enter Try.func70, Try.ntmps70
  go_wp2_with fail
  go_ret
  exact ⟨by simp [wrap32_is], rfl⟩
theorem div_is (w : World) (a b : Int) : Calls Try.prog 71 #[.int .i32 a, .int .i32 b] w fun e w' => e = .returned (.int .i32 (divN a b)) ∧ w' = w := by
  by_cases h0 : b = 0
  · subst h0
    go_enter Try.func71, Try.ntmps71
    go_wp2_with fail
    go_ret
    exact ⟨by simp [divN], rfl⟩
  have b0 : (b == 0) = false := by rw [beq_eq_false_iff_ne]; exact h0
  by_cases h1 : b = -1
  · subst h1
    go_enter Try.func71, Try.ntmps71
    go_wp2_with fail
    go_ret
    exact ⟨by simp [divN, wrap32_is], rfl⟩
  have b1 : (b == -1) = false := by rw [beq_eq_false_iff_ne]; exact h1
  go_enter Try.func71, Try.ntmps71
  go_wp2_with fail
  go_ret
  exact ⟨by simp [divN, h0, wrap32_is], rfl⟩
end Go.Proofs.Ytihegdjdgklbgaa
