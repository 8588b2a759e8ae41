/- Cells of a game: Get and Set of vm's cells, as the interface Mem. -/
import Derived.Test.YtihegdjdgklbgaaVmM
import Derived.Test.YtihegdjdgklbgaaVmW2
import Derived.Test.YtihegdjdgklbgaaRuneA
namespace Go.Proofs.Ytihegdjdgklbgaa
set_option maxRecDepth 100000
open Go.RowKit

theorem cget_is (w : World) (b : Nat) (g : List Int) (h : Gm w b g) (i : Int) (h0 : 0 ≤ i) (h1 : i ≤ 31) :
    Calls Try.prog 91 #[.pointer (some ⟨b, 0, none⟩), .int .i64 i] w fun e w' => e = .returned (.int .i32 (getN g i)) ∧ w' = w := by
  obtain ⟨c, f⟩ := h.at_ h0 h1
  clear h
  go_enter Try.func91, Try.ntmps91
  go_wp2_with fail
  go_ret
  exact ⟨rfl, rfl⟩
theorem cset_is (w : World) (b : Nat) (g : List Int) (h : Gm w b g) (i v : Int) (h0 : 0 ≤ i) (h1 : i ≤ 31) :
    Calls Try.prog 92 #[.pointer (some ⟨b, 0, none⟩), .int .i64 i, .int .i32 v] w fun e w' => e = .returned (.tuple #[]) ∧ w' = w.setCell ⟨b, i.toNat, none⟩ (.int .i32 v) := by
  obtain ⟨c, f⟩ := h.at_ h0 h1
  clear h
  go_enter Try.func92, Try.ntmps92
  go_wp2_with fail
  go_end0
  exact ⟨rfl, rfl⟩
/-- A Mem: an interface value over a game in block b. -/
structure MemI (T b : Nat) (G S : FuncId) : Prop where
  gm : ∀ f w, (method (f + 1) T (.pointer (some ⟨b, 0, none⟩)) "Get").run Try.prog w = .ok (G, .pointer (some ⟨b, 0, none⟩)) w
  sm : ∀ f w, (method (f + 1) T (.pointer (some ⟨b, 0, none⟩)) "Set").run Try.prog w = .ok (S, .pointer (some ⟨b, 0, none⟩)) w
  ge : ∀ x w, (callFunc G #[.pointer (some ⟨b, 0, none⟩), x]).run Try.prog w = .ok (.enter G #[.pointer (some ⟨b, 0, none⟩), x]) w
  se : ∀ x y w, (callFunc S #[.pointer (some ⟨b, 0, none⟩), x, y]).run Try.prog w = .ok (.enter S #[.pointer (some ⟨b, 0, none⟩), x, y]) w
  gc : ∀ w g i, Gm w b g → 0 ≤ i → i ≤ 31 → Calls Try.prog G #[.pointer (some ⟨b, 0, none⟩), .int .i64 i] w fun e w' => e = .returned (.int .i32 (getN g i)) ∧ w' = w
  sc : ∀ w g i v, Gm w b g → 0 ≤ i → i ≤ 31 → Calls Try.prog S #[.pointer (some ⟨b, 0, none⟩), .int .i64 i, .int .i32 v] w fun e w' => e = .returned (.tuple #[]) ∧ w' = w.setCell ⟨b, i.toNat, none⟩ (.int .i32 v)
theorem memI_cells (b : Nat) : MemI 77 b 91 92 := {
  gm := fun f w => by kernel_rfl
  sm := fun f w => by kernel_rfl
  ge := fun x w => by kernel_rfl
  se := fun x y w => by kernel_rfl
  gc := fun w g i h h0 h1 => cget_is w b g h i h0 h1
  sc := fun w g i v h h0 h1 => cset_is w b g h i v h0 h1 }
end Go.Proofs.Ytihegdjdgklbgaa
