/- A game of a list of numbers; one frame of the law's own. -/
import Derived.Test.YtihegdjdgklbgaaVmV
import Derived.Test.YtihegdjdgklbgaaNumS
import Derived.Test.YtihegdjdgklbgaaRow
namespace Go.Proofs.Ytihegdjdgklbgaa
set_option maxRecDepth 100000
open Go.RowKit
set_option linter.unusedVariables false

/-- The first k numbers of a list, and noughts. -/
def ofK (zs : List Int) (k : Nat) : List Int := zs.take k ++ List.replicate (32 - k) 0
def ofL (zs : List Int) : List Int := ofK zs (min zs.length 32)
theorem ofK_len {zs : List Int} {k : Nat} (h : k ≤ zs.length) (h2 : k ≤ 32) : (ofK zs k).length = 32 := by simp [ofK]; omega
theorem ofK_succ {zs : List Int} {k : Nat} (h : k < zs.length) (h2 : k < 32) : setN (ofK zs k) (k : Nat) zs[k] = ofK zs (k + 1) := by
  have e : (zs.take k).length = k := by simp; omega
  unfold setN ofK
  rw [Int.toNat_natCast, List.set_append_right _ _ (by omega), e, Nat.sub_self, List.take_succ_eq_append_getElem h, List.append_assoc]
  obtain ⟨m, hm⟩ : ∃ m, 32 - k = m + 1 := ⟨31 - k, by omega⟩
  rw [hm, show 32 - (k + 1) = m by omega, List.replicate_succ]
  rfl
theorem ofL_ok {zs : List Int} (h : ∀ z ∈ zs, ok32 z) : okG (ofL zs) := by
  refine ⟨ofK_len (Nat.min_le_left _ _) (Nat.min_le_right _ _), fun x hx => ?_⟩
  rcases List.mem_append.1 hx with h1 | h1
  · exact h x (List.mem_of_mem_take h1)
  · rw [List.eq_of_mem_replicate h1]; simp [ok32]

set_option maxRecDepth 100000 in
set_option maxHeartbeats 2000000 in
theorem of_any (w : World) (A : Option Addr) (n c : Nat) (zs : List Int) (hz : Rd w 1 A n c (zs.map (Value.int .i32))) :
    Calls Try.prog 14 #[.slice A n c] w fun e w' => e = .returned (.agg (gcs (ofL zs))) ∧ Ext w w' := by
  have hn : n = zs.length := by have := hz.1; simpa using this.symm
  have hmx : n ≤ c ∧ c ≤ maxLen := ⟨hz.2.1, hz.2.2.1⟩
  unfold maxLen at hmx
  have Hn := Lib.hid hn
  obtain ⟨L, hL⟩ : ∃ x, ofL zs = x := ⟨_, rfl⟩
  have hL32 : L.length = 32 := by rw [← hL]; exact ofK_len (Nat.min_le_left _ _) (Nat.min_le_right _ _)
  rw [hL]
  have HL := Lib.hid hL
  have HL32 := Lib.hid hL32
  clear hn hL hL32
  go_enter Try.func14, Try.ntmps14
  go_wp2_with fail
  generalize hV : World.alloc (World.alloc w _) _ = V
  have eV : Ext w V := by subst hV; exact (Ext.alloc _ _).trans (Ext.alloc _ _)
  have bR : Blk V w.heap.size 31 zeroG := by subst hV; exact (Blk.new' _ _ (g := zeroG) rfl rfl).ext (Ext.alloc _ _)
  have bG : Gm V (w.heap.size + 1) (ofK zs 0) := by subst hV; exact (Blk.new' _ _ (g := zeroG) rfl (by simp)).gm
  clear hV
  obtain ⟨b, hb⟩ : ∃ b, w.heap.size + 1 = b := ⟨_, rfl⟩
  rw [hb] at bG
  have hb2 : w.heap.size < b := by omega
  have Hb := Lib.hid hb
  clear hb
  rw [Hb.out]
  go_loopw [4] (fun i wr => ∃ k : Nat, i = .int .i64 (k : Nat) ∧ k ≤ zs.length ∧ k ≤ 32 ∧ Gm wr b (ofK zs k) ∧ V.grownBy wr (some b)) (fun i _ => 32 - (intOf i).toNat)
  case atStart => exact ⟨0, rfl, by omega, by omega, bG, World.grownBy.refl _ _⟩
  case round =>
    obtain ⟨k, rfl, hk, hk2, hg, hch⟩ := hrel
    have rR := bR.grown hch (by simp; omega)
    have xR := ext_of_grown_new eV hch (by omega)
    have hzr : Rd wr 1 A n c (zs.map (Value.int .i32)) := Rd.grownP (hz.ext eV) hch (fun h a ha => by have := Rd.lt hz (by omega) a ha; simp; omega)
    by_cases hlt : k < n ∧ k < 32
    · obtain ⟨h1, h2⟩ := hlt
      have hkl : k < zs.length := by have := Hn.out; omega
      obtain ⟨zb, zo, rfl, u, hu, hc⟩ := hzr.at_ h1
      rw [List.getElem?_map, List.getElem?_eq_getElem hkl] at hu
      obtain rfl : Value.int .i32 zs[k] = u := by simpa using hu
      have Hs := Lib.hid (ofK_succ hkl h2)
      obtain ⟨sc, sf⟩ := hg.at_ (i := (k : Nat)) (by omega) (by omega)
      rw [Int.toNat_natCast] at sc sf
      have hgs := hg.set_ (i := (k : Nat)) (by omega) (by omega) zs[k]
      rw [Int.toNat_natCast, Hs.out] at hgs
      have hd1 : decide (k < n) = true := decide_eq_true h1
      have hd2 : decide ((k : Int) < 32) = true := decide_eq_true (by omega)
      clear hu Hs
      generalize zs[k] = z at *
      go_wp2_with fail
      go_roundw
      case rel => exact ⟨k + 1, by go_num, hkl, by omega, hgs, hch.trans (grown_setG _ b _ _)⟩
      case measure => simp [intOf]; omega
    · have hk3 : k = min zs.length 32 := by have := Hn.out; omega
      have hgL : Gm wr b L := by rw [← HL.out]; unfold ofL; rw [← hk3]; exact hg
      have Hk3 := Lib.hid hk3
      by_cases h1 : k < n
      · have hd1 : decide (k < n) = true := decide_eq_true h1
        have hd2 : decide ((k : Int) < 32) = false := decide_eq_false (by omega)
        clear hk3 hlt
        go_wp2_with (first
          | (with_reducible refine wpList_load_gm rfl 31 (.tmp 3) rfl rfl Try.underlying31 size_state hgL ?_)
          | (with_reducible refine wpList_store_blk rfl 31 (.tmp 2) (.tmp 21) rfl rfl rfl rR HL32.out size_state ?_))
        exact bodyPost_ret (v := .agg (gcs L)) (result_gm rfl _ rfl (rR.setRow HL32.out).gm Try.underlying31 size_state) rfl ⟨rfl, xR.setRow (by omega) _⟩
      · have hd1 : decide (k < n) = false := decide_eq_false h1
        clear hk3 hlt
        go_wp2_with (first
          | (with_reducible refine wpList_load_gm rfl 31 (.tmp 3) rfl rfl Try.underlying31 size_state hgL ?_)
          | (with_reducible refine wpList_store_blk rfl 31 (.tmp 2) (.tmp 21) rfl rfl rfl rR HL32.out size_state ?_))
        exact bodyPost_ret (v := .agg (gcs L)) (result_gm rfl _ rfl (rR.setRow HL32.out).gm Try.underlying31 size_state) rfl ⟨rfl, xR.setRow (by omega) _⟩
end Go.Proofs.Ytihegdjdgklbgaa
