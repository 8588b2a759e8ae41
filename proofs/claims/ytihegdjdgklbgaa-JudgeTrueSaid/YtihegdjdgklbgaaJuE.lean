/- The walks of word.Put, the reference's Four and Bytes, state.Encode, bytes.Equal, slices.EqualFunc at presses. -/
import Derived.Test.YtihegdjdgklbgaaFoB
namespace Go.Proofs.Ytihegdjdgklbgaa
set_option maxRecDepth 100000
open Go.RowKit
set_option linter.unusedVariables false

/-- A number of 32 bits as an unsigned one. -/
def uns (x : Int) : Nat := (x % 4294967296).toNat
theorem uns_lt (x : Int) : uns x < 4294967296 := by unfold uns; omega
theorem uns_conv (x : Int) : IntKind.u32.wrap x = (uns x : Nat) := by
  have : IntKind.u32.wrap x = x % 4294967296 := by rfl
  rw [this]; unfold uns; omega
theorem four_cells (n : Nat) (h : n < 4294967296) : bcs (fourL n) = [.int .u8 (↑n / 16777216), .int .u8 (↑n / 65536 % 256), .int .u8 (↑n / 256 % 256), .int .u8 (↑n % 256)] := by
  simp only [bcs, fourL, List.map_cons, List.map_nil]
  rw [toNat_ofNat8 (by omega), toNat_ofNat8 (by omega), toNat_ofNat8 (by omega), toNat_ofNat8 (by omega)]
  simp
set_option maxHeartbeats 400000 in
theorem rfour_any (n : Nat) (w : World) (h : n < 4294967296) :
    Calls Try.prog 37 #[.int .u32 (n : Nat)] w (Made w 5 1 (bcs (fourL n))) := by
  go_enter Try.func37, Try.ntmps37
  go_wp2_with fail
  go_ret
  refine ⟨_, _, _, rfl, ?_, Ext.alloc _ _⟩
  rw [four_cells n h]
  exact Own.made w _ _ 1 _ 4 (Nat.le_refl _) (by decide) rfl
set_option maxHeartbeats 400000 in
theorem put32_any (x : Int) (w : World) (hx : ok32 x) :
    Calls Try.prog 47 #[.int .i32 x] w (Made w 5 1 (bcs (fourL (uns x)))) := by
  have hu := uns_conv x
  have h := uns_lt x
  generalize uns x = n at *
  go_enter Try.func47, Try.ntmps47
  go_wp2_with fail
  go_ret
  refine ⟨_, _, _, rfl, ?_, Ext.alloc _ _⟩
  rw [four_cells n h]
  exact Own.made w _ _ 1 _ 4 (Nat.le_refl _) (by decide) rfl
/-- A game's bytes. -/
def gameL (g : List Int) : List UInt8 := g.flatMap fun x => fourL (uns x)
theorem bytes_eq (w : World) (A : Option Addr) (n c : Nat) (a : List UInt8) (B : Option Addr) (m d : Nat) (b : List UInt8) (ha : Rb w A n c a) (hb : Rb w B m d b) :
    Calls Try.prog 39 #[.slice A n c, .slice B m d] w fun e w' => e = .returned (.bool (a == b)) ∧ w' = w := by
  have h1 := fun W => run_string_of (P := Try.prog) W 43 9 5 Try.underlying43 Try.underlying5 Try.underlying9 A n c a
  have h2 := fun W => run_string_of (P := Try.prog) W 43 9 5 Try.underlying43 Try.underlying5 Try.underlying9 B m d b
  have k1 := h1 w ha
  have k2 := h2 w hb
  clear h1 h2
  go_enter Try.func39, Try.ntmps39
  go_wp2_with fail
  go_ret
  exact ⟨rfl, rfl⟩
theorem gameL_take {g : List Int} {k : Nat} (h : k < g.length) : gameL (g.take (k + 1)) = gameL (g.take k) ++ fourL (uns (g.getD k 0)) := by
  unfold gameL
  rw [List.take_succ_eq_append_getElem h, List.flatMap_append]
  simp [List.getD, List.getElem?_eq_getElem h]
theorem gameL_len : ∀ (g : List Int), (gameL g).length = 4 * g.length
  | [] => rfl
  | x :: g => by
    have h := gameL_len g
    unfold gameL at h ⊢
    rw [List.flatMap_cons, List.length_append, h, List.length_cons]
    simp [fourL]; omega
def GOf (w : World) (g : List Int) (e : Ending) (w' : World) : Prop := ∃ B d, e = .returned (.slice B 128 d) ∧ Rb w' B 128 d (gameL g) ∧ Ext w w'
def gbRel (w : World) (T : TypeId) (g : List Int) (v iv : Value) (wr : World) : Prop :=
  ∃ (k : Nat) (B : Option Addr) (d : Nat), v = .slice B (4 * k) d ∧ iv = .int .i64 (k : Nat) ∧ k ≤ 32 ∧ Own wr (w.heap.size + 1) 5 1 B (4 * k) d (bcs (gameL (g.take k))) ∧ Blk wr w.heap.size T g ∧ Ext w wr
set_option maxHeartbeats 2000000 in
theorem rbytes_any (w : World) (g : List Int) (hok : okG g) : Calls Try.prog 22 #[.agg (gcs g)] w (GOf w g) := by
  have hg := hok.1
  obtain ⟨i0, hi, hz0, hz1, hz2⟩ := info_parts info_u8
  go_enter Try.func22, Try.ntmps22
  go_wp2_with fail
  go_loopw [3, 4] (fun v iv wr => gbRel w 33 g v iv wr) (fun _ iv _ => 32 - (intOf iv).toNat)
  case atStart => exact ⟨0, none, 0, rfl, rfl, by omega, Own.nil_ _ _ _ _, Blk.new' _ _ hg (by simp), Ext.alloc _ _⟩
  case round =>
    obtain ⟨k, B, d, rfl, rfl, hk, ho, hb, he⟩ := hrel
    by_cases hlt : k < 32
    · have hd : decide (k < 32) = true := decide_eq_true hlt
      have hd2 : decide ((k : Int) < 32) = true := decide_eq_true (by omega)
      have hc := (hb.gm.2 k hlt).1
      have htk := gameL_take (g := g) (k := k) (by omega)
      have hu := uns_conv (g.getD k 0)
      have hul := uns_lt (g.getD k 0)
      generalize g.getD k 0 = x at *
      generalize uns x = n at *
      have Htk := Lib.hid htk
      clear htk
      have hix : (0 : Int) ≤ (k : Int) ∧ (k : Int) < 32 := by omega
      go_wp2_with fail
      refine (rfour_any n wr hul).mono ?_
      rintro e w2 ⟨B2, m2, d2, rfl, ho2, e2⟩
      have hm2 : m2 = 4 := by have := ho2.len; simp at this; rw [bcs_length] at this; simp [fourL] at this; omega
      subst hm2
      have hoo := ho.ext e2
      have hbb := hb.ext e2
      have hsz := he.size
      have hsz2 := e2.size
      have hbl := hb.lt
      clear ho hb hc hu
      go_wp2_with (at_builtin; refine wpList_append_to _ rfl _ _ 43 rfl (w.heap.size + 1) 5 i0 (.int .u8 0) 1 1 Try.underlying43 hi hz0 hz1 hz2 rfl (by decide) B (4 * k) d _ rfl hoo B2 4 d2 _ rfl ho2.rd (bcs_one _) (by unfold maxLen; omega) (by omega) (by omega) ?_; intro B' d' w' ho' hg' hw')
      have hne : blk B ≠ some w.heap.size := fun e => by have := hoo.blk_ge _ e; omega
      go_roundw
      case rel =>
        refine ⟨k + 1, B', d', by rw [Nat.mul_add], by go_num, hlt, ?_, hbb.grown hg' hne, Ext.own (he.trans e2) hg' (fun j hj => by have := hoo.blk_ge j hj; omega)⟩
        rw [Htk.out, bcs_append, Nat.mul_add]; exact ho'
      case measure => simp [intOf]; omega
    · have hd : decide (k < 32) = false := decide_eq_false hlt
      have hd2 : decide ((k : Int) < 32) = false := decide_eq_false (by omega)
      obtain rfl : k = 32 := by omega
      rw [List.take_of_length_le (by omega)] at ho
      have Ho := Lib.hid ho
      clear ho
      go_wp2_with fail
      go_ret
      exact ⟨B, d, rfl, Rb.of Ho.out.rd rfl, he⟩

theorem index_game (W : World) {g : List Int} (hg : g.length = 32) {k : Nat} (hk : k < 32) : (Instr.index 31 (.agg (gcs g)) (.int .i64 (k : Nat))).run Try.prog W = .ok (.int .i32 (g.getD k 0)) W := by
  have hc : (gcs g)[k]? = some (.int .i32 (g.getD k 0)) := gcs_at (by omega)
  have hs : (sizeOf 21).run Try.prog W = .ok 1 W := by kernel_rfl
  unfold Instr.index
  simp [asIntOf, Sem.run_bind, run_underlying Try.underlying31, hs, part, hc]
  intro h; omega
set_option maxHeartbeats 2000000 in
theorem sencode_any (w : World) (g : List Int) (hok : okG g) : Calls Try.prog 40 #[.agg (gcs g)] w (GOf w g) := by
  have hg := hok.1
  obtain ⟨i0, hi, hz0, hz1, hz2⟩ := info_parts info_u8
  have hidx := fun W k h => index_game W hg (k := k) h
  have Hidx := Lib.hid hidx
  clear hidx
  go_enter Try.func40, Try.ntmps40
  go_wp2_with ((with_reducible refine wpList_load_gm rfl 31 (.tmp 1) rfl rfl Try.underlying31 size_state (g := g) ?hg ?_); case hg => exact (Blk.new' _ _ hg (by simp)).gm)
  go_loopw [3, 7] (fun v iv wr => gbRel w 31 g v iv wr) (fun _ iv _ => 32 - (intOf iv).toNat)
  case atStart => exact ⟨0, none, 0, rfl, rfl, by omega, Own.nil_ _ _ _ _, Blk.new' _ _ hg (by simp), Ext.alloc _ _⟩
  case round =>
    obtain ⟨k, B, d, rfl, rfl, hk, ho, hb, he⟩ := hrel
    by_cases hlt : k < 32
    · have hd : decide (k < 32) = true := decide_eq_true hlt
      have hd2 : decide ((k : Int) < 32) = true := decide_eq_true (by omega)
      have hix := fun W => Hidx.out W k hlt
      have htk := gameL_take (g := g) (k := k) (by omega)
      have hxk : ok32 (g.getD k 0) := by
        rw [List.getD_eq_getElem?_getD, List.getElem?_eq_getElem (by omega)]
        exact hok.2 _ (List.getElem_mem (by omega))
      have hul := uns_lt (g.getD k 0)
      generalize g.getD k 0 = x at *
      have Htk := Lib.hid htk
      clear htk
      go_wp2_with fail
      refine (put32_any x wr hxk).mono ?_
      rintro e w2 ⟨B2, m2, d2, rfl, ho2, e2⟩
      have hm2 : m2 = 4 := by have := ho2.len; simp at this; rw [bcs_length] at this; simp [fourL] at this; omega
      subst hm2
      have hoo := ho.ext e2
      have hbb := hb.ext e2
      have hsz := he.size
      have hsz2 := e2.size
      have hbl := hb.lt
      clear ho hb
      go_wp2_with (at_builtin; refine wpList_append_to _ rfl _ _ 43 rfl (w.heap.size + 1) 5 i0 (.int .u8 0) 1 1 Try.underlying43 hi hz0 hz1 hz2 rfl (by decide) B (4 * k) d _ rfl hoo B2 4 d2 _ rfl ho2.rd (bcs_one _) (by unfold maxLen; omega) (by omega) (by omega) ?_; intro B' d' w' ho' hg' hw')
      have hne : blk B ≠ some w.heap.size := fun e => by have := hoo.blk_ge _ e; omega
      go_roundw
      case rel =>
        refine ⟨k + 1, B', d', by rw [Nat.mul_add], by go_num, hlt, ?_, hbb.grown hg' hne, Ext.own (he.trans e2) hg' (fun j hj => by have := hoo.blk_ge j hj; omega)⟩
        rw [Htk.out, bcs_append, Nat.mul_add]; exact ho'
      case measure => simp [intOf]; omega
    · have hd : decide (k < 32) = false := decide_eq_false hlt
      have hd2 : decide ((k : Int) < 32) = false := decide_eq_false (by omega)
      obtain rfl : k = 32 := by omega
      rw [List.take_of_length_le (by omega)] at ho
      have Ho := Lib.hid ho
      clear ho
      go_wp2_with fail
      go_ret
      exact ⟨B, d, rfl, Rb.of Ho.out.rd rfl, he⟩
/-- slices.EqualFunc at presses, each by bytes.Equal. -/
def efRel (w : World) (a b : List (List UInt8)) (iv : Value) (wr : World) : Prop := ∃ k : Nat, iv = .int .i64 (k : Nat) ∧ k ≤ a.length ∧ a.take k = b.take k ∧ wr = w
set_option maxHeartbeats 2000000 in
theorem equalfunc_any (w : World) (A : Option Addr) (n c : Nat) (a : List (List UInt8)) (B : Option Addr) (m d : Nat) (b : List (List UInt8)) (ha : Rp w A n c a) (hb : Rp w B m d b) :
    Calls Try.prog 48 #[.slice A n c, .slice B m d, .func (.func 39) #[] #[]] w fun e w' => e = .returned (.bool (a == b)) ∧ w' = w := by
  have hn := ha.len
  have hm := hb.len
  have hmx := ha.max
  have hmx2 := hb.max
  unfold maxLen at hmx hmx2
  by_cases hnm : n = m
  · have hq : ((n : Int) != (m : Int)) = false := by rw [hnm]; simp
    have Hn := Lib.hid hn
    have Hm := Lib.hid hm
    have Hnm := Lib.hid hnm
    clear hn hm hnm
    go_enter Try.func48, Try.ntmps48
    go_wp2_with fail
    go_loopw [17] (fun iv wr => efRel w a b iv wr) (fun iv _ => a.length - (intOf iv).toNat)
    case atStart => exact ⟨0, rfl, by omega, by simp, rfl⟩
    case round =>
      obtain ⟨k, rfl, hk, htk, rfl⟩ := hrel
      have h1 := Hn.out
      have h2 := Hm.out
      have h3 := Hnm.out
      by_cases hlt : k < n
      · have hd : decide (k < n) = true := decide_eq_true hlt
        have hka : k < a.length := by omega
        have hkb : k < b.length := by omega
        obtain ⟨ba, oa, Ai, ni, ci, rfl, hca, hra⟩ := ha.at_ hka
        obtain ⟨bb, ob, Bi, mi, di, rfl, hcb, hrb⟩ := hb.at_ hkb
        have hlt2 : k < m := by omega
        have hix2 : (0 : Int) ≤ (k : Int) ∧ (k : Int) < (m : Int) := by omega
        have htake : a[k] = b[k] → a.take (k + 1) = b.take (k + 1) := fun e => by rw [List.take_succ_eq_append_getElem hka, List.take_succ_eq_append_getElem hkb, htk, e]
        have hne : a[k] ≠ b[k] → (a == b) = false := fun e => beq_eq_false_iff_ne.2 (fun e2 => e (by subst e2; rfl))
        have Htake := Lib.hid htake
        have Hne := Lib.hid hne
        have hbe := fun W h1 h2 => bytes_eq W Ai ni ci (a[k]'hka) Bi mi di (b[k]'hkb) h1 h2
        have Hbe := Lib.hid hbe
        clear htake hne hbe htk h1 h2 h3
        generalize a[k] = x at *
        generalize b[k] = y at *
        go_wp2_with fail
        refine (Hbe.out _ hra hrb).mono ?_
        rintro e w1 ⟨rfl, rfl⟩
        cases hxy : x == y
        · have hf := Hne.out (beq_eq_false_iff_ne.1 hxy)
          have Hf := Lib.hid hf
          clear hf
          go_wp2_with fail
          go_ret
          exact ⟨by rw [Hf.out]; rfl, rfl⟩
        · have ht := Htake.out (beq_iff_eq.1 hxy)
          have Ht := Lib.hid ht
          clear ht
          go_wp2_with fail
          go_roundw
          case rel => exact ⟨k + 1, by go_num, hka, Ht.out, rfl⟩
          case measure => simp [intOf]; omega
      · have hd : decide (k < n) = false := decide_eq_false hlt
        have hab : (a == b) = true := by
          rw [beq_iff_eq]
          rw [List.take_of_length_le (by omega), List.take_of_length_le (by omega)] at htk
          exact htk
        have Hab := Lib.hid hab
        clear htk hab h1 h2 h3
        go_wp2_with fail
        go_ret
        exact ⟨by rw [Hab.out]; rfl, rfl⟩
  · have hq : ((n : Int) != (m : Int)) = true := by rw [bne_iff_ne]; omega
    have hab : (a == b) = false := beq_eq_false_iff_ne.2 (fun e => hnm (by rw [hn, hm, e]))
    rw [hab]
    clear hn hm hab
    go_enter Try.func48, Try.ntmps48
    go_wp2_with fail
    go_ret
    exact ⟨rfl, rfl⟩
end Go.Proofs.Ytihegdjdgklbgaa
