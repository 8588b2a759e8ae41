/- Law 5's begun and tells; the walk of CodeAny. -/
import Derived.Test.YtehelhennbcboaaCodD2
import Derived.Test.YtehelhennbcboaaCodR
import Derived.Test.YtehelhennbcboaaCodQ
import Derived.Test.YtehelhennbcboaaNumS
namespace Go.Proofs.Ytehelhennbcboaa
open Go.RowKit

theorem encode_yes (w : World) (t : List UInt8) (A : Option Addr) (n c : Nat) (l : List OpT) (hl : Ro w A n c l) (hf : formL t l = true) :
    Calls Try.prog 20 #[pAgg t A n c] w fun r w' => ∃ g m d, r = .returned (.slice (some ⟨g, 0, none⟩) m d) ∧ Own w' w.heap.size 5 1 (some ⟨g, 0, none⟩) m d (bcs (encB t l)) ∧ m = (encB t l).length ∧ Ext w w' := by
  refine (encode_any w t A n c l (by have := (form_lens hf).2.2; omega) hl).mono ?_
  rintro r w' (⟨h, _⟩ | ⟨_, g, m, d, rfl, ho, e⟩)
  · rw [hf] at h; cases h
  · exact ⟨g, m, d, rfl, ho, by have := ho.len; rw [bcs_length] at this; omega, e⟩
theorem encode_no (w : World) (t : List UInt8) (A : Option Addr) (n c : Nat) (l : List OpT) (ht : t.length ≤ 1099511627776) (hl : Ro w A n c l) (hf : formL t l = false) :
    Calls Try.prog 20 #[pAgg t A n c] w fun r w' => r = .returned (.slice none 0 0) ∧ Ext w w' := by
  refine (encode_any w t A n c l ht hl).mono ?_
  rintro r w' (⟨_, h⟩ | ⟨h, _⟩)
  · exact h
  · rw [hf] at h; cases h
theorem rencode_yes (w : World) (t : List UInt8) (A : Option Addr) (n c : Nat) (l : List OpT) (hl : Ro w A n c l) (hf : formL t l = true) :
    Calls Try.prog 21 #[pAgg t A n c] w fun r w' => ∃ g m d, r = .returned (.slice (some ⟨g, 0, none⟩) m d) ∧ Own w' w.heap.size 5 1 (some ⟨g, 0, none⟩) m d (bcs (encB t l)) ∧ m = (encB t l).length ∧ Ext w w' := by
  refine (rencode_any w t A n c l (by have := (form_lens hf).2.2; omega) hl).mono ?_
  rintro r w' (⟨h, _⟩ | ⟨_, g, m, d, rfl, ho, e⟩)
  · rw [hf] at h; cases h
  · exact ⟨g, m, d, rfl, ho, by have := ho.len; rw [bcs_length] at this; omega, e⟩
theorem rencode_no (w : World) (t : List UInt8) (A : Option Addr) (n c : Nat) (l : List OpT) (ht : t.length ≤ 1099511627776) (hl : Ro w A n c l) (hf : formL t l = false) :
    Calls Try.prog 21 #[pAgg t A n c] w fun r w' => r = .returned (.slice none 0 0) ∧ Ext w w' := by
  refine (rencode_any w t A n c l ht hl).mono ?_
  rintro r w' (⟨_, h⟩ | ⟨h, _⟩)
  · exact h
  · rw [hf] at h; cases h
theorem decode_yes (w : World) (A : Option Addr) (n c : Nat) (b : List UInt8) (hr : Rb w A n c b) {t : List UInt8} {l : List OpT} (hd : decB b = some (t, l)) :
    Calls Try.prog 22 #[.slice A n c] w fun r w' => ∃ B m d, r = .returned (.tuple #[pAgg t B m d, .int .i64 0]) ∧ Own w' w.heap.size 30 4 B m d (opcs l) ∧ Ext w w' := by
  refine (cdecode_any w A n c b hr).mono ?_
  rintro r w' (⟨h, _⟩ | ⟨t', l', h, B, m, d, rfl, ho, e⟩)
  · rw [hd] at h; cases h
  · rw [hd] at h
    injection h with h
    injection h with h1 h2
    subst h1 h2
    exact ⟨B, m, d, rfl, ho, e⟩
theorem decode_no (w : World) (A : Option Addr) (n c : Nat) (b : List UInt8) (hr : Rb w A n c b) (hd : decB b = none) :
    Calls Try.prog 22 #[.slice A n c] w fun r w' => r = .returned (.tuple #[pAgg [] none 0 0, .int .i64 1]) ∧ Ext w w' := by
  refine (cdecode_any w A n c b hr).mono ?_
  rintro r w' (⟨_, h⟩ | ⟨t', l', h, _⟩)
  · exact h
  · rw [hd] at h; cases h

def one5 : List OpT := [(0, 0, 0, 0)]
set_option maxRecDepth 100000 in
set_option maxHeartbeats 2000000 in
theorem begun5_any (w : World) : Calls Try.prog 19 #[] w (Yes w) := by
  have hf : formL [116] one5 = true := by decide
  have henc := fun W A h => encode_yes W [116] A 1 1 one5 h hf
  have hno := fun W => encode_no W [] none 0 0 [] (by decide) (Ro.nil_ W) (by decide)
  have hl7 : (encB [116] one5).length = 7 := by decide
  have hdec := fun W A n c h => decode_yes W A n c (encB [116] one5) h (dec_enc hf)
  unfold pAgg at henc hno hdec
  have Henc := Lib.hid henc
  have Hno := Lib.hid hno
  have Hdec := Lib.hid hdec
  have Hl7 := Lib.hid hl7
  clear henc hno hdec hf hl7
  go_enter Try.func19, Try.ntmps19
  go_wp2_with fail
  generalize hW0 : World.alloc (World.alloc w _) _ = W0
  have x0 : Ext w W0 := by subst hW0; exact (Ext.alloc _ _).trans (Ext.alloc _ _)
  have hp : Ro W0 (some ⟨w.heap.size, 0, none⟩) 1 1 one5 := by subst hW0; exact (ro_new rfl rfl rfl (by decide)).ext (Ext.alloc _ _)
  have c0 : W0.cell? ⟨w.heap.size + 1, 0, none⟩ = some (.string { data := #[116] }) := by subst hW0; go_simp
  have c1 : W0.cell? ⟨w.heap.size + 1, 1, none⟩ = some (.slice (some ⟨w.heap.size, 0, none⟩) 1 1) := by subst hW0; go_simp
  clear hW0
  refine (Henc.out _ _ hp).mono ?_
  rintro e w1 ⟨g, m, d, rfl, ho, hm, e1⟩
  rw [Hl7.out] at hm
  subst hm
  have d0 := e1.cell c0
  have d1 := e1.cell c1
  have x1 := x0.trans e1
  have hp1 := hp.ext e1
  clear c0 c1 e1 hp
  go_wp2_with fail
  refine (Hdec.out _ _ _ _ (Rb.of ho.rd rfl)).mono ?_
  rintro e w2 ⟨B, bm, bd, rfl, ho2, e2⟩
  have c0 := e2.cell d0
  have c1 := e2.cell d1
  have x2 := x1.trans e2
  have hp2 := hp1.ext e2
  clear d0 d1 e2 hp1
  have hbm : bm = 1 := by have := ho2.len; rw [opcs_length] at this; exact (show one5.length = bm by omega).symm
  subst hbm
  have hsz2 : w.heap.size + 1 < w2.heap.size := World.block_lt_of_cell? w2 _ c0
  go_wp2_with fail
  generalize hW3 : World.alloc w2 _ = W3
  have x3 : Ext w W3 := by subst hW3; exact x2.trans (Ext.alloc _ _)
  have hp3 : Ro W3 (some ⟨w.heap.size, 0, none⟩) 1 1 one5 := by subst hW3; exact hp2.ext (Ext.alloc _ _)
  have hq3 : Ro W3 B 1 bd one5 := by subst hW3; exact ho2.rd.ext (Ext.alloc _ _)
  have k0 : W3.cell? ⟨w.heap.size + 1, 0, none⟩ = some (.string { data := #[116] }) := by subst hW3; exact (Ext.alloc _ _).cell c0
  have k1 : W3.cell? ⟨w.heap.size + 1, 1, none⟩ = some (.slice (some ⟨w.heap.size, 0, none⟩) 1 1) := by subst hW3; exact (Ext.alloc _ _).cell c1
  clear hW3 c0 c1 hp2 x2
  have he1 := Lib.hid (eq_is W3 [116] (some ⟨w.heap.size, 0, none⟩) 1 1 one5 [116] B 1 bd one5 hp3 hq3 (r := true) (by decide))
  unfold pAgg at he1
  refine Calls.mono he1.out ?_
  rintro e w4 ⟨rfl, e4⟩
  have d0 := e4.cell k0
  have d1 := e4.cell k1
  have x4 := x3.trans e4
  have he2 := Lib.hid (eq_is w4 [116] (some ⟨w.heap.size, 0, none⟩) 1 1 one5 [] none 0 0 [] (hp3.ext e4) (Ro.nil_ _) (r := false) (by decide))
  unfold pAgg at he2
  clear k0 k1
  go_wp2_with fail
  refine Calls.mono he2.out ?_
  rintro e w5 ⟨rfl, e5⟩
  clear d0 d1
  go_wp2_with fail
  refine (Hno.out _).mono ?_
  rintro e w6 ⟨rfl, e6⟩
  go_wp2_with fail
  go_ret
  exact ⟨rfl, (x4.trans e5).trans e6⟩

set_option maxRecDepth 100000 in
set_option maxHeartbeats 2000000 in
theorem tells_any (w : World) (A : Option Addr) (n c : Nat) (b : List UInt8) (hr : Rb w A n c b) : Calls Try.prog 25 #[.slice A n c] w (Yes w) := by
  cases hd : decB b with
  | none =>
    have hdec := decode_no w A n c b hr hd
    unfold pAgg at hdec
    have Hdec := Lib.hid hdec
    clear hdec hd
    go_enter Try.func25, Try.ntmps25
    go_wp2_with fail
    refine Calls.mono Hdec.out ?_
    rintro e w1 ⟨rfl, e1⟩
    go_wp2_with fail
    go_ret
    exact ⟨rfl, e1.trans (Ext.alloc _ _)⟩
  | some p =>
    obtain ⟨t, l⟩ := p
    obtain ⟨hf, he⟩ := dec_iff.1 hd
    have hdec := decode_yes w A n c b hr hd
    have henc := fun W A m d h => rencode_yes W t A m d l h hf
    unfold pAgg at hdec henc
    have Hdec := Lib.hid hdec
    have Henc := Lib.hid henc
    have He := Lib.hid he
    have hcb := fun W (h : Ext w W) => run_string_of (P := Try.prog) W 36 9 5 Try.underlying36 Try.underlying5 Try.underlying9 A n c b (hr.ext h)
    have Hcb := Lib.hid hcb
    clear hdec henc hd hf he hcb
    go_enter Try.func25, Try.ntmps25
    go_wp2_with fail
    refine Calls.mono Hdec.out ?_
    rintro e w1 ⟨B, m, d, rfl, ho, e1⟩
    go_wp2_with fail
    generalize hW1 : World.alloc w1 _ = W1
    have x1 : Ext w W1 := by subst hW1; exact e1.trans (Ext.alloc _ _)
    have hp1 : Ro W1 B m d l := by subst hW1; exact ho.rd.ext (Ext.alloc _ _)
    have k0 : W1.cell? ⟨w1.heap.size, 0, none⟩ = some (.string (bs t)) := by subst hW1; go_simp
    have k1 : W1.cell? ⟨w1.heap.size, 1, none⟩ = some (.slice B m d) := by subst hW1; go_simp
    clear hW1
    apply wp_region_lex (R := Ext) (by kernel_rfl) (by kernel_rfl) Ext.refl (fun _ _ _ => Ext.trans) (Ext.drew _)
    apply lex_ex (u := .agg #[.string (bs t), .slice B m d]) Ext.refl
    · rfl
    · intro W hR hΦ
      have q0 := hR.cell k0
      have q1 := hR.cell k1
      go_simp
      first | done | with_reducible rfl
    simp only [Act.put, List.setIfInBounds_toArray, List.set_cons_zero, List.set_cons_succ]
    apply lex_call (p := SlB b) (SlB.stab b)
    · rfl
    · intro W
      go_simp
      exact ⟨rfl, rfl⟩
    · intro W hR hΦ
      refine (Henc.out W _ _ _ (hp1.ext hR)).mono ?_
      rintro e W' ⟨g, gm, gd, rfl, ho', _, e'⟩
      exact ⟨_, rfl, e', _, gm, gd, rfl, Rb.of ho'.rd (by rw [He.out])⟩
    intro v
    simp only [Act.put, List.setIfInBounds_toArray, List.set_cons_zero, List.set_cons_succ]
    apply lex_ex (u := .string (bs b)) Ext.refl
    · rfl
    · intro W hR hΦ
      obtain ⟨Y, Ym, Yd, rfl, hY⟩ := hΦ.1 rfl
      have hc := run_string_of (P := Try.prog) W 36 9 5 Try.underlying36 Try.underlying5 Try.underlying9 _ _ _ _ hY
      go_simp
      first | done | with_reducible rfl
    simp only [Act.put, List.setIfInBounds_toArray, List.set_cons_zero, List.set_cons_succ]
    repeat
      apply lex_ex Ext.refl
      · rfl
      · intro W hR hΦ
        have hc := Hcb.out W (x1.trans hR)
        go_simp
        first | done | with_reducible rfl
      simp only [Act.put, List.setIfInBounds_toArray, List.set_cons_zero, List.set_cons_succ]
    refine lex_nil ?_
    intro W hR _
    go_wp2_with fail
    go_ret
    exact ⟨rfl, x1.trans hR⟩

set_option maxHeartbeats 1000000 in
theorem any_walk (w : World) (A : Option Addr) (n c : Nat) (b : List UInt8) (hr : Rb w A n c b) : Calls Try.prog 9 #[.slice A n c] w (Yes w) := by
  have hmx := hr.max
  have hsh := fun W => short_any A n c 100 W hmx
  have hr2 := hr.take (Nat.min_le_left n 100)
  have Hsh := Lib.hid hsh
  clear hsh
  go_enter Try.func9, Try.ntmps9
  go_wp2_with fail
  refine (begun5_any w).mono ?_
  rintro e w1 ⟨rfl, e1⟩
  go_wp2_with fail
  refine (Hsh.out _).mono ?_
  rintro e w2 ⟨rfl, rfl⟩
  go_wp2_with fail
  refine (tells_any w1 _ _ _ _ (hr2.ext e1)).mono ?_
  rintro e w3 ⟨rfl, e3⟩
  go_wp2_with fail
  go_ret
  exact ⟨rfl, e1.trans e3⟩
end Go.Proofs.Ytehelhennbcboaa
