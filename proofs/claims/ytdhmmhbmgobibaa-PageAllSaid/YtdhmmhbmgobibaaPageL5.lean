/- The walk of the law PageAll. Printed by wip/gen/mkpa2.py. -/
import Derived.Test.YtdhmmhbmgobibaaPageAB
namespace Go.Proofs.Ytdhmmhbmgobibaa
open Go.RowKit
set_option linter.unusedVariables false
set_option maxRecDepth 100000 in
set_option maxHeartbeats 40000000 in
theorem all_walk (w : World) (n : Int) (n0 : -9223372036854775808 ≤ n) (n1 : n ≤ 9223372036854775807) (OA : Option Addr) (on oc : Nat) (l : List OpG) (ho : Rog w OA on oc l) :
    Calls Try.prog 3 #[.int .i64 n, .slice OA on oc] w (Yes w) := by
  obtain ⟨x, hx12, hxn, hxc⟩ : ∃ x : Int, x ≤ 12 ∧ -9223372036854775808 ≤ x ∧ (x = if 12 < n then 12 else n) := ⟨if 12 < n then 12 else n, by split <;> omega, by split <;> omega, rfl⟩
  have Hxc := Lib.hid hxc
  have HO := Lib.hid ho
  have hon := ho.len
  have hoc : on ≤ oc ∧ oc ≤ maxLen := ⟨ho.1.2.1, ho.1.2.2.1⟩
  unfold maxLen at hoc
  have Hon := Lib.hid hon
  clear hxc ho hon
  obtain ⟨i, hi, hz0, hz1, hz2⟩ := info_parts info_sheet
  go_enter Try.func3, Try.ntmps3
  go_wp2_with fail
  refine (begun_any w).mono ?_
  rintro e w1 ⟨rfl, e1⟩
  go_upto_if 23 with fail
  go_cut [0] from 22 (fun s0 wx => s0 = .int .i64 x ∧ wx = w1)
  case first =>
    as_aux_lemma =>
      by_cases h12 : 12 < n
      · have hx := Hxc.out
        rw [if_pos h12] at hx
        subst hx
        go_wp2_with fail
        go_meet
        case rel => exact ⟨rfl, rfl⟩
      · have hx := Hxc.out
        rw [if_neg h12] at hx
        subst hx
        go_wp2_with fail
        go_meet
        case rel => exact ⟨rfl, rfl⟩
  case rest =>
    obtain ⟨rfl, rfl⟩ := hcut
    obtain ⟨N, hxN, hN⟩ : ∃ N : Nat, (x ≤ 0 ∧ N = 0 ∨ x = N) ∧ N ≤ 12 := ⟨x.toNat, by omega, by omega⟩
    go_wp2_with fail
    refine (new_any wc x N hxN (by omega)).mono ?_
    rintro e w2 ⟨b, g, rfl, hb, hg, e2, hr2⟩
    have hmk : ∀ W : World, (Instr.makeSlice 26 (.int .i64 ((N : Int) + 1)) (.int .i64 ((N : Int) + 1))).run Try.prog W = .ok (.slice (some ⟨W.heap.size, 0, none⟩) (N + 1) (N + 1)) (W.alloc (.cells (madeCells sheetz ((N + 1) * 9)) 31)) := by
      intro W
      have h := run_make (P := Try.prog) W 26 31 i _ Try.underlying26 hi hz0 .i64 .i64 ((N : Int) + 1) ((N : Int) + 1) (by omega) (Int.le_refl _) (by rw [hz2]; omega) (by omega)
      rw [hz1] at h
      exact h
    have Hmk := Lib.hid hmk
    clear hmk
    go_upto_region 7 with fail
    go_cut [7] from 26 (fun s7 wx => ∃ lb : Nat, s7 = .slice (some ⟨lb, 0, none⟩) (N + 1) (N + 1) ∧ Sheets wx lb N (fun _ => 0) (fun _ _ => 0) ∧ w2.heap.size ≤ lb ∧ Ext w2 wx)
    case first =>
      as_aux_lemma =>
        by_cases hp : 0 < x
        · obtain rfl : x = N := by omega
          have hm := Hmk.out
          have hm2 : max (0 : Int) (N : Int) = (N : Int) := by omega
          go_wp2_with fail
          go_meet
          case rel => exact ⟨_, rfl, sheets_made _ _, Nat.le_refl _, Ext.alloc _ _⟩
        · obtain rfl : N = 0 := by omega
          have hm := Hmk.out
          simp only [Int.natCast_zero, Int.zero_add, Nat.zero_add] at hm
          have hm2 : max (0 : Int) x = 0 := by omega
          go_wp2_with fail
          all_goals go_meet
          all_goals exact ⟨_, rfl, sheets_made _ 0, Nat.le_refl _, Ext.alloc _ _⟩
    case rest =>
      obtain ⟨lb, rfl, hsh, hlb, e3⟩ := hcut
      have hbl : b < w2.heap.size := World.block_lt_of_cell? w2 _ hr2.hd
      have hgl := hr2.lt
      have hbc : b ≠ lb := by omega
      have hgc : g ≠ lb := by omega
      have xw1 := e1.size
      have xw2 := e2.size
      have hwb : w.heap.size ≤ b := Nat.le_trans xw1 hb
      have hwg : w.heap.size ≤ g := Nat.le_trans xw1 hg
      have hwl : w.heap.size ≤ lb := by omega
      have xc := (e1.trans e2).trans e3
      have hr3 := hr2.ext e3
      have hsl := hsh.lt
      clear hr2 e1 e2 e3 hbl hgl hlb xw1 xw2 hb hg Hmk hi hz0 hz1 hz2 i hxN Hxc n0 n1
      go_wp2_with fail
      go_loopw [8] (fun iv wr => paRel w b g lb N on iv wr) (fun iv _ => 60 - (intOf iv).toNat)
      case atStart => exact ⟨0, _, _, rfl, by omega, by omega, hr3, hsh, fun k hk => by simp, xc⟩
      case round =>
        obtain ⟨i, rf, vs, rfl, hi1, hi2, hr, hs, hbd, he⟩ := hrel
        have HR := Lib.hid hr
        have HS := Lib.hid hs
        have Hbd := Lib.hid hbd
        clear hr hs hbd hr3 hsh xc
        by_cases hgu : i < on ∧ i < 60
        · have hd1 : decide (i < on) = true := decide_eq_true hgu.1
          have hd2 : decide (i < 60) = true := decide_eq_true hgu.2
          have hd3 : decide ((i : Int) < 60) = true := decide_eq_true (by omega)
          have hil : i < l.length := by have := Hon.out; omega
          have hio : i < on := hgu.1
          have hi60 : i < 60 := hgu.2
          have hix : (0 : Int) ≤ (i : Int) ∧ (i : Int) < (on : Int) := by omega
          obtain ⟨ob, oo, rfl, k0, k1, k2, k3⟩ := HO.out.at_ hil
          have hok := HO.out.2 _ (List.getElem_mem hil)
          generalize l[i] = op at *
          obtain ⟨kd, pg, pl, va⟩ := op
          obtain ⟨hkd, hpg, hpl, hva⟩ := hok
          simp only at k0 k1 k2 k3 hkd hpg hpl hva
          have k0 := he.cell k0
          have k1 := he.cell k1
          have k2 := he.cell k2
          have k3 := he.cell k3
          clear hgu
          go_upto_region 12 with fail
          generalize hV0 : World.alloc wr _ = V0
          have eV : Ext wr V0 := by subst hV0; exact Ext.alloc _ _
          have t0 : V0.cell? ⟨wr.heap.size, 0, none⟩ = some (.int .i64 kd) := by subst hV0; go_simp
          have t1 : V0.cell? ⟨wr.heap.size, 1, none⟩ = some (.int .i64 pg) := by subst hV0; go_simp
          have t2 : V0.cell? ⟨wr.heap.size, 2, none⟩ = some (.int .i64 pl) := by subst hV0; go_simp
          have t3 : V0.cell? ⟨wr.heap.size, 3, none⟩ = some (.int .i32 va) := by subst hV0; go_simp
          clear hV0 k0 k1 k2 k3
          have xV := he.trans eV
          have HRw := HR
          have HSw := HS
          have HR := Lib.hid (HR.out.ext eV)
          have HS := Lib.hid (HS.out.ext eV)
          have htb : wr.heap.size ≠ lb := by have := HSw.out.lt; omega
          have htg' : wr.heap.size ≠ g := by have := HRw.out.lt; omega
          generalize wr.heap.size = tb at *
          have htg : tb ≠ g := htg'
          clear eV he HRw HSw htg'
          obtain ⟨F, hF⟩ : ∃ F : Bool, (F = true ∧ ∃ k, Found N rf pg k) ∨ (F = false ∧ Lost N rf pg) := by
            rcases found_or (n := N) rf pg with h | h
            · exact ⟨true, .inl ⟨rfl, h⟩⟩
            · exact ⟨false, .inr ⟨rfl, h⟩⟩
          have HF := Lib.hid hF
          clear hF
          go_cut [10] (fun s10 wx => s10 = .bool F ∧ wx = V0)
          case first =>
            as_aux_lemma =>
              have hF := HF.out
              by_cases p1 : 1 ≤ pg
              · have d1 : decide (1 ≤ pg) = true := decide_eq_true p1
                obtain ⟨p, rfl⟩ := Int.eq_ofNat_of_zero_le (show 0 ≤ pg by omega)
                by_cases p2 : p ≤ N
                · have d2 : decide ((p : Int) < (N : Int) + 1) = true := decide_eq_true (by omega)
                  have d2' : decide (p < N + 1) = true := decide_eq_true (by omega)
                  have d2'' : decide (p ≤ N) = true := decide_eq_true p2
                  have c0 := HS.out.refs p p2
                  have hpx : (0 : Int) ≤ (p : Int) ∧ (p : Int) < (N : Int) + 1 := by omega
                  have hpx2 : p < N + 1 := by omega
                  have hFr : decide (0 < sr rf p) = F := by
                    rcases hF with ⟨rfl, k, hk, hpk, hne⟩ | ⟨rfl, hl⟩
                    · obtain rfl : p = k + 1 := by omega
                      have := (Hbd.out k hk).1
                      exact decide_eq_true (by show 0 < rf k; omega)
                    · rcases hl with hl | hl | ⟨k, hk, hpk, h0⟩
                      · omega
                      · omega
                      · obtain rfl : p = k + 1 := by omega
                        exact decide_eq_false (by show ¬ 0 < rf k; omega)
                  generalize sr rf p = r at *
                  have d1' : decide (1 ≤ p) = true := decide_eq_true (by omega)
                  clear hF p1 p2
                  go_wp2_with fail
                  go_meet
                  case rel => exact ⟨by rw [← hFr], rfl⟩
                · have d2 : decide ((p : Int) < (N : Int) + 1) = false := decide_eq_false (by omega)
                  have d2' : decide (p < N + 1) = false := decide_eq_false (by omega)
                  have d2'' : decide (p ≤ N) = false := decide_eq_false p2
                  have d1' : decide (1 ≤ p) = true := decide_eq_true (by omega)
                  have hFr : false = F := by
                    rcases hF with ⟨rfl, k, hk, hpk, hne⟩ | ⟨rfl, hl⟩
                    · omega
                    · rfl
                  have HFr := Lib.hid hFr
                  clear hF p1 p2 hFr
                  go_wp2_with fail
                  go_meet
                  case rel => exact ⟨by rw [← HFr.out], rfl⟩
              · have d1 : decide (1 ≤ pg) = false := decide_eq_false p1
                have hFr : false = F := by
                  rcases hF with ⟨rfl, k, hk, hpk, hne⟩ | ⟨rfl, hl⟩
                  · omega
                  · rfl
                have HFr := Lib.hid hFr
                clear hF p1 hFr
                go_wp2_with fail
                go_meet
                case rel => exact ⟨by rw [← HFr.out], rfl⟩
          case rest =>
            obtain ⟨rfl, rfl⟩ := hcut
            clear hkd hpl hva
            go_wp2_with fail
            go_loopw [11, 12] (fun fv kv wr2 => pfRel wc N rf fv kv wr2) (fun _ kv _ => (intOf kv).toNat)
            case atStart => exact ⟨N, 0, rfl, by go_num, by omega, .inl ⟨rfl, fun j h1 h2 => by omega⟩, rfl⟩
            case round =>
              obtain ⟨m, fr, rfl, rfl, hm, hfa, rfl⟩ := hrel
              have Hfa := Lib.hid hfa
              clear hfa
              cases m with
              | succ q =>
                as_aux_lemma =>
                  have c0 := HS.out.refs (q + 1) hm
                  have hqx : (0 : Int) ≤ ((q + 1 : Nat) : Int) ∧ ((q + 1 : Nat) : Int) < (N : Int) + 1 := by omega
                  have hq1 : decide (1 ≤ q + 1) = true := decide_eq_true (by omega)
                  have hq2 : decide ((1 : Int) ≤ ((q + 1 : Nat) : Int)) = true := decide_eq_true (by omega)
                  have hqn : q + 1 < N + 1 := by omega
                  have hqn2 : q < N := by omega
                  change wr.cell? ⟨lb, (q + 1) * 9, none⟩ = some (.int .i64 (rf q)) at c0
                  by_cases h0 : rf q = 0
                  · have hz : (rf q == 0) = true := by rw [beq_iff_eq]; exact h0
                    go_wp2_with fail
                    go_roundw
                    case rel => exact ⟨q, q + 1, rfl, rfl, by omega, .inr ⟨q, by omega, by omega, rfl, h0, fun i h1 h2 => by omega⟩, rfl⟩
                    case measure => simp [intOf]
                  · have hz : (rf q == 0) = false := by rw [beq_eq_false_iff_ne]; exact h0
                    go_wp2_with fail
                    go_roundw
                    case rel =>
                      refine ⟨q, fr, rfl, rfl, by omega, ?_, rfl⟩
                      rcases Hfa.out with ⟨h1, h2⟩ | ⟨j, h1, h2, h3, h4, h5⟩
                      · exact .inl ⟨h1, fun j h3 h4 => by
                          by_cases e : j = q
                          · subst e; exact h0
                          · exact h2 j (by omega) h4⟩
                      · exact .inr ⟨j, by omega, h2, h3, h4, fun i h6 h7 => by
                          by_cases e : i = q
                          · subst e; exact h0
                          · exact h5 i (by omega) h7⟩
                    case measure => simp [intOf]
              | zero =>
                go_upto_block 4 with fail
                go_cut [] (fun wx => PaOut w b g lb N i wx)
                case first =>
                  rename_i J K' h1 h2
                  have hC : PaCx w wr b g lb N i fr tb rf vs kd pg pl va := ⟨HR.out, HS.out, Hbd.out, xV, t0, t1, t2, t3, htb, htg, hbc, hgc, hwb, hwg, hwl, hi60, hN, hpg⟩
                  as_aux_lemma => exact sw_all hC Hfa.out HF.out h2 (by intro v4 v13 v14 v15 v16 v17 v18 v79 v80 v81 v82 v83 v84 v85 v86 v87 v88 v89 v90 v91 v92 v93 v94 v95 v96 v97 v98 v99 v100 v101 v102 v103 v104 v105 v106 v107 v108 v109 v110 v111 v112 v113 v114 v115 v116 v117 v118 v119 v120 v121 v122 v123 v124 v125 v126 v127 v128 v129 v130 v131 v132 v133 v134 v135 v136 v137 v138 v139 v140 v141 v142 v143 v144 v145 v146 v147 v148 v149 v150 v151 v152 v153 v154 v155 v156 v157 v158 v159 v160 v161 v162 v163 v164 v165 v166 v167 v168 v169 v170 v171 v172 v173 v174 v175 v176 v177 v178 v179 v180 v181 v182 v183 v184 v185 v186 v187 v188 v189 v190 v191 v192 v193 v194 v195 v196 v197 v198 v199 v200 v201 v202 v203 v204 v205 v206 v207 v208 v209 v210 v211 v212 v213 v214 v215 v216 v217 wx h; apply h1; (repeat apply Exists.intro); exact ⟨h, rfl⟩)
                case rest =>
                  obtain ⟨rf', vs', hRz, hSz, hBz, xz⟩ := hcut
                  have HRz := Lib.hid hRz
                  have HSz := Lib.hid hSz
                  have HBz := Lib.hid hBz
                  clear hRz hSz hBz
                  go_wp2_with fail
                  refine Calls.mono (same_any HRz.out HSz.out (fun k hk => (HBz.out k hk).1)) ?_
                  rintro e w9 ⟨rfl, e9⟩
                  go_wp2_with fail
                  go_roundw
                  case rel => exact ⟨i + 1, _, _, by go_num, hio, by omega, HRz.out.ext e9, HSz.out.ext e9, HBz.out, xz.trans e9⟩
                  case measure => simp [intOf]; omega
        · have hsame := same_any HR.out HS.out (fun k hk => (Hbd.out k hk).1)
          have Hsame := Lib.hid hsame
          clear hsame
          by_cases hg1 : i < on
          · have hd1 : decide (i < on) = true := decide_eq_true hg1
            have hd2 : decide (i < 60) = false := decide_eq_false (fun h => hgu ⟨hg1, h⟩)
            have hd3 : decide ((i : Int) < 60) = false := decide_eq_false (fun h => hgu ⟨hg1, by omega⟩)
            go_wp2_with fail
            refine Calls.mono Hsame.out ?_
            rintro e w9 ⟨rfl, e9⟩
            go_wp2_with fail
            go_ret
            exact ⟨rfl, he.trans e9⟩
          · have hd1 : decide (i < on) = false := decide_eq_false hg1
            go_wp2_with fail
            refine Calls.mono Hsame.out ?_
            rintro e w9 ⟨rfl, e9⟩
            go_wp2_with fail
            go_ret
            exact ⟨rfl, he.trans e9⟩
end Go.Proofs.Ytdhmmhbmgobibaa
