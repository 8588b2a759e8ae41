/- A way through the switch of PageAll. Printed by wip/gen/mkpa2.py. -/
import Derived.Test.YtdhmmhbmgobibaaPageA
namespace Go.Proofs.Ytdhmmhbmgobibaa
open Go.RowKit
set_option linter.unusedVariables false
set_option maxRecDepth 100000 in
set_option maxHeartbeats 4000000 in
theorem way4sf {J K : Act → World → Prop} {Q' : Exit → Act → World → Prop} {u0 u1 u2 u3 u4 u5 u8 u12 u13 u14 u15 u16 u17 u18 u19 u20 u21 u22 u23 u24 u25 u26 u27 u28 u29 u30 u31 u32 u33 u34 u35 u36 u37 u38 u39 u40 u41 u42 u43 u44 u45 u46 u47 u48 u49 u50 u51 u52 u53 u54 u55 u56 u57 u58 u59 u60 u61 u62 u63 u64 u65 u66 u67 u68 u69 u70 u71 u72 u73 u74 u75 u76 u77 u79 u80 u81 u82 u83 u84 u85 u86 u87 u88 u89 u90 u91 u92 u93 u94 u95 u96 u97 u98 u99 u100 u101 u102 u103 u104 u105 u106 u107 u108 u109 u110 u111 u112 u113 u114 u115 u116 u117 u118 u119 u120 u121 u122 u123 u124 u125 u126 u127 u128 u129 u130 u131 u132 u133 u134 u135 u136 u137 u138 u139 u140 u141 u142 u143 u144 u145 u146 u147 u148 u149 u150 u151 u152 u153 u154 u155 u156 u157 u158 u159 u160 u161 u162 u163 u164 u165 u166 u167 u168 u169 u170 u171 u172 u173 u174 u175 u176 u177 u178 u179 u180 u181 u182 u183 u184 u185 u186 u187 u188 u189 u190 u191 u192 u193 u194 u195 u196 u197 u198 u199 u200 u201 u202 u203 u204 u205 u206 u207 u208 u209 u210 u211 u212 u213 u214 u215 u216 u217 u218 u219 u220 u221 u222 u223 u224 : Value} {w wr : World} {b g lb N i fr tb : Nat} {rf : Nat → Int} {vs : Nat → Nat → Int} {pg pl va : Int} {F : Bool}
    (C : PaCx w wr b g lb N i fr tb rf vs 4 pg pl va) (hsome : ∃ j, 0 ≤ j ∧ j < N ∧ fr = j + 1 ∧ rf j = 0 ∧ ∀ i, 0 ≤ i → i < j → rf i ≠ 0) (hFt : F = true) (hfk : ∃ k, Found N rf pg k)
    (hK : ∀ a' w', Met J a' w' → K a' w')
    (hJ : ∀ (v4 v13 v14 v15 v16 v17 v18 v79 v80 v81 v82 v83 v84 v85 v86 v87 v88 v89 v90 v91 v92 v93 v94 v95 v96 v97 v98 v99 v100 v101 v102 v103 v104 v105 v106 v107 v108 v109 v110 v111 v112 v113 v114 v115 v116 v117 v118 v119 v120 v121 v122 v123 v124 v125 v126 v127 v128 v129 v130 v131 v132 v133 v134 v135 v136 v137 v138 v139 v140 v141 v142 v143 v144 v145 v146 v147 v148 v149 v150 v151 v152 v153 v154 v155 v156 v157 v158 v159 v160 v161 v162 v163 v164 v165 v166 v167 v168 v169 v170 v171 v172 v173 v174 v175 v176 v177 v178 v179 v180 v181 v182 v183 v184 v185 v186 v187 v188 v189 v190 v191 v192 v193 v194 v195 v196 v197 v198 v199 v200 v201 v202 v203 v204 v205 v206 v207 v208 v209 v210 v211 v212 v213 v214 v215 v216 v217 : Value) (wx : World), PaOut w b g lb N i wx → J ⟨#[u0, u1, u2, u3, v4, u5, .pointer (some ⟨b, 0, none⟩), .slice (some ⟨lb, 0, none⟩) (N + 1) (N + 1), u8, .pointer (some ⟨tb, 0, none⟩), .bool F, .int .i64 (fr : Nat), u12, v13, v14, v15, v16, v17, v18, u19, u20, u21, u22, u23, u24, u25, u26, u27, u28, u29, u30, u31, u32, u33, u34, u35, u36, u37, u38, u39, u40, u41, u42, u43, u44, u45, u46, u47, u48, u49, u50, u51, u52, u53, u54, u55, u56, u57, u58, u59, u60, u61, u62, u63, u64, u65, u66, u67, u68, u69, u70, u71, u72, u73, u74, u75, u76, u77, .int .i64 4, v79, v80, v81, v82, v83, v84, v85, v86, v87, v88, v89, v90, v91, v92, v93, v94, v95, v96, v97, v98, v99, v100, v101, v102, v103, v104, v105, v106, v107, v108, v109, v110, v111, v112, v113, v114, v115, v116, v117, v118, v119, v120, v121, v122, v123, v124, v125, v126, v127, v128, v129, v130, v131, v132, v133, v134, v135, v136, v137, v138, v139, v140, v141, v142, v143, v144, v145, v146, v147, v148, v149, v150, v151, v152, v153, v154, v155, v156, v157, v158, v159, v160, v161, v162, v163, v164, v165, v166, v167, v168, v169, v170, v171, v172, v173, v174, v175, v176, v177, v178, v179, v180, v181, v182, v183, v184, v185, v186, v187, v188, v189, v190, v191, v192, v193, v194, v195, v196, v197, v198, v199, v200, v201, v202, v203, v204, v205, v206, v207, v208, v209, v210, v211, v212, v213, v214, v215, v216, v217, u218, u219, u220, u221, u222, u223, u224], []⟩ wx) :
    Code.wp Try.prog swC (Exit.then K Q') ⟨#[u0, u1, u2, u3, u4, u5, .pointer (some ⟨b, 0, none⟩), .slice (some ⟨lb, 0, none⟩) (N + 1) (N + 1), u8, .pointer (some ⟨tb, 0, none⟩), .bool F, .int .i64 (fr : Nat), u12, u13, u14, u15, u16, u17, u18, u19, u20, u21, u22, u23, u24, u25, u26, u27, u28, u29, u30, u31, u32, u33, u34, u35, u36, u37, u38, u39, u40, u41, u42, u43, u44, u45, u46, u47, u48, u49, u50, u51, u52, u53, u54, u55, u56, u57, u58, u59, u60, u61, u62, u63, u64, u65, u66, u67, u68, u69, u70, u71, u72, u73, u74, u75, u76, u77, .int .i64 4, u79, u80, u81, u82, u83, u84, u85, u86, u87, u88, u89, u90, u91, u92, u93, u94, u95, u96, u97, u98, u99, u100, u101, u102, u103, u104, u105, u106, u107, u108, u109, u110, u111, u112, u113, u114, u115, u116, u117, u118, u119, u120, u121, u122, u123, u124, u125, u126, u127, u128, u129, u130, u131, u132, u133, u134, u135, u136, u137, u138, u139, u140, u141, u142, u143, u144, u145, u146, u147, u148, u149, u150, u151, u152, u153, u154, u155, u156, u157, u158, u159, u160, u161, u162, u163, u164, u165, u166, u167, u168, u169, u170, u171, u172, u173, u174, u175, u176, u177, u178, u179, u180, u181, u182, u183, u184, u185, u186, u187, u188, u189, u190, u191, u192, u193, u194, u195, u196, u197, u198, u199, u200, u201, u202, u203, u204, u205, u206, u207, u208, u209, u210, u211, u212, u213, u214, u215, u216, u217, u218, u219, u220, u221, u222, u223, u224], []⟩ wr := by
  have HR := Lib.hid C.hr
  have HS := Lib.hid C.hs
  have Hbd := Lib.hid C.hbd
  have xV := C.xV
  have t0 := C.t0
  have t1 := C.t1
  have t2 := C.t2
  have t3 := C.t3
  have htb := C.htb
  have htg := C.htg
  have hbc := C.hbc
  have hgc := C.hgc
  have hwb := C.hwb
  have hwg := C.hwg
  have hwl := C.hwl
  have hi60 := C.hi60
  have hN := C.hN
  have hpg := C.hpg
  clear C
  have HJ := Lib.hid hJ
  clear hJ
  conv => arg 2; whnf
  subst hFt
  obtain ⟨k, hf⟩ := hfk
  obtain ⟨j, _, hj, hfrj, hj0, hall⟩ := hsome
  have hall' : ∀ i, i < j → rf i ≠ 0 := fun i h => hall i (by omega) h
  have hq : fr ≤ N := by omega
  have Hqj := Lib.hid hfrj
  have hcast : (j : Int) + 1 = (fr : Int) := by omega
  have hq0 : decide (0 < fr) = true := decide_eq_true (by omega)
  have hq0' : decide ((0 : Int) < (fr : Int)) = true := decide_eq_true (by omega)
  clear hfrj
  obtain ⟨hk, hpk, hne⟩ := id hf
  obtain ⟨p, rfl, hpp⟩ : ∃ p : Nat, pg = (p : Int) ∧ p = k + 1 := ⟨k + 1, by omega, rfl⟩
  have hpN : p ≤ N := by omega
  have Hpp := Lib.hid hpp
  have hpx : (0 : Int) ≤ (p : Int) ∧ (p : Int) < (N : Int) + 1 := by omega
  have hpx2 : p < N + 1 := by omega
  have hbk := Hbd.out k hk
  clear hpk hpp
  have ta0 := (Ext.alloc wr (.cells #[.int .i32 0, .int .i32 0, .int .i32 0, .int .i32 0, .int .i32 0, .int .i32 0, .int .i32 0, .int .i32 0] 29)).cell t0
  have ta1 := (Ext.alloc wr (.cells #[.int .i32 0, .int .i32 0, .int .i32 0, .int .i32 0, .int .i32 0, .int .i32 0, .int .i32 0, .int .i32 0] 29)).cell t1
  have ta2 := (Ext.alloc wr (.cells #[.int .i32 0, .int .i32 0, .int .i32 0, .int .i32 0, .int .i32 0, .int .i32 0, .int .i32 0, .int .i32 0] 29)).cell t2
  have ta3 := (Ext.alloc wr (.cells #[.int .i32 0, .int .i32 0, .int .i32 0, .int .i32 0, .int .i32 0, .int .i32 0, .int .i32 0, .int .i32 0] 29)).cell t3
  go_wp2_with fail
  clear ta0 ta1 ta2 ta3
  have xV0 := xV
  have HR0 := HR
  generalize hV1 : World.alloc wr _ = V1
  have eV1 : Ext wr V1 := by subst hV1; exact Ext.alloc _ _
  have htbv : wr.heap.size ≠ tb := by have h : tb < wr.heap.size := World.block_lt_of_cell? wr _ t0; omega
  have htv : wr.heap.size ≠ g := by have := HR.out.lt; omega
  have htw : wr.heap.size ≠ lb := by have := HS.out.lt; omega
  have z0 : V1.cell? ⟨wr.heap.size, 0, none⟩ = some (.int .i32 0) := by subst hV1; go_simp
  have z1 : V1.cell? ⟨wr.heap.size, 1, none⟩ = some (.int .i32 0) := by subst hV1; go_simp
  have z2 : V1.cell? ⟨wr.heap.size, 2, none⟩ = some (.int .i32 0) := by subst hV1; go_simp
  have z3 : V1.cell? ⟨wr.heap.size, 3, none⟩ = some (.int .i32 0) := by subst hV1; go_simp
  have z4 : V1.cell? ⟨wr.heap.size, 4, none⟩ = some (.int .i32 0) := by subst hV1; go_simp
  have z5 : V1.cell? ⟨wr.heap.size, 5, none⟩ = some (.int .i32 0) := by subst hV1; go_simp
  have z6 : V1.cell? ⟨wr.heap.size, 6, none⟩ = some (.int .i32 0) := by subst hV1; go_simp
  have z7 : V1.cell? ⟨wr.heap.size, 7, none⟩ = some (.int .i32 0) := by subst hV1; go_simp
  have zf0 : V1.frozen? ⟨wr.heap.size, 0, none⟩ = false := by subst hV1; go_simp
  have zf1 : V1.frozen? ⟨wr.heap.size, 1, none⟩ = false := by subst hV1; go_simp
  have zf2 : V1.frozen? ⟨wr.heap.size, 2, none⟩ = false := by subst hV1; go_simp
  have zf3 : V1.frozen? ⟨wr.heap.size, 3, none⟩ = false := by subst hV1; go_simp
  have zf4 : V1.frozen? ⟨wr.heap.size, 4, none⟩ = false := by subst hV1; go_simp
  have zf5 : V1.frozen? ⟨wr.heap.size, 5, none⟩ = false := by subst hV1; go_simp
  have zf6 : V1.frozen? ⟨wr.heap.size, 6, none⟩ = false := by subst hV1; go_simp
  have zf7 : V1.frozen? ⟨wr.heap.size, 7, none⟩ = false := by subst hV1; go_simp
  clear hV1
  have t0 := eV1.cell t0
  have t1 := eV1.cell t1
  have t2 := eV1.cell t2
  have t3 := eV1.cell t3
  have xV := xV.trans eV1
  have HR := Lib.hid (HR.out.ext eV1)
  have HS := Lib.hid (HS.out.ext eV1)
  have hwt : w.heap.size ≤ wr.heap.size := xV0.size
  have htvb : wr.heap.size ≠ b := by have h : b < wr.heap.size := World.block_lt_of_cell? wr _ HR0.out.hd; omega
  clear xV0 HR0
  have htvl : wr.heap.size < V1.heap.size := World.block_lt_of_cell? V1 _ z0
  clear eV1
  generalize wr.heap.size = tv at *
  have hT := copy_yes HR.out hf hj hj0 hall'
  rw [hcast] at hT
  refine hT.mono ?_
  rintro e w6 ⟨rfl, hR6, g6⟩
  have t0 := g6.cell t0 (by simp; omega)
  have t1 := g6.cell t1 (by simp; omega)
  have t2 := g6.cell t2 (by simp; omega)
  have t3 := g6.cell t3 (by simp; omega)
  have z0 := g6.cell z0 (by simp; omega)
  have z1 := g6.cell z1 (by simp; omega)
  have z2 := g6.cell z2 (by simp; omega)
  have z3 := g6.cell z3 (by simp; omega)
  have z4 := g6.cell z4 (by simp; omega)
  have z5 := g6.cell z5 (by simp; omega)
  have z6 := g6.cell z6 (by simp; omega)
  have z7 := g6.cell z7 (by simp; omega)
  have hS6 := HS.out.keep g6 hgc
  have HS6 := Lib.hid hS6
  have HR6 := Lib.hid hR6
  have x6 := Ext.room xV g6 hwg
  clear hS6 hR6
  have zf0 : w6.frozen? ⟨tv, 0, none⟩ = false := by rw [← zf0]; exact frozen_grown g6 htvl (by simp; omega)
  have zf1 : w6.frozen? ⟨tv, 1, none⟩ = false := by rw [← zf1]; exact frozen_grown g6 htvl (by simp; omega)
  have zf2 : w6.frozen? ⟨tv, 2, none⟩ = false := by rw [← zf2]; exact frozen_grown g6 htvl (by simp; omega)
  have zf3 : w6.frozen? ⟨tv, 3, none⟩ = false := by rw [← zf3]; exact frozen_grown g6 htvl (by simp; omega)
  have zf4 : w6.frozen? ⟨tv, 4, none⟩ = false := by rw [← zf4]; exact frozen_grown g6 htvl (by simp; omega)
  have zf5 : w6.frozen? ⟨tv, 5, none⟩ = false := by rw [← zf5]; exact frozen_grown g6 htvl (by simp; omega)
  have zf6 : w6.frozen? ⟨tv, 6, none⟩ = false := by rw [← zf6]; exact frozen_grown g6 htvl (by simp; omega)
  have zf7 : w6.frozen? ⟨tv, 7, none⟩ = false := by rw [← zf7]; exact frozen_grown g6 htvl (by simp; omega)
  clear hT hcast
  have v0 : w6.cell? ⟨lb, p * 9 + 1, none⟩ = some (.int .i32 (vs k 0)) := by have h := HS6.out.vals p 0 hpN (by decide); rw [Hpp.out] at h ⊢; exact h
  have v1 : w6.cell? ⟨lb, p * 9 + 1 + 1, none⟩ = some (.int .i32 (vs k 1)) := by have h := HS6.out.vals p 1 hpN (by decide); rw [Hpp.out] at h ⊢; exact h
  have v2 : w6.cell? ⟨lb, p * 9 + 1 + 2, none⟩ = some (.int .i32 (vs k 2)) := by have h := HS6.out.vals p 2 hpN (by decide); rw [Hpp.out] at h ⊢; exact h
  have v3 : w6.cell? ⟨lb, p * 9 + 1 + 3, none⟩ = some (.int .i32 (vs k 3)) := by have h := HS6.out.vals p 3 hpN (by decide); rw [Hpp.out] at h ⊢; exact h
  have v4 : w6.cell? ⟨lb, p * 9 + 1 + 4, none⟩ = some (.int .i32 (vs k 4)) := by have h := HS6.out.vals p 4 hpN (by decide); rw [Hpp.out] at h ⊢; exact h
  have v5 : w6.cell? ⟨lb, p * 9 + 1 + 5, none⟩ = some (.int .i32 (vs k 5)) := by have h := HS6.out.vals p 5 hpN (by decide); rw [Hpp.out] at h ⊢; exact h
  have v6 : w6.cell? ⟨lb, p * 9 + 1 + 6, none⟩ = some (.int .i32 (vs k 6)) := by have h := HS6.out.vals p 6 hpN (by decide); rw [Hpp.out] at h ⊢; exact h
  have v7 : w6.cell? ⟨lb, p * 9 + 1 + 7, none⟩ = some (.int .i32 (vs k 7)) := by have h := HS6.out.vals p 7 hpN (by decide); rw [Hpp.out] at h ⊢; exact h
  go_upto_region 36 with fail
  generalize hW7 : World.setCell _ ⟨tv, 7, none⟩ _ = w7
  have g7 : w6.grownBy w7 (some tv) := by
    subst hW7
    repeat refine grown_trans ?_ (grown_set _ _ rfl _)
    exact World.grownBy.refl _ _
  have z0 : w7.cell? ⟨tv, 0, none⟩ = some (.int .i32 (vs k 0)) := by subst hW7; go_simp
  have z1 : w7.cell? ⟨tv, 1, none⟩ = some (.int .i32 (vs k 1)) := by subst hW7; go_simp
  have z2 : w7.cell? ⟨tv, 2, none⟩ = some (.int .i32 (vs k 2)) := by subst hW7; go_simp
  have z3 : w7.cell? ⟨tv, 3, none⟩ = some (.int .i32 (vs k 3)) := by subst hW7; go_simp
  have z4 : w7.cell? ⟨tv, 4, none⟩ = some (.int .i32 (vs k 4)) := by subst hW7; go_simp
  have z5 : w7.cell? ⟨tv, 5, none⟩ = some (.int .i32 (vs k 5)) := by subst hW7; go_simp
  have z6 : w7.cell? ⟨tv, 6, none⟩ = some (.int .i32 (vs k 6)) := by subst hW7; go_simp
  have z7 : w7.cell? ⟨tv, 7, none⟩ = some (.int .i32 (vs k 7)) := by subst hW7; go_simp
  have t0 := g7.cell t0 (by simp; omega)
  have t1 := g7.cell t1 (by simp; omega)
  have t2 := g7.cell t2 (by simp; omega)
  have t3 := g7.cell t3 (by simp; omega)
  have HR6 := Lib.hid (HR6.out.keep g7 (fun e => htvb e.symm) (fun e => htv e.symm))
  have HS6 := Lib.hid (HS6.out.keep g7 htw)
  have x6 := Ext.room x6 g7 hwt
  clear hW7 v0 v1 v2 v3 v4 v5 v6 v7
  have c0 := HS6.out.refs fr hq
  have c1 := HS6.out.vals fr 0 hq (by decide)
  have c2 := HS6.out.vals fr 1 hq (by decide)
  have c3 := HS6.out.vals fr 2 hq (by decide)
  have c4 := HS6.out.vals fr 3 hq (by decide)
  have c5 := HS6.out.vals fr 4 hq (by decide)
  have c6 := HS6.out.vals fr 5 hq (by decide)
  have c7 := HS6.out.vals fr 6 hq (by decide)
  have c8 := HS6.out.vals fr 7 hq (by decide)
  simp only [Nat.zero_add, Nat.reduceAdd] at c1 c2 c3 c4 c5 c6 c7 c8
  have hfz := HS6.out.free
  have hqx : (0 : Int) ≤ (fr : Int) ∧ (fr : Int) < (N : Int) + 1 := by omega
  have hqx2 : fr < N + 1 := by omega
  generalize sr rf fr = sq at *
  generalize sv vs fr = uq at *
  go_wp2_with fail
  refine Met.intro (HJ.out _ _ _ _ _ _ _ _ _ _ _ _ _ _ _ _ _ _ _ _ _ _ _ _ _ _ _ _ _ _ _ _ _ _ _ _ _ _ _ _ _ _ _ _ _ _ _ _ _ _ _ _ _ _ _ _ _ _ _ _ _ _ _ _ _ _ _ _ _ _ _ _ _ _ _ _ _ _ _ _ _ _ _ _ _ _ _ _ _ _ _ _ _ _ _ _ _ _ _ _ _ _ _ _ _ _ _ _ _ _ _ _ _ _ _ _ _ _ _ _ _ _ _ _ _ _ _ _ _ _ _ _ _ _ _ _ _ _ _ _ _ _ _ _ _ _ _ ?_)
  generalize hWz : World.setCell _ ⟨lb, fr * 9 + 8, none⟩ _ = Wz
  have gz : w7.grownBy Wz (some lb) := by
    subst hWz
    repeat refine grown_trans ?_ (grown_set _ _ rfl _)
    exact World.grownBy.refl _ _
  have hSz : Sheets Wz lb N (upd rf j 1) (upd vs j (vs k)) := by
    subst hWz
    rw [Hqj.out]
    exact HS6.out.put hj 1 (vs k)
  have hRz := HR6.out.keep gz hbc hgc
  have xz := Ext.room x6 gz hwl
  have hBz : ∀ k, k < N → 0 ≤ upd rf j 1 k ∧ upd rf j 1 k ≤ 1 + ((i + 1 : Nat) : Int) := fun k hk => by
    have := Hbd.out k hk
    by_cases e : k = j
    · subst e; rw [upd_same]; omega
    · rw [upd_other _ _ e]; omega
  exact ⟨_, _, hRz, hSz, hBz, xz⟩
end Go.Proofs.Ytdhmmhbmgobibaa
