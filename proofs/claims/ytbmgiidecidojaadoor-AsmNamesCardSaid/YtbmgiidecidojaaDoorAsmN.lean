/- Bytes of a call's own whose row may bear the run-time's mark behind its last cell ('[]byte(s)'): append to them; strconv.AppendInt behind them. -/
import Derived.Test.YtbmgiidecidojaaDoorAsmO
import Derived.Test.YtbmgiidecidojaaDoorShelf
import Derived.Lib.AppendIntMem
import Derived.Lib.LaidTab
import Derived.Lib.ItoaNum
import Derived.Lib.ItoaMem
import Derived.Lib.ItoaWalk
import Derived.Lib.Slices
import Derived.Laws.IdiomStrings
import Derived.CellFam
import Derived.BigCall
import Derived.BigGuard
namespace Go.Proofs.YtbmgiidecidojaaDoor
open Go.RowKit
section
variable {P : Program}
/-- A row of the call's own; none of its cells is frozen. -/
def OwnM (w : World) (base : Nat) (e : TypeId) (A : Option Addr) (n c : Nat) (xs : List Value) : Prop :=
  xs.length = n ∧ ∃ g cur fz, A = some ⟨g, 0, none⟩ ∧ base ≤ g ∧ w.heap[g]? = some (.cells cur e fz) ∧ (∀ k, k < cur.size → ¬ (fz.1 ≤ k ∧ k < fz.2)) ∧ n ≤ c ∧ c ≤ maxLen ∧ cur.size = c ∧ cur.toList.take n = xs
theorem OwnM.of {w : World} {base : Nat} {e : TypeId} {A : Option Addr} {n c : Nat} {xs : List Value} (h : Own w base e 1 A n c xs) (hA : A ≠ none) : OwnM w base e A n c xs := by
  refine ⟨by simpa using h.1, ?_⟩
  rcases h.2 with ⟨hv, _⟩ | ⟨g, cap, cur, hv, hb, hg, hn, hc, hs, ht⟩
  · injection hv with h1 _ _; exact absurd h1 hA
  · injection hv with h1 _ h3
    subst h3
    exact ⟨g, cur, (0, 0), h1, hb, hg, fun k _ h => by have := h.2; simp at this, hn, hc, by simpa using hs, by simpa using ht⟩
theorem OwnM.ext {w w' : World} {base : Nat} {e : TypeId} {A : Option Addr} {n c : Nat} {xs : List Value} (h : OwnM w base e A n c xs) (he : Ext w w') : OwnM w' base e A n c xs := by
  obtain ⟨h1, g, cur, fz, h2, h3, h4, h5⟩ := h
  exact ⟨h1, g, cur, fz, h2, h3, by rw [he.block g (Array.getElem?_eq_some_iff.1 h4).1]; exact h4, h5⟩
theorem OwnM.cells {w : World} {base : Nat} {e : TypeId} {A : Option Addr} {n c : Nat} {xs : List Value} (h : OwnM w base e A n c xs) {g : Nat} (hA : A = some ⟨g, 0, none⟩) : ∀ j u, xs[j]? = some u → w.cell? ((⟨g, 0, none⟩ : Addr).add j) = some u := by
  obtain ⟨h1, g', cur, fz, h2, h3, h4, h5, h6, h7, h8, h9⟩ := h
  rw [hA] at h2
  cases h2
  intro j u hu
  rw [Addr.add_lit]
  have hj : j < n := by rw [← h1]; exact (List.getElem?_eq_some_iff.1 hu).1
  rw [← h9, List.getElem?_take_of_lt hj] at hu
  simp [World.cell?, h4]
  simpa using hu
theorem OwnM.rd {w : World} {base : Nat} {e : TypeId} {A : Option Addr} {n c : Nat} {xs : List Value} (h : OwnM w base e A n c xs) : Rd w 1 A n c xs := by
  obtain ⟨h1, g, cur, fz, h2, h3, h4, h5, h6, h7, h8, h9⟩ := id h
  refine ⟨by omega, h6, h7, fun _ => ⟨g, 0, h2, fun j u hu => ?_⟩⟩
  have := h.cells h2 j u hu
  rwa [Addr.add_lit] at this
theorem OwnM.ge {w : World} {base : Nat} {e : TypeId} {A : Option Addr} {n c : Nat} {xs : List Value} (h : OwnM w base e A n c xs) : ∀ k, blk A = some k → base ≤ k := by
  obtain ⟨h1, g, cur, fz, h2, h3, -⟩ := h
  intro k hk
  rw [h2] at hk
  cases hk; exact h3
/-- Cells are stored one behind the other, the mark lying behind them all. -/
theorem run_storeCells_M (g o : Nat) (t : TypeId) (fz : Nat × Nat) : ∀ (vs : List Value) (i : Nat) (cur : Array Value) (w : World), w.heap[g]? = some (.cells cur t fz) → (∀ k, k < cur.size → ¬ (fz.1 ≤ k ∧ k < fz.2)) → o + i + vs.length ≤ cur.size → (∀ v ∈ vs, v.oneCell' = true) →
    (storeCells ⟨g, o, none⟩ vs i).run P w = .ok () (w.setRow g (cur.toList.take (o + i) ++ vs ++ cur.toList.drop (o + i + vs.length)).toArray)
  | [], i, cur, w, hg, _, _, _ => by
    simp only [storeCells, List.append_nil, List.length_nil, Nat.add_zero, List.take_append_drop, Array.toArray_toList]
    rw [setRow_self w g cur t fz hg]
    rfl
  | v :: rest, i, cur, w, hg, hfz, hl, h1 => by
    have hi : o + i < cur.size := by simp at hl; omega
    have hadd : (⟨g, o, none⟩ : Addr).add i = ⟨g, o + i, none⟩ := by unfold Addr.add; split <;> simp_all
    have hcell : w.cell? ⟨g, o + i, none⟩ = some cur[o + i] := by simp [World.cell?, hg, hi]
    have hfro : w.frozen? ⟨g, o + i, none⟩ = false := by
      have := hfz (o + i) hi
      obtain ⟨lo, hi'⟩ := fz
      simp only [World.frozen?, hg, Bool.and_eq_false_iff, decide_eq_false_iff_not]
      simp only at this
      omega
    have hst : (store ((⟨g, o, none⟩ : Addr).add i) v).run P w = .ok () (w.setRow g (cur.setIfInBounds (o + i) v)) := by
      rw [hadd, run_store P w _ v _ (h1 v (by simp)), hcell]
      simp [hfro, setCell_eq_setRow w g (o + i) cur t fz v hg]
    have ih := run_storeCells_M g o t fz rest (i + 1) (cur.setIfInBounds (o + i) v) (w.setRow g (cur.setIfInBounds (o + i) v)) (setRow_heap w g cur _ t _ hg) (by simpa using hfz) (by simp at hl ⊢; omega) (fun x hx => h1 x (by simp [hx]))
    simp only [storeCells, Sem.run_bind, hst, Result.andThen_ok, ih, setRow_setRow]
    congr 3
    have e := list_seg_step cur.toList (o + i) v rest (by simp at hl ⊢; omega)
    simpa [Array.toList_setIfInBounds, Nat.add_assoc] using e
/-- Behind an append that had room. -/
theorem OwnM.room {w : World} {base : Nat} {e : TypeId} {n c : Nat} {xs news : List Value} {g : Nat} {cur : Array Value} {fz : Nat × Nat} (h1 : xs.length = n) (h3 : base ≤ g) (h4 : w.heap[g]? = some (.cells cur e fz)) (h5 : ∀ k, k < cur.size → ¬ (fz.1 ≤ k ∧ k < fz.2)) (h7 : c ≤ maxLen) (h8 : cur.size = c) (h9 : cur.toList.take n = xs) (hr : n + news.length ≤ c) :
    OwnM (w.setRow g (cur.toList.take n ++ news ++ cur.toList.drop (n + news.length)).toArray) base e (some ⟨g, 0, none⟩) (n + news.length) c (xs ++ news) ∧ w.grownBy (w.setRow g (cur.toList.take n ++ news ++ cur.toList.drop (n + news.length)).toArray) (some g) := by
  have hlen : (cur.toList.take n ++ news ++ cur.toList.drop (n + news.length)).toArray.size = c := by
    simp only [List.size_toArray, List.length_append, List.length_take, List.length_drop, Array.length_toList]; omega
  refine ⟨⟨by rw [List.length_append, h1], g, _, fz, rfl, h3, setRow_heap w g cur _ e _ h4, by rw [hlen, ← h8]; exact h5, hr, h7, hlen, ?_⟩, ⟨rfl, rfl, rfl, by simp, fun k _ hk => setRow_other w g k _ (fun e => hk (by rw [e]))⟩⟩
  rw [h9]
  have : n + news.length = (xs ++ news).length := by rw [List.length_append, h1]
  rw [this]
  exact List.take_left
/-- Behind an append that had none. -/
theorem OwnM.grew {w : World} {base : Nat} {e : TypeId} {n old : Nat} {xs news : List Value} (h1 : xs.length = n) (hb : base ≤ w.heap.size) (hm : n + news.length ≤ maxLen) (row : Option Nat) :
    OwnM (w.drew.alloc (.cells (xs.toArray ++ news.toArray ++ Builtin.zeroCells (Value.int .u8 0).cells (grownCap w (n + news.length) old e - (n + news.length))) e)) base e (some ⟨w.heap.size, 0, none⟩) (n + news.length) (grownCap w (n + news.length) old e) (xs ++ news) ∧
      w.grownBy (w.drew.alloc (.cells (xs.toArray ++ news.toArray ++ Builtin.zeroCells (Value.int .u8 0).cells (grownCap w (n + news.length) old e - (n + news.length))) e)) row := by
  have hge := grownCap_ge w (n + news.length) old e
  have hcm : grownCap w (n + news.length) old e ≤ maxLen := grownCap_le_maxLen w (n + news.length) old e hm
  refine ⟨⟨by rw [List.length_append, h1], w.heap.size, _, (0, 0), rfl, hb, heap_alloc_new w.drew _, fun k _ h => by have := h.2; simp at this, hge, hcm, ?_, ?_⟩, ⟨rfl, rfl, rfl, by simp, fun k hk _ => heap_alloc_old w.drew _ hk⟩⟩
  · simp only [Array.size_append, List.size_toArray, size_zeroCells, h1, show (Value.int .u8 0).cells.size = 1 from rfl]
    omega
  · simp only [Array.toList_append, List.append_assoc]
    rw [← List.append_assoc]
    have : n + news.length = (xs ++ news).length := by rw [List.length_append, h1]
    rw [this]
    exact List.take_left

theorem run_append_slM (w : World) (base : Nat) (t ty e : TypeId) (i : TypeInfo) (ht : P.underlying t = some (.slice e)) (hi : P.info? e = some i) (hz : i.zero = some (.int .u8 0)) (hsize : i.size = 1) (hby : i.bytes = 1)
    (A : Option Addr) (n c : Nat) (xs : List Value) (hown : OwnM w base e A n c xs) (a : Addr) (m c' : Nat) (news : List Value) (hl : news.length = m) (hnews : ∀ j u, news[j]? = some u → w.cell? (a.add j) = some u) (h1 : ∀ u ∈ news, u.oneCell' = true)
    (hbytes : n + m ≤ 140737488355328) (hbase : base ≤ w.heap.size) :
    ∃ B d w', (Builtin.append_ #[t, t] ty #[.slice A n c, .slice (some a) m c']).run P w = .ok (.slice B (n + m) d) w' ∧ OwnM w' base e B (n + m) d (xs ++ news) ∧ w.grownBy w' (blk A) := by
  subst hl
  obtain ⟨x1, g, cur, fz, rfl, x3, x4, x5, x6, x7, x8, x9⟩ := id hown
  by_cases hroom : n + news.length ≤ c
  · have hr := OwnM.room (news := news) x1 x3 x4 x5 x7 x8 x9 hroom
    refine ⟨_, c, _, ?_, hr.1, hr.2⟩
    have hf := run_firstCells_some (P := P) w i.size news.length a news.length c' news (by rw [hsize]; omega) hnews
    have hst := run_storeCells_M (P := P) g n e fz news 0 cur w x4 x5 (by omega) h1
    rw [hsize] at hf
    simp only [Nat.add_zero] at hst
    simp [Builtin.append_, run_underlying ht, sizeOf, typeInfo, hi, hsize, Builtin.lenOf, hroom, hf, Addr.add_lit, hst]
  · have hm : n + news.length ≤ maxLen := by unfold maxLen; omega
    have hr := OwnM.grew (w := w) (base := base) (e := e) (old := c) (news := news) x1 hbase hm (blk (some (⟨g, 0, none⟩ : Addr)))
    refine ⟨_, _, _, ?_, hr.1, hr.2⟩
    exact run_append_grow (P := P) w t ty e i (.int .u8 0) ht hi hz ⟨g, 0, none⟩ n c xs (by rw [hsize]; omega) (hown.cells rfl) a news.length c' news (by rw [hsize]; omega) hnews (by omega) (by omega) (by rw [hby]; exact growslice_fits (by omega) (by omega))
theorem run_append_txM (w : World) (base : Nat) (t u ty e : TypeId) (i : TypeInfo) (ht : P.underlying t = some (.slice e)) (hu : P.underlying u = some .string) (hi : P.info? e = some i) (hz : i.zero = some (.int .u8 0)) (hsize : i.size = 1) (hby : i.bytes = 1)
    (A : Option Addr) (n c : Nat) (xs : List Value) (hown : OwnM w base e A n c xs) (l : List UInt8) (hbytes : n + l.length ≤ 140737488355328) (hbase : base ≤ w.heap.size) :
    ∃ B d w', (Builtin.append_ #[t, u] ty #[.slice A n c, .string (bs l)]).run P w = .ok (.slice B (n + l.length) d) w' ∧ OwnM w' base e B (n + l.length) d (xs ++ bcs l) ∧ w.grownBy w' (blk A) := by
  obtain ⟨x1, g, cur, fz, rfl, x3, x4, x5, x6, x7, x8, x9⟩ := id hown
  have hsz := bs_size l
  have hbl := bcs_length l
  by_cases hroom : n + l.length ≤ c
  · have hr := OwnM.room (news := bcs l) x1 x3 x4 x5 x7 x8 x9 (by rw [hbl]; exact hroom)
    rw [hbl] at hr
    refine ⟨_, c, _, ?_, hr.1, hr.2⟩
    have hf := Lib.run_firstCells_string (P := P) w 1 (bs l)
    have hst := run_storeCells_M (P := P) g n e fz (bcs l) 0 cur w x4 x5 (by rw [hbl]; omega) (bcs_one l)
    simp only [Nat.add_zero, hbl] at hst
    rw [hsz, strCells_bs] at hf
    simp [Builtin.append_, run_underlying ht, run_underlying hu, sizeOf, typeInfo, hi, hsize, Builtin.lenOf, hsz, hroom, hf, Addr.add_lit, hst]
  · have hm : n + (bcs l).length ≤ maxLen := by rw [hbl]; unfold maxLen; omega
    have hr := OwnM.grew (w := w) (base := base) (e := e) (old := c) (news := bcs l) x1 hbase hm (blk (some (⟨g, 0, none⟩ : Addr)))
    rw [hbl] at hr
    refine ⟨_, _, _, ?_, hr.1, hr.2⟩
    have h2 := Lib.run_append_grow_string (P := P) w t u ty e i (.int .u8 0) ht hu hi hz ⟨g, 0, none⟩ n c xs (by rw [hsize]; omega) (hown.cells rfl) (bs l) (by rw [hsz]; omega) (by rw [hsz]; omega) (by rw [hby, hsz]; exact growslice_fits (by omega) (by omega))
    rw [hsz, strCells_bs] at h2
    exact h2
theorem wpList_append_slM {ops : Array Oper} {rest : List Oper} {o : Oper} {a : Act} {Q : Exit → Act → World → Prop} (w : World) (hgd : o.guard = none) (s x : Operand) (t : TypeId)
    (ho : o.op = .call { callee := .builtin .append, args := #[s, x], argTypes := #[t, t] })
    (base : Nat) (e : TypeId) (i : TypeInfo) (ht : P.underlying t = some (.slice e)) (hi : P.info? e = some i) (hz : i.zero = some (.int .u8 0)) (hsize : i.size = 1) (hby : i.bytes = 1)
    (A : Option Addr) (n c : Nat) (xs : List Value) (hs : a.eval s = .slice A n c) (hown : OwnM w base e A n c xs) (b : Addr) (m c' : Nat) (news : List Value) (hx : a.eval x = .slice (some b) m c') (hl : news.length = m) (hnews : ∀ j u, news[j]? = some u → w.cell? (b.add j) = some u) (h1 : ∀ u ∈ news, u.oneCell' = true)
    (hbytes : n + m ≤ 140737488355328) (hbase : base ≤ w.heap.size)
    (h : ∀ B d w', OwnM w' base e B (n + m) d (xs ++ news) → w.grownBy w' (blk A) → wpList P ops Q rest (a.put o.dst (.slice B (n + m) d)) w') :
    wpList P ops Q (o :: rest) a w := by
  refine wpList_plain hgd fun K hK => ?_
  obtain ⟨B, d, w', hr, h2, h3⟩ := run_append_slM (P := P) w base t o.type e i ht hi hz hsize hby A n c xs hown b m c' news hl hnews h1 hbytes hbase
  unfold Oper.wp execOp
  simp only [ho, resolve, invoke, builtin, Sem.run_bind, Sem.run_pure, Result.andThen_ok, List.map_toArray, List.map_cons, List.map_nil, hs, hx, hr]
  exact hK _ _ (h B d w' h2 h3)
theorem wpList_append_newM {ops : Array Oper} {rest : List Oper} {o : Oper} {a : Act} {Q : Exit → Act → World → Prop} (w : World) (hgd : o.guard = none) (s x : Operand) (t : TypeId)
    (ho : o.op = .call { callee := .builtin .append, args := #[s, x], argTypes := #[t, t] })
    (base : Nat) (e : TypeId) (i : TypeInfo) (ht : P.underlying t = some (.slice e)) (hi : P.info? e = some i) (hz : i.zero = some (.int .u8 0)) (hsize : i.size = 1) (hby : i.bytes = 1)
    (A : Option Addr) (n c : Nat) (xs : List Value) (hs : a.eval s = .slice A n c) (hown : OwnM w base e A n c xs) (y : Int) (hx : a.eval x = .slice (some ⟨w.heap.size, 0, none⟩) 1 1)
    (hbytes : n + 1 ≤ 140737488355328) (hbase : base ≤ w.heap.size)
    (h : ∀ B d w', OwnM w' base e B (n + 1) d (xs ++ [.int .u8 y]) → w.grownBy w' (blk A) → wpList P ops Q rest (a.put o.dst (.slice B (n + 1) d)) w') :
    wpList P ops Q (o :: rest) a (w.alloc (.cells #[.int .u8 y] e)) := by
  refine wpList_append_slM _ hgd s x t ho base e i ht hi hz hsize hby A n c xs hs (hown.ext (Ext.alloc _ _)) _ 1 1 [.int .u8 y] hx rfl ?_ (by simp [Value.oneCell']) hbytes (by simp; omega) ?_
  · intro j u hu
    rw [Addr.add_lit, cell_of_row _ _ _ _ _ _ (heap_alloc_new w _)]
    simpa using hu
  · intro B d w' h2 h3
    exact h B d w' h2 (grown_trans ((Ext.alloc w _).grownBy _) h3)
theorem wpList_append_txM {ops : Array Oper} {rest : List Oper} {o : Oper} {a : Act} {Q : Exit → Act → World → Prop} (w : World) (hgd : o.guard = none) (s x : Operand) (t u : TypeId)
    (ho : o.op = .call { callee := .builtin .append, args := #[s, x], argTypes := #[t, u] })
    (base : Nat) (e : TypeId) (i : TypeInfo) (ht : P.underlying t = some (.slice e)) (hu : P.underlying u = some .string) (hi : P.info? e = some i) (hz : i.zero = some (.int .u8 0)) (hsize : i.size = 1) (hby : i.bytes = 1)
    (A : Option Addr) (n c : Nat) (xs : List Value) (hs : a.eval s = .slice A n c) (hown : OwnM w base e A n c xs) (l : List UInt8) (hx : a.eval x = .string (bs l))
    (hbytes : n + l.length ≤ 140737488355328) (hbase : base ≤ w.heap.size)
    (h : ∀ B d w', OwnM w' base e B (n + l.length) d (xs ++ bcs l) → w.grownBy w' (blk A) → wpList P ops Q rest (a.put o.dst (.slice B (n + l.length) d)) w') :
    wpList P ops Q (o :: rest) a w := by
  refine wpList_plain hgd fun K hK => ?_
  obtain ⟨B, d, w', hr, h2, h3⟩ := run_append_txM (P := P) w base t u o.type e i ht hu hi hz hsize hby A n c xs hown l hbytes hbase
  unfold Oper.wp execOp
  simp only [ho, resolve, invoke, builtin, Sem.run_bind, Sem.run_pure, Result.andThen_ok, List.map_toArray, List.map_cons, List.map_nil, hs, hx, hr]
  exact hK _ _ (h B d w' h2 h3)
/-- '[]byte(s)'. -/
theorem conv_own (w : World) (src dst e : TypeId) (l : List UInt8) (hs : P.underlying src = some .string) (hd : P.underlying dst = some (.slice e)) (he : P.underlying e = some (.int .u8)) (hl : l.length ≤ maxLen) :
    ∃ B d w', (convert src dst (.string (bs l))).run P w = .ok (.slice B l.length d) w' ∧ OwnM w' w.heap.size e B l.length d (bcs l) ∧ Ext w w' := by
  have hr := run_bytes_of_string (P := P) w src dst e (bs l) hs hd he
  rw [bs_size] at hr
  have hge := grownCap_ge w l.length 0 e
  have hcm := grownCap_le_maxLen w l.length 0 e hl
  have hsz : (bytesRow (bs l) (grownCap w l.length 0 e)).size = grownCap w l.length 0 e := by
    unfold bytesRow
    rw [Array.size_append, Array.size_map, Array.size_replicate]
    have : (bs l).data.size = l.length := by simp [bs]
    rw [this, bs_size]; omega
  refine ⟨_, _, _, hr, ⟨bcs_length l, w.heap.size, _, _, rfl, Nat.le_refl _, heap_alloc_new w.drew _, fun k hk h => by have := h.1; simp only at this; omega, hge, hcm, hsz, ?_⟩, (Ext.drew w).trans (Ext.alloc _ _)⟩
  unfold bytesRow
  rw [Array.toList_append, List.take_append_of_le_length]
  · simp [bs, bcs]
    exact List.take_of_length_le (by simp)
  · simp [bs]
end

theorem g_pow : Tryd.prog.globalNamed "internal/strconv.uint64pow10" = some 1 := by kernel_rfl
abbrev Pow (w : World) : Prop := Lib.TabIs Tryd.prog w "internal/strconv.uint64pow10" .u64 Lib.pow10Tab
theorem pow_ext {w w' : World} (h : Pow w) (e : Ext w w') : Pow w' := by
  unfold Pow Lib.TabIs World.var? at *
  rw [g_pow] at *
  simp only [Option.bind_some] at *
  cases hq : w.heap[1]? with
  | none => rw [hq] at h; simp at h
  | some o =>
    rw [e.block _ (Array.getElem?_eq_some_iff.1 hq).1]
    exact h
theorem dg0_dec : ∀ k : Nat, k ≠ 0 → dg0 k = Lib.decDigits k := by
  intro k
  induction k using Nat.strongRecOn with
  | ind k ih =>
    intro h
    rw [dg0_step h, Lib.decDigits]
    by_cases h9 : k < 10
    · rw [dif_pos h9, Nat.div_eq_of_lt h9, dg0_zero, Nat.mod_eq_of_lt h9]; rfl
    · rw [dif_neg h9, ih (k / 10) (by omega) (by omega)]
theorem natL_dec (k : Nat) : natL k = Lib.decDigits k := by
  unfold natL
  split
  · subst k; rw [Lib.decDigits]; rfl
  · exact dg0_dec k ‹_›
/-- Bytes of the call's own behind which a number's text was laid. -/
def AppOf (w0 : World) (xs : List UInt8) (e : Ending) (w' : World) : Prop := ∃ B m d, m = xs.length ∧ e = .returned (.slice B m d) ∧ OwnM w' w0.heap.size 5 B m d (bcs xs) ∧ Ext w0 w'
set_option maxHeartbeats 6400000 in
set_option maxRecDepth 100000 in
theorem appuint_any (w0 w : World) (hp : Pow w0) (e0 : Ext w0 w) (A : Option Addr) (d : Nat) (xs : List UInt8) (u : Nat) (hu64 : u < 18446744073709551616) (ho : OwnM w w0.heap.size 5 A xs.length d (bcs xs)) (hx : xs.length + 21 ≤ 140737488355328) :
    Calls Tryd.prog 56 #[.slice A xs.length d, .int .u64 u, .int .i64 10] w (AppOf w0 (xs ++ natL u)) := by
  obtain ⟨i0, hi, hz0, hz1, hz2⟩ := info_parts info_u8
  have hbase := e0.size
  rw [natL_dec]
  have hlen : (Lib.decDigits u).length = Lib.nDigits u := Lib.decDigits_length u
  by_cases hu : u < 100
  · have hl2 : (Lib.decDigits u).length ≤ 20 := by
      rw [Lib.decDigits_length]
      by_cases h10 : u < 10
      · rw [Lib.nDigits_small h10]; omega
      · rw [Lib.nDigits_big h10, Lib.nDigits_small (show u / 10 < 10 by omega)]; omega
    have iu : (u : Int) < 100 := by omega
    go_enter Tryd.func56, Tryd.ntmps56
    go_wp2_with fail
    refine (Tryd.internal_strconv_small u hu w).mono ?_
    rintro e w' ⟨rfl, rfl⟩
    go_wp2_with (at_builtin; refine wpList_append_txM _ rfl _ _ 51 9 rfl w0.heap.size 5 i0 Tryd.underlying51 Tryd.underlying9 hi hz0 hz1 hz2 A xs.length d _ rfl ho (Lib.decDigits u) rfl (by omega) hbase ?_; intro B d' w' ho' hg')
    go_ret
    exact ⟨B, _, d', List.length_append.symm, by rw [hlen]; rfl, by rw [bcs_append]; exact ho', Ext.own e0 hg' ho.ge⟩
  · have hu1 : 1 ≤ u := by omega
    have hnd20 : Lib.nDigits u ≤ 20 := by have := Lib.numDigits_eq u hu1 hu64; split at this <;> omega
    have hal : Tryd.prog.arrayLen 78 = 24 := by kernel_rfl
    have hsl : ∀ W, (Instr.sliceAt 78 (.pointer (some ⟨w.heap.size, 0, none⟩)) none (some (.int .i64 (Lib.nDigits u : Int))) none).run Tryd.prog W = .ok (.slice (some ⟨w.heap.size, 0, none⟩) (Lib.nDigits u) 24) W := fun W => by
      rw [run_sliceAt_array_h W 78 ⟨w.heap.size, 0, none⟩ (by kernel_rfl) .i64 (Lib.nDigits u : Int) (by omega) (by rw [hal]; omega)]
      go_simp
    have hH0 := Lib.holds_zero0 w 78 (Lib.nDigits u) (by omega)
    have hfmt := Tryd.internal_strconv_formatBase10 w.heap.size 0 24 u (Array.replicate (Lib.nDigits u) 0) (w.alloc (.cells Lib.zeros24 78)) hH0 (by rw [Array.size_replicate]; exact Lib.lt_pow_nDigits u) hu64 (by rw [Array.size_replicate]; omega)
    rw [Array.size_replicate] at hfmt
    have HH0 := Lib.hid hH0
    have Hfmt := Lib.hid hfmt
    have iu : (100 : Int) ≤ (u : Int) := by omega
    have Hnd := Lib.hid (Tryd.internal_strconv_numDigits u hu1 hu64 (w.alloc (.cells Lib.zeros24 78)) (Lib.tabIs_alloc (pow_ext hp e0) _))
    clear hH0 hal hfmt
    go_enter Tryd.func56, Tryd.ntmps56
    go_wp2_with fail
    refine Calls.mono Hnd.out ?_
    rintro e w' ⟨rfl, rfl⟩
    go_wp2_with fail
    refine Calls.mono Hfmt.out ?_
    rintro e w' ⟨rfl, k, v', dk, rfl, hF⟩
    have hcells : ∀ j u', (Lib.byteCells (Lib.decDigits u))[j]? = some u' → ((Go.Sort.putRow (fun (b : UInt8) => Value.int .u8 (b.toNat : Int)) (w.alloc (.cells Lib.zeros24 78)) w.heap.size 0 dk).drewN k).cell? ((⟨w.heap.size, 0, none⟩ : Addr).add j) = some u' := by
      intro j u' hj
      have hjl : j < (Lib.decDigits u).length := by
        have h5 := (List.getElem?_eq_some_iff.1 hj).1
        rwa [Lib.byteCells_length] at h5
      have e5 : (Lib.byteCells (Lib.decDigits u))[j]? = some (Value.int .u8 ((Lib.decDigits u)[j].toNat : Int)) := by simp [Lib.byteCells, hjl]
      rw [e5] at hj
      cases hj
      rw [Lib.row_is_numeral hF j hjl, Lib.add_plain, World.cell?_drewN]
      exact Go.Sort.cell?_putRow (fun (b : UInt8) => Value.int .u8 (b.toNat : Int)) _ w.heap.size 0 _ dk HH0.out (by rw [hF.size, Array.size_replicate]) j (by rw [hF.size]; rw [Lib.decDigits_length] at hjl; exact hjl)
    obtain ⟨os, eo⟩ := Lib.fin_at w (.cells Lib.zeros24 78) dk k 0
    have x2 : Ext w ((Go.Sort.putRow (fun (b : UInt8) => Value.int .u8 (b.toNat : Int)) (w.alloc (.cells Lib.zeros24 78)) w.heap.size 0 dk).drewN k) := by rw [eo]; exact Lib.below_grow w.heap.size w (Nat.le_refl _) k os
    generalize (Go.Sort.putRow (fun (b : UInt8) => Value.int .u8 (b.toNat : Int)) (w.alloc (.cells Lib.zeros24 78)) w.heap.size 0 dk).drewN k = W2 at hcells x2 ⊢
    have ho2 := ho.ext x2
    have hb2 := (e0.trans x2).size
    clear eo HH0 Hfmt Hnd
    go_wp2_with (at_builtin; refine wpList_append_slM _ rfl _ _ 51 rfl w0.heap.size 5 i0 Tryd.underlying51 hi hz0 hz1 hz2 A xs.length d _ rfl ho2 ⟨w.heap.size, 0, none⟩ (Lib.nDigits u) 24 (Lib.byteCells (Lib.decDigits u)) rfl (by rw [Lib.byteCells_length, hlen]) hcells (by intro u' hu'; simp only [Lib.byteCells, List.mem_map] at hu'; obtain ⟨b, _, rfl⟩ := hu'; rfl) (by omega) hb2 ?_; intro B d' w' ho' hg')
    go_ret
    exact ⟨B, _, d', by rw [List.length_append, hlen], rfl, by rw [bcs_append]; exact ho', Ext.own (e0.trans x2) hg' ho2.ge⟩
set_option maxHeartbeats 6400000 in
set_option maxRecDepth 100000 in
theorem appint_any (w0 w : World) (hp : Pow w0) (e0 : Ext w0 w) (A : Option Addr) (d : Nat) (xs : List UInt8) (i : Int) (h0 : -9223372036854775808 ≤ i) (h1 : i ≤ 9223372036854775807) (ho : OwnM w w0.heap.size 5 A xs.length d (bcs xs)) (hx : xs.length + 22 ≤ 140737488355328) :
    Calls Tryd.prog 48 #[.slice A xs.length d, .int .i64 i, .int .i64 10] w (AppOf w0 (xs ++ decL i)) := by
  obtain ⟨i0, hi, hz0, hz1, hz2⟩ := info_parts info_u8
  have hbase := e0.size
  by_cases hn : i < 0
  · have hu : i.natAbs < 18446744073709551616 := by omega
    have hcv : IntKind.u64.wrap i = 18446744073709551616 + i := by simp [IntKind.wrap, IntKind.bits, IntKind.signed]; omega
    have hng : IntKind.u64.wrap (-(18446744073709551616 + i)) = (i.natAbs : Int) := by simp [IntKind.wrap, IntKind.bits, IntKind.signed]; omega
    have hd : xs ++ decL i = (xs ++ [45]) ++ natL i.natAbs := by unfold decL; rw [if_pos hn]; simp
    rw [hd]
    have Hd := Lib.hid hd
    go_enter Tryd.func48, Tryd.ntmps48
    go_wp2_with (at_builtin; refine wpList_append_newM _ rfl _ _ 51 rfl w0.heap.size 5 i0 Tryd.underlying51 hi hz0 hz1 hz2 A xs.length d _ rfl ho 45 rfl (by omega) hbase ?_; intro B d' w' ho' hg')
    have e1 := Ext.own e0 hg' ho.ge
    have hc := appuint_any w0 w' hp e1 B d' (xs ++ [45]) i.natAbs hu (by rw [bcs_append, List.length_append]; exact ho') (by simp; omega)
    rw [List.length_append] at hc
    refine Calls.mono hc ?_
    rintro e w2 ⟨B2, m2, d2, hm2, rfl, ho2, e2⟩
    have Hm2 := Lib.hid hm2
    clear hm2
    go_wp2_with fail
    go_ret
    exact ⟨B2, m2, d2, Hm2.out, rfl, ho2, e2⟩
  · have hu : i.natAbs < 18446744073709551616 := by omega
    have hcv : IntKind.u64.wrap i = (i.natAbs : Int) := by simp [IntKind.wrap, IntKind.bits, IntKind.signed]; omega
    have hd : xs ++ decL i = xs ++ natL i.natAbs := by unfold decL; rw [if_neg hn]; simp
    have hc := appuint_any w0 w hp e0 A d xs i.natAbs hu ho (by omega)
    rw [hd]
    have Hc := Lib.hid hc
    have hd1 : decide (i < 0) = false := decide_eq_false hn
    clear hc hd
    go_enter Tryd.func48, Tryd.ntmps48
    go_wp2_with fail
    refine Calls.mono Hc.out ?_
    rintro e w2 ⟨B2, m2, d2, hm2, rfl, ho2, e2⟩
    have Hm2 := Lib.hid hm2
    clear hm2
    go_wp2_with fail
    go_ret
    exact ⟨B2, m2, d2, Hm2.out, rfl, ho2, e2⟩
theorem sappint_any (w0 w : World) (hp : Pow w0) (e0 : Ext w0 w) (A : Option Addr) (d : Nat) (xs : List UInt8) (i : Int) (h0 : -9223372036854775808 ≤ i) (h1 : i ≤ 9223372036854775807) (ho : OwnM w w0.heap.size 5 A xs.length d (bcs xs)) (hx : xs.length + 22 ≤ 140737488355328) :
    Calls Tryd.prog 31 #[.slice A xs.length d, .int .i64 i, .int .i64 10] w (AppOf w0 (xs ++ decL i)) := by
  go_enter Tryd.func31, Tryd.ntmps31
  go_wp2_with fail
  refine (appint_any w0 w hp e0 A d xs i h0 h1 ho hx).mono ?_
  rintro e w2 ⟨B2, m2, d2, hm2, rfl, ho2, e2⟩
  have Hm2 := Lib.hid hm2
  clear hm2
  go_wp2_with fail
  go_ret
  exact ⟨B2, m2, d2, Hm2.out, rfl, ho2, e2⟩
end Go.Proofs.YtbmgiidecidojaaDoor
