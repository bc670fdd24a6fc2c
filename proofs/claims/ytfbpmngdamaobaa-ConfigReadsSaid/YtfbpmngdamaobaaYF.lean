/- Configurations (layer 7) are read, 6: the state of the document's reading; a symbol of its numbers. -/
import Derived.Test.YtfbpmngdamaobaaYRB
import Derived.Test.YtfbpmngdamaobaaY4
namespace Go.Proofs.Ytfbpmngdamaobaa
open Go.RowKit
attribute [local go_sem] Later.cell QUpon_value QUpon_enter MUpon_value
attribute [local go_sem ↓ high] loadSym_is storeSym_is loadCfg_is storeCfg_is
attribute [local go_sem] run_loadSym run_loadSym_at run_storeSym run_loadCfg run_loadCfg_at run_storeCfg one_int one_bool one_slice one_ptr one_str setRow_new setRow_past cell_ca frozen_ca cellsAt_alloc_at cellsAt_alloc_past cellsAt_drew cellsAt_later cellsAt_setCell cellsAt_set_same cellsAt_setRow_same cellsAt_setRow_far subAt_alloc subAt_drew subAt_later subAt_setCell subAt_setRow ltn_2 ltn_3 ltn_4 ltn_5
theorem tsymbol_c (s : Sym) (w : World) : Calls Try.prog 58 #[.agg #[.int .i64 s.grid, .int .i64 s.ref, .int .i64 s.stat, .int .i64 s.dyn, .int .i64 s.win, .int .i64 s.move, .int .i64 s.lim, .int .i64 s.pause, .int .i64 s.ext, .int .i64 s.mx, .int .i64 s.coll, .int .i64 s.wid, .int .i64 s.self, .int .i64 s.slots, .int .i64 s.lev, .int .i64 s.short]] w fun e w' => e = .returned (.agg #[.int .i64 s.grid, .int .i64 s.ref, .int .i64 s.stat, .int .i64 s.dyn, .int .i64 s.win, .int .i64 s.move, .int .i64 s.lim, .int .i64 s.pause, .int .i64 s.ext, .int .i64 s.mx, .int .i64 s.coll, .int .i64 s.wid, .int .i64 s.self, .int .i64 s.slots, .int .i64 s.lev, .int .i64 s.short]) ∧ Ext w w' := by
  go_enter Try.func58, Try.ntmps58
  go_wp2_with fail
  have H := At.new (w.alloc (.cells #[.int .i64 s.grid, .int .i64 s.ref, .int .i64 s.stat, .int .i64 s.dyn, .int .i64 s.win, .int .i64 s.move, .int .i64 s.lim, .int .i64 s.pause, .int .i64 s.ext, .int .i64 s.mx, .int .i64 s.coll, .int .i64 s.wid, .int .i64 s.self, .int .i64 s.slots, .int .i64 s.lev, .int .i64 s.short] 77)) 35 #[.int .i64 s.grid, .int .i64 s.ref, .int .i64 s.stat, .int .i64 s.dyn, .int .i64 s.win, .int .i64 s.move, .int .i64 s.lim, .int .i64 s.pause, .int .i64 s.ext, .int .i64 s.mx, .int .i64 s.coll, .int .i64 s.wid, .int .i64 s.self, .int .i64 s.slots, .int .i64 s.lev, .int .i64 s.short]
  rw [World.size_alloc] at H
  generalize hw2 : (w.alloc (.cells #[.int .i64 s.grid, .int .i64 s.ref, .int .i64 s.stat, .int .i64 s.dyn, .int .i64 s.win, .int .i64 s.move, .int .i64 s.lim, .int .i64 s.pause, .int .i64 s.ext, .int .i64 s.mx, .int .i64 s.coll, .int .i64 s.wid, .int .i64 s.self, .int .i64 s.slots, .int .i64 s.lev, .int .i64 s.short] 77)).alloc _ = w2
  have x2 : Ext w w2 := by rw [← hw2]; exact ((Ext.refl w).alloc _).alloc _
  have H : At w2 (w.heap.size + 1) 35 #[.int .i64 s.grid, .int .i64 s.ref, .int .i64 s.stat, .int .i64 s.dyn, .int .i64 s.win, .int .i64 s.move, .int .i64 s.lim, .int .i64 s.pause, .int .i64 s.ext, .int .i64 s.mx, .int .i64 s.coll, .int .i64 s.wid, .int .i64 s.self, .int .i64 s.slots, .int .i64 s.lev, .int .i64 s.short] := by rw [← hw2]; exact H
  clear hw2
  have ek := cellsAt_at H
  have sk := H.lt
  first | refine fin_ret rfl (fun K hK => ?_) | refine fin_norm rfl (fun K hK => ?_)
  simp [results, Try.results58, go_sem, rsat]
  try go_simp
  refine hK _ ?_
  clear hK K
  exact ⟨rfl, x2⟩
/-- The document's reading is under way: the reader, the blocks told, a row of the call's own. -/
structure RdT (w wr : World) (g : Nat) (s : RS) (L : List Blk) (e : TypeId) (size : Nat) (B : Option Addr) (n c : Nat) (xs : List Value) : Prop where
  rd : RT w wr g s
  kept : ∀ b ∈ L, At wr b.b b.t b.cs ∧ w.heap.size ≤ b.b ∧ b.b ≠ g
  nd : (L.map Blk.b).Nodup
  row : Row wr e size B n c xs
  own : ∀ k ∈ ablk B, w.heap.size ≤ k ∧ k < wr.heap.size ∧ k ≠ g ∧ k ∉ L.map Blk.b
section
variable {w wr w' : World} {g : Nat} {s s' : RS} {L M : List Blk} {e : TypeId} {size : Nat} {B : Option Addr} {n c : Nat} {xs : List Value}
theorem RdT.extR (h : RdT w wr g s L e size B n c xs) (hx : Ext wr w') : RdT w w' g s L e size B n c xs :=
  ⟨h.rd.extR hx, fun b hb => ⟨(h.kept b hb).1.ext hx, (h.kept b hb).2⟩, h.nd, h.row.ext hx, fun k hk => ⟨(h.own k hk).1, Nat.lt_of_lt_of_le (h.own k hk).2.1 hx.size, (h.own k hk).2.2⟩⟩
theorem RdT.less (h : RdT w wr g s L e size B n c xs) (hs : M.Sublist L) : RdT w wr g s M e size B n c xs :=
  ⟨h.rd, fun b hb => h.kept b (hs.subset hb), h.nd.sublist (hs.map _), h.row, fun k hk => ⟨(h.own k hk).1, (h.own k hk).2.1, (h.own k hk).2.2.1, fun hm => (h.own k hk).2.2.2 ((hs.map _).subset hm)⟩⟩
theorem RdT.new (h : RdT w wr g s L e size B n c xs) (t : TypeId) (cs : Array Value) : RdT w (wr.alloc (.cells cs t)) g s (⟨wr.heap.size, t, cs⟩ :: L) e size B n c xs := by
  have g1 := h.rd.lt
  have hx : Ext wr (wr.alloc (.cells cs t)) := (Ext.refl _).alloc _
  have h1 := h.extR hx
  refine ⟨h1.rd, fun b hb => ?_, ?_, h1.row, fun k hk => ?_⟩
  · rcases List.mem_cons.1 hb with rfl | hb
    · refine ⟨At.new _ _ _, h.rd.ext.size, ?_⟩
      show wr.heap.size ≠ g; omega
    · exact h1.kept b hb
  · rw [List.map_cons, List.nodup_cons]
    refine ⟨fun hm => ?_, h.nd⟩
    obtain ⟨b, hb, he⟩ := List.mem_map.1 hm
    have := (h.kept b hb).1.lt
    simp only at he
    omega
  · obtain ⟨o1, o2, o3, o6⟩ := h.own k hk
    refine ⟨o1, by simp; omega, o3, fun hm => ?_⟩
    rw [List.map_cons, List.mem_cons] at hm
    rcases hm with hm | hm
    · simp only at hm; omega
    · exact o6 hm
/-- A number is read. -/
theorem RdT.num (h : RdT w wr g s L e size B n c xs) (hr : RT w w' g s') (hC : Chg wr w' [g]) : RdT w w' g s' L e size B n c xs := by
  refine ⟨hr, fun b hb => ⟨hC.at (h.kept b hb).1 (fun hm => ?_), (h.kept b hb).2⟩, h.nd, h.row.chg hC (fun k hk hm => ?_), fun k hk => ⟨(h.own k hk).1, Nat.lt_of_lt_of_le (h.own k hk).2.1 hC.size, (h.own k hk).2.2⟩⟩
  · simp at hm
    exact (h.kept b hb).2.2 hm
  · simp at hm
    exact (h.own k hk).2.2.1 hm
/-- The block told first gets other cells. -/
theorem RdT.put {b : Nat} {t : TypeId} {cs cs' : Array Value} (h : RdT w wr g s (⟨b, t, cs⟩ :: L) e size B n c xs) (hc : Chg wr w' [b]) (ha : At w' b t cs') : RdT w w' g s (⟨b, t, cs'⟩ :: L) e size B n c xs := by
  have hk := h.kept ⟨b, t, cs⟩ (by simp)
  simp only at hk
  have hnd := h.nd
  rw [List.map_cons, List.nodup_cons] at hnd
  refine ⟨h.rd.chg hc (fun i hi => ?_) (fun hm => ?_), fun d hd => ?_, h.nd, h.row.chg hc (fun k hk1 hm => ?_), fun k hk1 => ⟨(h.own k hk1).1, Nat.lt_of_lt_of_le (h.own k hk1).2.1 hc.size, (h.own k hk1).2.2⟩⟩
  · simp at hi
    subst hi
    exact hk.2.1
  · simp at hm; exact hk.2.2 hm.symm
  · rcases List.mem_cons.1 hd with rfl | hd
    · exact ⟨ha, hk.2⟩
    · have := h.kept d (List.mem_cons_of_mem _ hd)
      refine ⟨hc.at this.1 (fun hm => ?_), this.2⟩
      simp at hm
      exact hnd.1 (List.mem_map.2 ⟨d, hd, hm⟩)
  · simp at hm
    subst hm
    exact (h.own k hk1).2.2.2 (by simp)
/-- The row grows. -/
theorem RdT.app {B' : Option Addr} {n' c' : Nat} {xs' : List Value} (h : RdT w wr g s L e size B n c xs) (hR : Row w' e size B' n' c' xs') (hC : Chg wr w' (ablk B)) (hf : ∀ k ∈ ablk B', k ∈ ablk B ∨ (wr.heap.size ≤ k ∧ k < w'.heap.size)) : RdT w w' g s L e size B' n' c' xs' := by
  have g1 := h.rd.lt
  have hes := h.rd.ext.size
  refine ⟨h.rd.chg hC (fun i hi => (h.own i hi).1) (fun hm => (h.own _ hm).2.2.1 rfl), fun b hb => ⟨hC.at (h.kept b hb).1 (fun hm => (h.own _ hm).2.2.2 (List.mem_map.2 ⟨b, hb, rfl⟩)), (h.kept b hb).2⟩, h.nd, hR, fun k hk => ?_⟩
  rcases hf k hk with h1 | h1
  · obtain ⟨o1, o2, o3⟩ := h.own k h1
    exact ⟨o1, Nat.lt_of_lt_of_le o2 hC.size, o3⟩
  · refine ⟨by omega, h1.2, by omega, fun hm => ?_⟩
    obtain ⟨b, hb, rfl⟩ := List.mem_map.1 hm
    have := (h.kept b hb).1.lt
    omega
theorem RdT.start {w1 : World} {bs : List Int} {A : Option Addr} {c : Nat} (hx : Ext w w1) (hb : Byt bs) (hl : bs.length ≤ 1000000000) (hc : bs.length ≤ c) (hm : c ≤ 9223372036854775807) (hS : Src w 1 A bs.length (bc bs)) (e : TypeId) (size : Nat) : RdT w (w1.alloc (.cells #[.slice A bs.length c, .int .i64 0, .bool false] 92)) w1.heap.size ⟨bs, 0, false⟩ [] e size none 0 0 [] :=
  ⟨⟨hx.alloc _, hx.size, hb, hl, A, c, At.new _ _ _, hc, hm, fun W hW => hS.ext hW⟩, by simp, by simp, Row.nil _ _ _ _, by simp [ablk]⟩
/-- A block that lies there is told too. -/
theorem RdT.hold (h : RdT w wr g s L e size B n c xs) {b : Nat} {t : TypeId} {cs : Array Value} (ha : At wr b t cs) (h1 : w.heap.size ≤ b) (h2 : b ≠ g) (h5 : b ∉ L.map Blk.b) (h6 : b ∉ ablk B) : RdT w wr g s (⟨b, t, cs⟩ :: L) e size B n c xs := by
  refine ⟨h.rd, fun d hd => ?_, ?_, h.row, fun k hk => ?_⟩
  · rcases List.mem_cons.1 hd with rfl | hd
    · exact ⟨ha, h1, h2⟩
    · exact h.kept d hd
  · rw [List.map_cons, List.nodup_cons]
    exact ⟨h5, h.nd⟩
  · obtain ⟨o1, o2, o3, o6⟩ := h.own k hk
    refine ⟨o1, o2, o3, fun hm => ?_⟩
    rw [List.map_cons, List.mem_cons] at hm
    rcases hm with hm | hm
    · simp only at hm; subst hm; exact h6 hk
    · exact o6 hm
theorem RdT.perm (h : RdT w wr g s L e size B n c xs) (hp : L.Perm M) : RdT w wr g s M e size B n c xs :=
  ⟨h.rd, fun b hb => h.kept b (hp.mem_iff.2 hb), (hp.map _).nodup_iff.1 h.nd, h.row, fun k hk => ⟨(h.own k hk).1, (h.own k hk).2.1, (h.own k hk).2.2.1, fun hm => (h.own k hk).2.2.2 ((hp.map _).mem_iff.2 hm)⟩⟩
/-- The row is whole: it lies among the blocks told, at the end. -/
theorem RdT.turnE (h : RdT w wr g s L e size B n c xs) (e2 : TypeId) (size2 : Nat) : ∃ Z, RdT w wr g s (L ++ Z) e2 size2 none 0 0 [] ∧ ∀ w', (∀ b ∈ Z, At w' b.b b.t b.cs) → Row w' e size B n c xs := by
  by_cases hc : 0 < c
  · obtain ⟨k, off, cur, rfl, h1, h2⟩ := h.row.at_ hc
    obtain ⟨o1, o2, o3, o6⟩ := h.own k (by simp [ablk])
    have h3 : RdT w wr g s L e2 size2 none 0 0 [] := ⟨h.rd, h.kept, h.nd, Row.nil _ _ _ _, by simp [ablk]⟩
    refine ⟨[⟨k, e, cur⟩], (h3.hold h1 o1 o3 o6 (by simp [ablk])).perm (List.perm_append_comm (l₁ := [_])), fun w' hk => ?_⟩
    refine h.row.kept fun j hj _ => ?_
    obtain rfl : j = k := by simpa [ablk] using hj
    exact (hk ⟨j, e, cur⟩ (by simp)).trans h1.symm
  · obtain rfl : c = 0 := by omega
    refine ⟨[], ?_, fun w' _ => ⟨h.row.le, h.row.max, h.row.len, fun h0 => absurd h0 (by omega)⟩⟩
    rw [List.append_nil]
    exact ⟨h.rd, h.kept, h.nd, Row.nil _ _ _ _, by simp [ablk]⟩
end
end Go.Proofs.Ytfbpmngdamaobaa
