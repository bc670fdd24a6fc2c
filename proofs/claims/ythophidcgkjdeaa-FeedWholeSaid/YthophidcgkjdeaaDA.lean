/- Feeds (layer 26): Put, by the program and by the document. Condition: less than 1000 messages. -/
import Derived.Test.YthophidcgkjdeaaGA
import Derived.Test.YthophidcgkjdeaaM13
import Derived.Test.YthophidcgkjdeaaRU
/- Feeds (layer 26): Put. Condition: less than 1000 messages. -/
namespace Go.Proofs.Ythophidcgkjdeaa
open Go.RowKit
attribute [local go_sem] Later.cell QUpon_value QUpon_enter MUpon_value run_eql_slice_nil Same.cell
attribute [local go_sem ↓ high] loadMsg_is storeMsg_is
attribute [local go_sem] run_loadMsg run_loadMsg_at run_storeMsg one_int one_bool one_slice one_ptr one_str setRow_new setRow_past cell_ca frozen_ca cellsAt_alloc_at cellsAt_alloc_past cellsAt_drew cellsAt_later cellsAt_setCell cellsAt_set_same cellsAt_setRow_same cellsAt_setRow_far subAt_alloc subAt_drew subAt_later subAt_setCell subAt_setRow ltn_2 ltn_3 ltn_4 ltn_5
def putM (tick : Int) (n : Nat) (m : Mg) : Mg := ⟨m.kind, m.sym, (n : Int) + 1, tick, m.id, m.wth, m.price, m.qty, m.code⟩
theorem putM_ok {tick : Int} {n : Nat} {m : Mg} (ht : I64 tick) (hn : n < 1000) (h : m.Ok) : (putM tick n m).Ok := ⟨h.kind, h.sym, ⟨by simp [putM]; omega, by simp [putM]; omega⟩, ht, h.id, h.wth, h.price, h.qty, h.code⟩
/-- A feed. -/
structure FdP (w : World) (g : Nat) (A : Option Addr) (l : List Mg) : Prop where
  alt : ∀ k ∈ ablk A, k < w.heap.size ∧ k ≠ g
  ex : ∃ c, At w g 53 #[.slice A l.length c] ∧ Row w 34 9 A l.length c (l.flatMap Mg.cells)
theorem FdP.ext {w w' : World} {g : Nat} {A : Option Addr} {l : List Mg} (h : FdP w g A l) (hx : Ext w w') : FdP w' g A l :=
  ⟨fun k hk => ⟨Nat.lt_of_lt_of_le (h.alt k hk).1 hx.size, (h.alt k hk).2⟩, let ⟨c, hA, hR⟩ := h.ex; ⟨c, hA.ext hx, hR.ext hx⟩⟩
theorem FdP.chg {w w' : World} {g : Nat} {A : Option Addr} {l : List Mg} {m : List Nat} (h : FdP w g A l) (hx : Chg w w' m) (hg : g ∉ m) (hA : ∀ k ∈ ablk A, k ∉ m) : FdP w' g A l :=
  ⟨fun k hk => ⟨Nat.lt_of_lt_of_le (h.alt k hk).1 hx.size, (h.alt k hk).2⟩, let ⟨c, hA1, hR⟩ := h.ex; ⟨c, hx.at hA1 hg, hR.chg hx hA⟩⟩
set_option maxHeartbeats 4000000 in
set_option maxRecDepth 100000 in
theorem fput_no (g : Nat) (A : Option Addr) (l : List Mg) (tick : Int) (m : Mg) (hn : l.length < 1000) (w : World) (hF : FdP w g A l) (hb : rightB (putM tick l.length m) = false) :
    Calls Try.prog 11 #[.pointer (some ⟨g, 0, none⟩), .int .i64 tick, .agg #[.int .i64 m.kind, .int .i64 m.sym, .int .i64 m.seq, .int .i64 m.tick, .int .i64 m.id, .int .i64 m.wth, .int .i64 m.price, .int .i64 m.qty, .int .i64 m.code]] w fun e w' => e = .returned (.tuple #[msgZ, .int .i64 1]) ∧ Ext w w' := by
  obtain ⟨halt, c, hA, hR⟩ := hF
  have C1 := fun W (hW : At W g 53 #[.slice A l.length c]) => last_c g A l.length c W hW
  have C2 := right_c (putM tick l.length m)
  rw [hb] at C2
  have hwn : wrap64 ((l.length : Int) + 1) = (l.length : Int) + 1 := wrap64_in ⟨by omega, by omega⟩
  have HC1 := Lib.hid C1
  have HC2 := Lib.hid C2
  clear C1 C2 hb
  unfold putM at HC2
  have sg := hA.lt
  go_enter Try.func11, Try.ntmps11
  go_wp2_with fail
  refine (HC1.out _ (hA.ext (by repeat (first | (with_reducible exact Ext.refl _) | (with_reducible assumption) | (with_reducible refine Ext.alloc ?_ _) | (with_reducible refine Ext.drew ?_) | (with_reducible refine Ext.drewN ?_ _) | (with_reducible refine Ext.setCell ?_ (by simp; try omega) _) | (with_reducible refine Ext.setRow ?_ (by simp; try omega) _))))).mono ?_
  rintro e w1 ⟨rfl, hxw1⟩
  have M_w1 := At.ext (g := w.heap.size) (t := 34) (cs := #[.int .i64 m.kind, .int .i64 m.sym, .int .i64 m.seq, .int .i64 m.tick, .int .i64 m.id, .int .i64 m.wth, .int .i64 m.price, .int .i64 m.qty, .int .i64 m.code]) (by repeat (first | (with_reducible exact At.new _ _ _) | ((with_reducible refine At.new' _ _ _ _ ?_); simp; done) | (with_reducible assumption) | (with_reducible refine At.drew ?_) | (with_reducible refine At.alloc ?_ _) | (with_reducible apply At.upd) | (with_reducible apply At.setRow) | (with_reducible refine At.rowFar ?_ (by first | (simp; done) | (simp; omega) | omega) _) | ((with_reducible refine At.far ?_ (by first | (simp; done) | (simp; omega) | omega) _)) | (with_reducible rfl) | (simp; done))) hxw1
  have R_w1 := At.ext (g := w.heap.size + 1) (t := 34) (cs := #[.int .i64 0, .int .i64 0, .int .i64 0, .int .i64 0, .int .i64 0, .int .i64 0, .int .i64 0, .int .i64 0, .int .i64 0]) (by repeat (first | (with_reducible exact At.new _ _ _) | ((with_reducible refine At.new' _ _ _ _ ?_); simp; done) | (with_reducible assumption) | (with_reducible refine At.drew ?_) | (with_reducible refine At.alloc ?_ _) | (with_reducible apply At.upd) | (with_reducible apply At.setRow) | (with_reducible refine At.rowFar ?_ (by first | (simp; done) | (simp; omega) | omega) _) | ((with_reducible refine At.far ?_ (by first | (simp; done) | (simp; omega) | omega) _)) | (with_reducible rfl) | (simp; done))) hxw1
  have xw1 : Ext w w1 := Ext.trans (by repeat (first | (with_reducible exact Ext.refl _) | (with_reducible assumption) | (with_reducible refine Ext.alloc ?_ _) | (with_reducible refine Ext.drew ?_) | (with_reducible refine Ext.drewN ?_ _) | (with_reducible refine Ext.setCell ?_ (by simp; try omega) _) | (with_reducible refine Ext.setRow ?_ (by simp; try omega) _))) hxw1
  clear hxw1
  have s_M_w1 := M_w1.lt
  have e_M_w1 := cellsAt_at M_w1
  have s_R_w1 := R_w1.lt
  have e_R_w1 := cellsAt_at R_w1
  have lw : w.heap.size + 1 < w1.heap.size := R_w1.lt
  go_wp2_with fail
  obtain ⟨w2, hw2⟩ : ∃ w2 : World, w2 = (w1.setCell ⟨w.heap.size, 3, none⟩ (.int .i64 tick)).setCell ⟨w.heap.size, 2, none⟩ (.int .i64 ((l.length : Int) + 1)) := ⟨_, rfl⟩
  have x2 : Ext w w2 := by rw [hw2]; exact ((Ext.setCell xw1 (Nat.le_refl _) _).setCell (Nat.le_refl _) _)
  have R2 : At w2 (w.heap.size + 1) 34 #[.int .i64 0, .int .i64 0, .int .i64 0, .int .i64 0, .int .i64 0, .int .i64 0, .int .i64 0, .int .i64 0, .int .i64 0] := by rw [hw2]; exact ((R_w1.far (by simp) _).far (by simp) _)
  rw [← hw2]
  clear hw2 M_w1 R_w1 e_M_w1 e_R_w1
  refine (HC2.out _).mono ?_
  rintro e w3 ⟨rfl, hx3⟩
  have R3 := R2.ext hx3
  have x3 := x2.trans hx3
  have eR := cellsAt_at R3
  have sR := R3.lt
  go_wp2_with fail
  obtain ⟨w8, hw8⟩ : ∃ w8 : World, w8 = w3.setRow (w.heap.size + 1) #[.int .i64 0, .int .i64 0, .int .i64 0, .int .i64 0, .int .i64 0, .int .i64 0, .int .i64 0, .int .i64 0, .int .i64 0] := ⟨_, rfl⟩
  have x8 : Ext w w8 := by rw [hw8]; exact x3.setRow (by omega) _
  have R8 : At w8 (w.heap.size + 1) 34 #[.int .i64 0, .int .i64 0, .int .i64 0, .int .i64 0, .int .i64 0, .int .i64 0, .int .i64 0, .int .i64 0, .int .i64 0] := by rw [hw8]; exact R3.setRow _
  have e8 := cellsAt_at R8
  have s8 := R8.lt
  rw [← hw8]
  clear hw8
  first | refine fin_ret rfl (fun K hK => ?_) | refine fin_norm rfl (fun K hK => ?_)
  simp [results, Try.results11, go_sem, rsat]
  try go_simp
  refine hK _ ?_
  clear hK K
  exact ⟨rfl, x8⟩
set_option maxHeartbeats 4000000 in
set_option maxRecDepth 100000 in
theorem fput_yes (g : Nat) (A : Option Addr) (l : List Mg) (tick : Int) (m : Mg) (hn : l.length < 1000) (w : World) (hF : FdP w g A l) (hb : rightB (putM tick l.length m) = true) :
    Calls Try.prog 11 #[.pointer (some ⟨g, 0, none⟩), .int .i64 tick, .agg #[.int .i64 m.kind, .int .i64 m.sym, .int .i64 m.seq, .int .i64 m.tick, .int .i64 m.id, .int .i64 m.wth, .int .i64 m.price, .int .i64 m.qty, .int .i64 m.code]] w fun e w' => (∃ v, e = .returned (.tuple #[.agg v, .int .i64 0]) ∧ v.size = 9 ∧ v.toList.all (·.oneCell') = true) ∧ ∃ A', FdP w' g A' (l ++ [putM tick l.length m]) ∧ Chg w w' (g :: ablk A) ∧ ∀ k ∈ ablk A', k ∈ ablk A ∨ w.heap.size ≤ k := by
  obtain ⟨halt, c, hA, hR⟩ := hF
  have C1 := fun W (hW : At W g 53 #[.slice A l.length c]) => last_c g A l.length c W hW
  have C2 := right_c (putM tick l.length m)
  rw [hb] at C2
  have hwn : wrap64 ((l.length : Int) + 1) = (l.length : Int) + 1 := wrap64_in ⟨by omega, by omega⟩
  have HC1 := Lib.hid C1
  have HC2 := Lib.hid C2
  clear C1 C2 hb
  have hcs : (putM tick l.length m).cells = [.int .i64 m.kind, .int .i64 m.sym, .int .i64 ((l.length : Int) + 1), .int .i64 tick, .int .i64 m.id, .int .i64 m.wth, .int .i64 m.price, .int .i64 m.qty, .int .i64 m.code] := rfl
  unfold putM at HC2
  have sg := hA.lt
  have hgA : g ∉ ablk A := fun h => (halt g h).2 rfl
  go_enter Try.func11, Try.ntmps11
  go_wp2_with fail
  refine (HC1.out _ (hA.ext (by repeat (first | (with_reducible exact Ext.refl _) | (with_reducible assumption) | (with_reducible refine Ext.alloc ?_ _) | (with_reducible refine Ext.drew ?_) | (with_reducible refine Ext.drewN ?_ _) | (with_reducible refine Ext.setCell ?_ (by simp; try omega) _) | (with_reducible refine Ext.setRow ?_ (by simp; try omega) _))))).mono ?_
  rintro e w1 ⟨rfl, hxw1⟩
  have M_w1 := At.ext (g := w.heap.size) (t := 34) (cs := #[.int .i64 m.kind, .int .i64 m.sym, .int .i64 m.seq, .int .i64 m.tick, .int .i64 m.id, .int .i64 m.wth, .int .i64 m.price, .int .i64 m.qty, .int .i64 m.code]) (by repeat (first | (with_reducible exact At.new _ _ _) | ((with_reducible refine At.new' _ _ _ _ ?_); simp; done) | (with_reducible assumption) | (with_reducible refine At.drew ?_) | (with_reducible refine At.alloc ?_ _) | (with_reducible apply At.upd) | (with_reducible apply At.setRow) | (with_reducible refine At.rowFar ?_ (by first | (simp; done) | (simp; omega) | omega) _) | ((with_reducible refine At.far ?_ (by first | (simp; done) | (simp; omega) | omega) _)) | (with_reducible rfl) | (simp; done))) hxw1
  have R_w1 := At.ext (g := w.heap.size + 1) (t := 34) (cs := #[.int .i64 0, .int .i64 0, .int .i64 0, .int .i64 0, .int .i64 0, .int .i64 0, .int .i64 0, .int .i64 0, .int .i64 0]) (by repeat (first | (with_reducible exact At.new _ _ _) | ((with_reducible refine At.new' _ _ _ _ ?_); simp; done) | (with_reducible assumption) | (with_reducible refine At.drew ?_) | (with_reducible refine At.alloc ?_ _) | (with_reducible apply At.upd) | (with_reducible apply At.setRow) | (with_reducible refine At.rowFar ?_ (by first | (simp; done) | (simp; omega) | omega) _) | ((with_reducible refine At.far ?_ (by first | (simp; done) | (simp; omega) | omega) _)) | (with_reducible rfl) | (simp; done))) hxw1
  have xw1 : Ext w w1 := Ext.trans (by repeat (first | (with_reducible exact Ext.refl _) | (with_reducible assumption) | (with_reducible refine Ext.alloc ?_ _) | (with_reducible refine Ext.drew ?_) | (with_reducible refine Ext.drewN ?_ _) | (with_reducible refine Ext.setCell ?_ (by simp; try omega) _) | (with_reducible refine Ext.setRow ?_ (by simp; try omega) _))) hxw1
  clear hxw1
  have s_M_w1 := M_w1.lt
  have e_M_w1 := cellsAt_at M_w1
  have s_R_w1 := R_w1.lt
  have e_R_w1 := cellsAt_at R_w1
  have lw : w.heap.size + 1 < w1.heap.size := R_w1.lt
  go_wp2_with fail
  obtain ⟨n, hnn⟩ : ∃ n : Int, n = (l.length : Int) + 1 := ⟨_, rfl⟩
  rw [← hnn] at HC2 hcs ⊢
  obtain ⟨w2, hw2⟩ : ∃ w2 : World, w2 = (w1.setCell ⟨w.heap.size, 3, none⟩ (.int .i64 tick)).setCell ⟨w.heap.size, 2, none⟩ (.int .i64 n) := ⟨_, rfl⟩
  have x2 : Ext w w2 := by rw [hw2]; exact ((Ext.setCell xw1 (Nat.le_refl _) _).setCell (Nat.le_refl _) _)
  have M2 : At w2 w.heap.size 34 #[.int .i64 m.kind, .int .i64 m.sym, .int .i64 n, .int .i64 tick, .int .i64 m.id, .int .i64 m.wth, .int .i64 m.price, .int .i64 m.qty, .int .i64 m.code] := by rw [hw2]; exact ((M_w1.set 3 _).set 2 _)
  have R2 : At w2 (w.heap.size + 1) 34 #[.int .i64 0, .int .i64 0, .int .i64 0, .int .i64 0, .int .i64 0, .int .i64 0, .int .i64 0, .int .i64 0, .int .i64 0] := by rw [hw2]; exact ((R_w1.far (by simp) _).far (by simp) _)
  have G2 := hA.ext x2
  rw [← hw2]
  clear hw2 M_w1 R_w1 e_M_w1 e_R_w1 hwn
  have HNN := Lib.hid hnn
  clear hnn
  refine (HC2.out _).mono ?_
  rintro e w3 ⟨rfl, hx3⟩
  have M3 := M2.ext hx3
  have R3 := R2.ext hx3
  have G3 := G2.ext hx3
  have x3 := x2.trans hx3
  have L3 := hR.ext x3
  have eM := cellsAt_at M3
  have eR := cellsAt_at R3
  have sM := M3.lt
  have sR := R3.lt
  have sG := G3.lt
  have c0 : w3.cell? ⟨g, 0, none⟩ = some (.slice A l.length c) := G3.cell 0
  have f0 := G3.frozen 0
  go_wp2_with fail
  refine gen_world (fun W => W = w3) rfl (fun w4 hF => ?_)
  subst hF
  refine wp_region_m 7 [0, 0, 0, 0, 1, 1, 2] 6 (MadeS w4 34 1 #[.int .i64 m.kind, .int .i64 m.sym, .int .i64 n, .int .i64 tick, .int .i64 m.id, .int .i64 m.wth, .int .i64 m.price, .int .i64 m.qty, .int .i64 m.code]) _ (by kernel_rfl) (by kernel_rfl) rfl (by omega) rfl MadeS.ext ?_
  simp only [List.take_succ_cons, List.take_zero, List.drop_succ_cons, List.drop_zero]
  refine hl_pure (fun K hK => ?_)
  go_simp
  refine hK _ ?_
  clear hK K
  refine hl_pure (fun K hK => ?_)
  go_simp
  refine hK _ ?_
  clear hK K
  refine hl_pure (fun K hK => ?_)
  go_simp
  refine hK _ ?_
  clear hK K
  refine hl_pure (fun K hK => ?_)
  go_simp
  refine hK _ ?_
  clear hK K
  refine hl_quiet (fun K hK => ?_)
  go_simp
  refine hK _ ?_
  clear hK K
  refine hl_quiet (fun K hK => ?_)
  go_simp
  refine hK _ ?_
  clear hK K
  refine hl_make rfl (fun x => by go_simp; exact Later.mades x _ _ _) ?_
  refine hl_nil ?_
  intro u5 w5 hx5 hu5 K hK
  obtain ⟨q5, rfl, hq5, hB5⟩ := hu5
  go_wp2_with (at_builtin; refine wpList_rowcat rfl _ _ 22 34 9 72 msgZ rfl Try.underlying22 msgInfo rfl (by decide) _ A l.length c (l.flatMap Mg.cells) rfl (L3.ext hx5) _ 1 1 _ rfl (Src.at hB5 rfl) rfl (by unfold maxLen; omega) (by omega) ?_)
  intro A' c' w6 hR6 hC6 hf6
  have s6 := hC6.size
  have s5 := hx5.size
  have C36 : Chg w4 w6 (ablk A) := Chg.step (Chg.of_ext hx5 _) hC6 (fun i hi => .inl hi)
  have hAw : ∀ k ∈ ablk A, k < w.heap.size := fun k hk => (halt k hk).1
  have C06 : Chg w w6 (ablk A) := Chg.step (Chg.of_ext x3 _) C36 (fun i hi => .inl hi)
  have M6 := C36.at M3 (fun h => by have := hAw _ h; omega)
  have R6 := C36.at R3 (fun h => by have := hAw _ h; omega)
  have G6 := C36.at G3 hgA
  have eM6 := cellsAt_at M6
  have eR6 := cellsAt_at R6
  have sM6 := M6.lt
  have sR6 := R6.lt
  have sG6 := G6.lt
  have c6 : w6.cell? ⟨g, 0, none⟩ = some (.slice A l.length c) := G6.cell 0
  have f6 := G6.frozen 0
  have hgM : w.heap.size ≠ g := by omega
  have hgR : w.heap.size + 1 ≠ g := by omega
  have hnew : ∀ k ∈ ablk A', (k ∈ ablk A ∨ w4.heap.size ≤ k) ∧ k < w6.heap.size ∧ k ≠ g ∧ k ≠ w.heap.size ∧ k ≠ w.heap.size + 1 := fun k hk => by
    rcases hf6 k hk with h1 | h1
    · have := halt k h1
      exact ⟨.inl h1, by omega, this.2, by omega, by omega⟩
    · exact ⟨.inr (by omega), h1.2, by omega, by omega, by omega⟩
  have hcat : (l ++ [putM tick l.length m]).flatMap Mg.cells = l.flatMap Mg.cells ++ [.int .i64 m.kind, .int .i64 m.sym, .int .i64 n, .int .i64 tick, .int .i64 m.id, .int .i64 m.wth, .int .i64 m.price, .int .i64 m.qty, .int .i64 m.code] := by rw [List.flatMap_append, ← hcs]; simp
  have HCAT := Lib.hid hcat
  clear c0 f0 eM eR sM sR sG M3 R3 G3 hC6 hx5 hB5 L3 hcat hcs
  go_wp2_with fail
  obtain ⟨w8, hw8⟩ : ∃ w8 : World, w8 = (w6.setCell ⟨g, 0, none⟩ (.slice A' (l.length + 1) c')).setRow (w.heap.size + 1) #[.int .i64 m.kind, .int .i64 m.sym, .int .i64 n, .int .i64 tick, .int .i64 m.id, .int .i64 m.wth, .int .i64 m.price, .int .i64 m.qty, .int .i64 m.code] := ⟨_, rfl⟩
  have C8 : Chg w w8 (g :: ablk A) := by rw [hw8]; exact (((C06.mono (fun k _ hk => by simp [hk])).set (.inl (by simp)) _).setRow (.inr (by simp)) _)
  have R8 : At w8 (w.heap.size + 1) 34 #[.int .i64 m.kind, .int .i64 m.sym, .int .i64 n, .int .i64 tick, .int .i64 m.id, .int .i64 m.wth, .int .i64 m.price, .int .i64 m.qty, .int .i64 m.code] := by rw [hw8]; exact (R6.far (by simpa using hgR) _).setRow _
  have G8 : At w8 g 53 #[.slice A' (l.length + 1) c'] := by rw [hw8]; exact (G6.set 0 _).rowFar (by omega) _
  have L8 : Row w8 34 9 A' (l.length + 1) c' ((l ++ [putM tick l.length m]).flatMap Mg.cells) := by
    rw [hw8, HCAT.out]
    exact (hR6.set (fun h => (hnew g h).2.2.1 rfl) _).setRow (fun h => (hnew _ h).2.2.2.2 rfl) _
  have e8 := cellsAt_at R8
  have s8 := R8.lt
  have s68 : w6.heap.size ≤ w8.heap.size := by rw [hw8]; simp
  rw [← hw8]
  clear hw8 eM6 eR6 c6 f6 M6 R6 G6
  first | refine fin_ret rfl (fun K hK => ?_) | refine fin_norm rfl (fun K hK => ?_)
  simp [results, Try.results11, go_sem, rsat]
  try go_simp
  refine hK _ ?_
  clear hK K
  refine ⟨⟨_, rfl, rfl, rfl⟩, A', ⟨fun k hk => ⟨by have := (hnew k hk).2.1; omega, (hnew k hk).2.2.1⟩, c', ?_, ?_⟩, C8, fun k hk => (hnew k hk).1.imp id (fun h => by have := x3.size; omega)⟩
  · rw [List.length_append]; exact G8
  · rw [List.length_append]; exact L8
end Go.Proofs.Ythophidcgkjdeaa
/- Feeds by the document (layer 26): Put. Condition: less than 1000 messages. -/
namespace Go.Proofs.Ythophidcgkjdeaa
open Go.RowKit
attribute [local go_sem] Later.cell QUpon_value QUpon_enter MUpon_value run_eql_slice_nil Same.cell
attribute [local go_sem ↓ high] loadMsg_is storeMsg_is
attribute [local go_sem] run_loadMsg run_loadMsg_at run_storeMsg one_int one_bool one_slice one_ptr one_str setRow_new setRow_past cell_ca frozen_ca cellsAt_alloc_at cellsAt_alloc_past cellsAt_drew cellsAt_later cellsAt_setCell cellsAt_set_same cellsAt_setRow_same cellsAt_setRow_far subAt_alloc subAt_drew subAt_later subAt_setCell subAt_setRow ltn_2 ltn_3 ltn_4 ltn_5
/-- The document's feed. -/
structure FdR (w : World) (g : Nat) (A : Option Addr) (l : List Mg) : Prop where
  alt : ∀ k ∈ ablk A, k < w.heap.size ∧ k ≠ g
  ex : ∃ c, At w g 32 #[.slice A l.length c] ∧ Row w 34 9 A l.length c (l.flatMap Mg.cells)
theorem FdR.ext {w w' : World} {g : Nat} {A : Option Addr} {l : List Mg} (h : FdR w g A l) (hx : Ext w w') : FdR w' g A l :=
  ⟨fun k hk => ⟨Nat.lt_of_lt_of_le (h.alt k hk).1 hx.size, (h.alt k hk).2⟩, let ⟨c, hA, hR⟩ := h.ex; ⟨c, hA.ext hx, hR.ext hx⟩⟩
theorem FdR.chg {w w' : World} {g : Nat} {A : Option Addr} {l : List Mg} {m : List Nat} (h : FdR w g A l) (hx : Chg w w' m) (hg : g ∉ m) (hA : ∀ k ∈ ablk A, k ∉ m) : FdR w' g A l :=
  ⟨fun k hk => ⟨Nat.lt_of_lt_of_le (h.alt k hk).1 hx.size, (h.alt k hk).2⟩, let ⟨c, hA1, hR⟩ := h.ex; ⟨c, hx.at hA1 hg, hR.chg hx hA⟩⟩
theorem msgs_one (l : List Mg) : (l.flatMap Mg.cells).all (·.oneCell') = true := by
  induction l with
  | nil => rfl
  | cons x l ih => rw [List.flatMap_cons, List.all_append, ih]; rfl
set_option maxHeartbeats 4000000 in
set_option maxRecDepth 100000 in
theorem rfput_no (g : Nat) (A : Option Addr) (l : List Mg) (tick : Int) (m : Mg) (hn : l.length < 1000) (w : World) (hF : FdR w g A l) (hb : rightB (putM tick l.length m) = false) :
    Calls Try.prog 12 #[.pointer (some ⟨g, 0, none⟩), .int .i64 tick, .agg #[.int .i64 m.kind, .int .i64 m.sym, .int .i64 m.seq, .int .i64 m.tick, .int .i64 m.id, .int .i64 m.wth, .int .i64 m.price, .int .i64 m.qty, .int .i64 m.code]] w fun e w' => e = .returned (.tuple #[msgZ, .int .i64 1]) ∧ Ext w w' := by
  obtain ⟨halt, c, hA, hR⟩ := hF
  have C2 := rright_c (putM tick l.length m)
  rw [hb] at C2
  have hwn : wrap64 ((l.length : Int) + 1) = (l.length : Int) + 1 := wrap64_in ⟨by omega, by omega⟩
  have HC2 := Lib.hid C2
  clear C2 hb
  unfold putM at HC2
  have sg := hA.lt
  have c0 : w.cell? ⟨g, 0, none⟩ = some (.slice A l.length c) := hA.cell 0
  go_enter Try.func12, Try.ntmps12
  go_wp2_with fail
  obtain ⟨n, hnn⟩ : ∃ n : Int, n = (l.length : Int) + 1 := ⟨_, rfl⟩
  rw [← hnn] at HC2 ⊢
  obtain ⟨w2, hw2⟩ : ∃ w2 : World, w2 = (w.alloc (.cells #[.int .i64 m.kind, .int .i64 m.sym, .int .i64 n, .int .i64 tick, .int .i64 m.id, .int .i64 m.wth, .int .i64 m.price, .int .i64 m.qty, .int .i64 m.code] 34)).alloc (.cells #[.int .i64 0, .int .i64 0, .int .i64 0, .int .i64 0, .int .i64 0, .int .i64 0, .int .i64 0, .int .i64 0, .int .i64 0] 34) := ⟨_, rfl⟩
  have x2 : Ext w w2 := by rw [hw2]; exact ((Ext.refl w).alloc _).alloc _
  have M2 : At w2 w.heap.size 34 #[.int .i64 m.kind, .int .i64 m.sym, .int .i64 n, .int .i64 tick, .int .i64 m.id, .int .i64 m.wth, .int .i64 m.price, .int .i64 m.qty, .int .i64 m.code] := by rw [hw2]; exact (At.new _ _ _).alloc _
  have R2 : At w2 (w.heap.size + 1) 34 #[.int .i64 0, .int .i64 0, .int .i64 0, .int .i64 0, .int .i64 0, .int .i64 0, .int .i64 0, .int .i64 0, .int .i64 0] := by rw [hw2]; exact At.new' _ _ _ _ (by simp)
  rw [← hw2]
  clear hw2 c0 hwn
  have HNN := Lib.hid hnn
  clear hnn
  refine (HC2.out _).mono ?_
  rintro e w3 ⟨rfl, hx3⟩
  have R3 := R2.ext hx3
  have M3 := M2.ext hx3
  have x3 := x2.trans hx3
  have eR := cellsAt_at R3
  have sR := R3.lt
  go_wp2_with fail
  obtain ⟨w8, hw8⟩ : ∃ w8 : World, w8 = w3.setRow (w.heap.size + 1) #[.int .i64 0, .int .i64 0, .int .i64 0, .int .i64 0, .int .i64 0, .int .i64 0, .int .i64 0, .int .i64 0, .int .i64 0] := ⟨_, rfl⟩
  have x8 : Ext w w8 := by rw [hw8]; exact x3.setRow (by omega) _
  have R8 : At w8 (w.heap.size + 1) 34 #[.int .i64 0, .int .i64 0, .int .i64 0, .int .i64 0, .int .i64 0, .int .i64 0, .int .i64 0, .int .i64 0, .int .i64 0] := by rw [hw8]; exact R3.setRow _
  have e8 := cellsAt_at R8
  have s8 := R8.lt
  rw [← hw8]
  clear hw8
  first | refine fin_ret rfl (fun K hK => ?_) | refine fin_norm rfl (fun K hK => ?_)
  simp [results, Try.results12, go_sem, rsat]
  try go_simp
  refine hK _ ?_
  clear hK K
  exact ⟨rfl, x8⟩
theorem cellsAt_sameV {W : World} {bl : List Nat} (x : Same W bl) (n : Nat) (h : n ∈ bl) : cellsAt x.1 n = cellsAt W n := by
  unfold cellsAt; rw [x.2 n h]
attribute [local go_sem] cellsAt_sameV
theorem Chg.extOfV {w0 a b : World} {m : List Nat} (h : Chg a b m) (hx : Ext w0 a) (hm : ∀ i ∈ m, w0.heap.size ≤ i) : Ext w0 b := (Chg.step (Chg.of_ext hx []) h (fun i hi => .inr (hm i hi))).ext (by simp)
set_option maxHeartbeats 8000000 in
set_option maxRecDepth 100000 in
theorem rfput_yes (g : Nat) (A : Option Addr) (l : List Mg) (tick : Int) (m : Mg) (hn : l.length < 1000) (w : World) (hF : FdR w g A l) (hb : rightB (putM tick l.length m) = true) :
    Calls Try.prog 12 #[.pointer (some ⟨g, 0, none⟩), .int .i64 tick, .agg #[.int .i64 m.kind, .int .i64 m.sym, .int .i64 m.seq, .int .i64 m.tick, .int .i64 m.id, .int .i64 m.wth, .int .i64 m.price, .int .i64 m.qty, .int .i64 m.code]] w fun e w' => (∃ v, e = .returned (.tuple #[.agg v, .int .i64 0]) ∧ v.size = 9 ∧ v.toList.all (·.oneCell') = true) ∧ ∃ A', FdR w' g A' (l ++ [putM tick l.length m]) ∧ Chg w w' [g] ∧ ∀ k ∈ ablk A', w.heap.size ≤ k := by
  obtain ⟨halt, c, hA, hR⟩ := hF
  have C2 := rright_c (putM tick l.length m)
  rw [hb] at C2
  have hwn : wrap64 ((l.length : Int) + 1) = (l.length : Int) + 1 := wrap64_in ⟨by omega, by omega⟩
  have HC2 := Lib.hid C2
  clear C2 hb
  have hcat : (l ++ [putM tick l.length m]).flatMap Mg.cells = l.flatMap Mg.cells ++ #[.int .i64 m.kind, .int .i64 m.sym, .int .i64 ((l.length : Int) + 1), .int .i64 tick, .int .i64 m.id, .int .i64 m.wth, .int .i64 m.price, .int .i64 m.qty, .int .i64 m.code].toList := by rw [List.flatMap_append]; simp [Mg.cells, putM]
  unfold putM at HC2
  have sg := hA.lt
  have c0 : w.cell? ⟨g, 0, none⟩ = some (.slice A l.length c) := hA.cell 0
  go_enter Try.func12, Try.ntmps12
  go_wp2_with fail
  obtain ⟨n, hnn⟩ : ∃ n : Int, n = (l.length : Int) + 1 := ⟨_, rfl⟩
  rw [← hnn] at HC2 hcat ⊢
  have HCAT := Lib.hid hcat
  clear hcat
  obtain ⟨w2, hw2⟩ : ∃ w2 : World, w2 = (w.alloc (.cells #[.int .i64 m.kind, .int .i64 m.sym, .int .i64 n, .int .i64 tick, .int .i64 m.id, .int .i64 m.wth, .int .i64 m.price, .int .i64 m.qty, .int .i64 m.code] 34)).alloc (.cells #[.int .i64 0, .int .i64 0, .int .i64 0, .int .i64 0, .int .i64 0, .int .i64 0, .int .i64 0, .int .i64 0, .int .i64 0] 34) := ⟨_, rfl⟩
  have x2 : Ext w w2 := by rw [hw2]; exact ((Ext.refl w).alloc _).alloc _
  have M2 : At w2 w.heap.size 34 #[.int .i64 m.kind, .int .i64 m.sym, .int .i64 n, .int .i64 tick, .int .i64 m.id, .int .i64 m.wth, .int .i64 m.price, .int .i64 m.qty, .int .i64 m.code] := by rw [hw2]; exact (At.new _ _ _).alloc _
  have R2 : At w2 (w.heap.size + 1) 34 #[.int .i64 0, .int .i64 0, .int .i64 0, .int .i64 0, .int .i64 0, .int .i64 0, .int .i64 0, .int .i64 0, .int .i64 0] := by rw [hw2]; exact At.new' _ _ _ _ (by simp)
  rw [← hw2]
  clear hw2 c0 hwn
  have HNN := Lib.hid hnn
  clear hnn
  refine (HC2.out _).mono ?_
  rintro e w3 ⟨rfl, hx3⟩
  have R3 := R2.ext hx3
  have M3 := M2.ext hx3
  have x3 := x2.trans hx3
  have hR3 := hR.ext x3
  have G3 := hA.ext x3
  have c0 : w3.cell? ⟨g, 0, none⟩ = some (.slice A l.length c) := G3.cell 0
  have eM3 := cellsAt_at M3
  have sM3 := M3.lt
  have sG3 := G3.lt
  have hgM : w.heap.size ≠ g := by omega
  have hgR : w.heap.size + 1 ≠ g := by omega
  go_wp2_with fail
  refine gen_world (fun W => W = w3) rfl (fun w4 hF => ?_)
  subst hF
  have G4 := G3
  have M4 := M3
  have R4 := R3
  have hR4 := hR3
  have sR4 := R4.lt
  have SP : ∀ {W : World}, Ext w4 W → ∀ b ∈ [g, w.heap.size], W.heap[b]? = w4.heap[b]? := fun hx b hb => by
    rcases List.mem_cons.1 hb with h1 | h1
    · rw [h1]; exact hx.block _ sG3
    · rw [List.mem_singleton.1 h1]; exact hx.block _ sM3
  clear G3 M3 R3 hR3
  refine wp_region_u [0, 1, 0, 0, 0, 0, 1, 0, 1, 1, 0, 0, 1] (fun x => ∀ b ∈ [g, w.heap.size], x.heap[b]? = w4.heap[b]?) 5 [1, 6, 8, 9, 12] (by kernel_rfl) (by kernel_rfl) (by kernel_rfl) (by kernel_rfl) ?_
  refine hls_same (fun K hK => ?_)
  go_simp
  refine hK _ ?_
  clear hK K
  refine hls_skip (by decide) ?_
  refine hls_same (fun K hK => ?_)
  go_simp
  refine hK _ ?_
  clear hK K
  refine hls_same (fun K hK => ?_)
  go_simp
  refine hK _ ?_
  clear hK K
  refine hls_same (fun K hK => ?_)
  go_simp
  refine hK _ ?_
  clear hK K
  refine hls_same (fun K hK => ?_)
  go_simp
  refine hK _ ?_
  clear hK K
  refine hls_skip (by decide) ?_
  refine hls_same (fun K hK => ?_)
  go_simp
  refine hK _ ?_
  clear hK K
  refine hls_skip (by decide) ?_
  refine hls_skip (by decide) ?_
  refine hls_same (fun K hK => ?_)
  go_simp
  refine hK _ ?_
  clear hK K
  refine hls_same (fun K hK => ?_)
  go_simp
  refine hK _ ?_
  clear hK K
  refine hls_skip (by decide) ?_
  refine hls_nil ?_
  intro w5 hxw5 Qy hQy
  have x5 := hxw5
  have s5 := x5.size
  clear c0 eM3
  refine utree_fork 1 8 (by kernel_rfl) rfl rfl (by first | exact SP x5 | simpa [sG3, sM3] using SP x5) (utree_op rfl (fun K' hK' => ?_)) (utree_op rfl (fun K' hK' => ?_))
  · go_wp2_with fail
    have xa : Ext w4 (w5.alloc (.cells #[] 34)) := x5.alloc _
    refine utree_fork 6 8 (by kernel_rfl) rfl rfl (by first | exact SP xa | simpa [sG3, sM3] using SP xa) (utree_op rfl (fun K' hK' => ?_)) (utree_op rfl (fun K' hK' => ?_))
    · refine wpList_rowcat rfl _ _ 22 34 9 72 msgZ rfl Try.underlying22 msgInfo rfl (by decide) _ _ 0 0 [] rfl (Row.nil _ _ _ _) _ l.length c (l.flatMap Mg.cells) rfl (hR4.ext xa).src (msgs_one l) (by unfold maxLen; omega) (by omega) ?_
      intro A1 c1 w6 R1 C1 f1
      rw [Nat.zero_add, List.nil_append] at R1
      have s6 := C1.size
      try simp at s6
      have hn1 : ∀ k ∈ ablk A1, w4.heap.size ≤ k ∧ k < w6.heap.size := fun k hk => by
        rcases f1 k hk with h1 | h1
        · first | (simp [ablk] at h1; omega) | omega
        · first | (simp at h1; omega) | omega
      have x6 : Ext w4 w6 := Chg.extOfV (C1) xa (fun i hi => by simp [ablk] at hi; omega)
      go_wp2_with fail
      refine utree_one 8 (by kernel_rfl) rfl (by first | exact SP x6 | simpa [sG3, sM3] using SP x6) (utree_op rfl (fun K' hK' => ?_))
      have eM6 := cellsAt_at (M4.ext x6)
      have sM6 := (M4.ext x6).lt
      go_wp2_with fail
      refine utree_one 9 (by kernel_rfl) rfl (by first | exact SP (x6.alloc (.cells #[.int .i64 m.kind, .int .i64 m.sym, .int .i64 n, .int .i64 tick, .int .i64 m.id, .int .i64 m.wth, .int .i64 m.price, .int .i64 m.qty, .int .i64 m.code] 34)) | simpa [sG3, sM3] using SP (x6.alloc (.cells #[.int .i64 m.kind, .int .i64 m.sym, .int .i64 n, .int .i64 tick, .int .i64 m.id, .int .i64 m.wth, .int .i64 m.price, .int .i64 m.qty, .int .i64 m.code] 34))) (utree_op rfl (fun K' hK' => ?_))
      refine wpList_rowcat rfl _ _ 22 34 9 72 msgZ rfl Try.underlying22 msgInfo rfl (by decide) _ A1 l.length c1 (l.flatMap Mg.cells) rfl (R1.alloc _) _ 1 1 #[.int .i64 m.kind, .int .i64 m.sym, .int .i64 n, .int .i64 tick, .int .i64 m.id, .int .i64 m.wth, .int .i64 m.price, .int .i64 m.qty, .int .i64 m.code].toList rfl (Src.at (At.new _ _ _) rfl) rfl (by unfold maxLen; omega) (by omega) ?_
      intro A2 c2 wd Rd Cd fd0
      have sd0 := Cd.size
      try simp at sd0
      have xd : Ext w4 wd := Chg.extOfV Cd (x6.alloc (.cells #[.int .i64 m.kind, .int .i64 m.sym, .int .i64 n, .int .i64 tick, .int .i64 m.id, .int .i64 m.wth, .int .i64 m.price, .int .i64 m.qty, .int .i64 m.code] 34)) (fun i hi => (hn1 i hi).1)
      have hnew : ∀ k ∈ ablk A2, w4.heap.size ≤ k ∧ k < wd.heap.size := fun k hk => by
        rcases fd0 k hk with h1 | h1
        · have := hn1 k h1; omega
        · have := x6.size; first | (simp at h1; omega) | omega
      have Gd := G4.ext xd
      have fd := Gd.frozen 0
      have cd : wd.cell? ⟨g, 0, none⟩ = some (.slice A l.length c) := Gd.cell 0
      have sd := Gd.lt
      go_wp2_with fail
      refine utree_one 12 (by kernel_rfl) rfl (by first | exact SP xd | simpa [sG3, sM3] using SP xd) (utree_op rfl (fun K' hK' => ?_))
      go_wp2_with fail
      refine utree_end (hQy _ _ ?_)
      have eM := cellsAt_at ((M4.ext xd).far (p := ⟨g, 0, none⟩) (by simpa using hgM) (.slice A2 (l.length + 1) c2))
      have sM := ((M4.ext xd).far (p := ⟨g, 0, none⟩) (by simpa using hgM) (.slice A2 (l.length + 1) c2)).lt
      have eR := cellsAt_at ((R4.ext xd).far (p := ⟨g, 0, none⟩) (by simpa using hgR) (.slice A2 (l.length + 1) c2))
      have sR := ((R4.ext xd).far (p := ⟨g, 0, none⟩) (by simpa using hgR) (.slice A2 (l.length + 1) c2)).lt
      clear fd cd
      go_wp2_with fail
      obtain ⟨w8, hw8⟩ : ∃ w8 : World, w8 = (wd.setCell ⟨g, 0, none⟩ (.slice A2 (l.length + 1) c2)).setRow (w.heap.size + 1) #[.int .i64 m.kind, .int .i64 m.sym, .int .i64 n, .int .i64 tick, .int .i64 m.id, .int .i64 m.wth, .int .i64 m.price, .int .i64 m.qty, .int .i64 m.code] := ⟨_, rfl⟩
      have C8 : Chg w w8 [g] := by rw [hw8]; exact (((Chg.of_ext (x3.trans xd) [g]).set (.inl (by simp)) _).setRow (.inr (by simp)) _)
      have R8 : At w8 (w.heap.size + 1) 34 #[.int .i64 m.kind, .int .i64 m.sym, .int .i64 n, .int .i64 tick, .int .i64 m.id, .int .i64 m.wth, .int .i64 m.price, .int .i64 m.qty, .int .i64 m.code] := by rw [hw8]; exact ((R4.ext xd).far (by simpa using hgR) _).setRow _
      have G8 : At w8 g 32 #[.slice A2 (l.length + 1) c2] := by rw [hw8]; exact (Gd.set 0 _).rowFar (by omega) _
      have L8 : Row w8 34 9 A2 (l.length + 1) c2 ((l ++ [putM tick l.length m]).flatMap Mg.cells) := by
        rw [hw8, HCAT.out]
        exact (Rd.set (fun h => by have := hnew g h; omega) _).setRow (fun h => by have := hnew _ h; omega) _
      have e8 := cellsAt_at R8
      have s8 := R8.lt
      have s68 : wd.heap.size ≤ w8.heap.size := by rw [hw8]; simp
      have s34 := x3.size
      rw [← hw8]
      clear hw8 eM sM eR sR
      first | refine fin_ret rfl (fun K hK => ?_) | refine fin_norm rfl (fun K hK => ?_)
      simp [results, Try.results12, go_sem, rsat]
      try go_simp
      refine hK _ ?_
      clear hK K
      refine ⟨⟨_, rfl, rfl, rfl⟩, A2, ⟨fun k hk => ⟨by have := (hnew k hk).2; omega, by have := hnew k hk; omega⟩, c2, ?_, ?_⟩, C8, fun k hk => by have := hnew k hk; omega⟩
      · rw [List.length_append]; exact G8
      · rw [List.length_append]; exact L8
    · go_wp2_with fail
      have xb : Ext w4 ((w5.alloc (.cells #[] 34)).alloc (.cells #[.int .i64 m.kind, .int .i64 m.sym, .int .i64 n, .int .i64 tick, .int .i64 m.id, .int .i64 m.wth, .int .i64 m.price, .int .i64 m.qty, .int .i64 m.code] 34)) := xa.alloc _
      have Bb : Src ((w5.alloc (.cells #[] 34)).alloc (.cells #[.int .i64 m.kind, .int .i64 m.sym, .int .i64 n, .int .i64 tick, .int .i64 m.id, .int .i64 m.wth, .int .i64 m.price, .int .i64 m.qty, .int .i64 m.code] 34)) 9 (some ⟨w5.heap.size + 1, 0, none⟩) 1 #[.int .i64 m.kind, .int .i64 m.sym, .int .i64 n, .int .i64 tick, .int .i64 m.id, .int .i64 m.wth, .int .i64 m.price, .int .i64 m.qty, .int .i64 m.code].toList := Src.at (At.new' _ _ _ _ (by simp)) rfl
      refine utree_one 6 (by kernel_rfl) rfl (by first | exact SP xb | simpa [sG3, sM3] using SP xb) (utree_op rfl (fun K' hK' => ?_))
      refine wpList_rowcat rfl _ _ 22 34 9 72 msgZ rfl Try.underlying22 msgInfo rfl (by decide) _ _ 0 0 [] rfl (Row.nil _ _ _ _) _ l.length c (l.flatMap Mg.cells) rfl (hR4.ext xb).src (msgs_one l) (by unfold maxLen; omega) (by omega) ?_
      intro A1 c1 w6 R1 C1 f1
      rw [Nat.zero_add, List.nil_append] at R1
      have s6 := C1.size
      try simp at s6
      have hn1 : ∀ k ∈ ablk A1, w4.heap.size ≤ k ∧ k < w6.heap.size ∧ k ≠ w5.heap.size + 1 := fun k hk => by
        rcases f1 k hk with h1 | h1
        · first | (simp [ablk] at h1; omega) | omega
        · first | (simp at h1; omega) | omega
      have x6 : Ext w4 w6 := Chg.extOfV (C1) xb (fun i hi => by simp [ablk] at hi; omega)
      have B6 := Bb.chg C1 (fun k hk h => by simp [ablk] at hk h; omega)
      go_wp2_with fail
      refine utree_one 9 (by kernel_rfl) rfl (by first | exact SP x6 | simpa [sG3, sM3] using SP x6) (utree_op rfl (fun K' hK' => ?_))
      refine wpList_rowcat rfl _ _ 22 34 9 72 msgZ rfl Try.underlying22 msgInfo rfl (by decide) _ A1 l.length c1 (l.flatMap Mg.cells) rfl R1 _ 1 1 #[.int .i64 m.kind, .int .i64 m.sym, .int .i64 n, .int .i64 tick, .int .i64 m.id, .int .i64 m.wth, .int .i64 m.price, .int .i64 m.qty, .int .i64 m.code].toList rfl B6 rfl (by unfold maxLen; omega) (by omega) ?_
      intro A2 c2 wd Rd Cd fd0
      have sd0 := Cd.size
      try simp at sd0
      have xd : Ext w4 wd := Chg.extOfV Cd x6 (fun i hi => (hn1 i hi).1)
      have hnew : ∀ k ∈ ablk A2, w4.heap.size ≤ k ∧ k < wd.heap.size := fun k hk => by
        rcases fd0 k hk with h1 | h1
        · have := hn1 k h1; omega
        · have := x6.size; first | (simp at h1; omega) | omega
      have Gd := G4.ext xd
      have fd := Gd.frozen 0
      have cd : wd.cell? ⟨g, 0, none⟩ = some (.slice A l.length c) := Gd.cell 0
      have sd := Gd.lt
      go_wp2_with fail
      refine utree_one 12 (by kernel_rfl) rfl (by first | exact SP xd | simpa [sG3, sM3] using SP xd) (utree_op rfl (fun K' hK' => ?_))
      go_wp2_with fail
      refine utree_end (hQy _ _ ?_)
      have eM := cellsAt_at ((M4.ext xd).far (p := ⟨g, 0, none⟩) (by simpa using hgM) (.slice A2 (l.length + 1) c2))
      have sM := ((M4.ext xd).far (p := ⟨g, 0, none⟩) (by simpa using hgM) (.slice A2 (l.length + 1) c2)).lt
      have eR := cellsAt_at ((R4.ext xd).far (p := ⟨g, 0, none⟩) (by simpa using hgR) (.slice A2 (l.length + 1) c2))
      have sR := ((R4.ext xd).far (p := ⟨g, 0, none⟩) (by simpa using hgR) (.slice A2 (l.length + 1) c2)).lt
      clear fd cd
      go_wp2_with fail
      obtain ⟨w8, hw8⟩ : ∃ w8 : World, w8 = (wd.setCell ⟨g, 0, none⟩ (.slice A2 (l.length + 1) c2)).setRow (w.heap.size + 1) #[.int .i64 m.kind, .int .i64 m.sym, .int .i64 n, .int .i64 tick, .int .i64 m.id, .int .i64 m.wth, .int .i64 m.price, .int .i64 m.qty, .int .i64 m.code] := ⟨_, rfl⟩
      have C8 : Chg w w8 [g] := by rw [hw8]; exact (((Chg.of_ext (x3.trans xd) [g]).set (.inl (by simp)) _).setRow (.inr (by simp)) _)
      have R8 : At w8 (w.heap.size + 1) 34 #[.int .i64 m.kind, .int .i64 m.sym, .int .i64 n, .int .i64 tick, .int .i64 m.id, .int .i64 m.wth, .int .i64 m.price, .int .i64 m.qty, .int .i64 m.code] := by rw [hw8]; exact ((R4.ext xd).far (by simpa using hgR) _).setRow _
      have G8 : At w8 g 32 #[.slice A2 (l.length + 1) c2] := by rw [hw8]; exact (Gd.set 0 _).rowFar (by omega) _
      have L8 : Row w8 34 9 A2 (l.length + 1) c2 ((l ++ [putM tick l.length m]).flatMap Mg.cells) := by
        rw [hw8, HCAT.out]
        exact (Rd.set (fun h => by have := hnew g h; omega) _).setRow (fun h => by have := hnew _ h; omega) _
      have e8 := cellsAt_at R8
      have s8 := R8.lt
      have s68 : wd.heap.size ≤ w8.heap.size := by rw [hw8]; simp
      have s34 := x3.size
      rw [← hw8]
      clear hw8 eM sM eR sR
      first | refine fin_ret rfl (fun K hK => ?_) | refine fin_norm rfl (fun K hK => ?_)
      simp [results, Try.results12, go_sem, rsat]
      try go_simp
      refine hK _ ?_
      clear hK K
      refine ⟨⟨_, rfl, rfl, rfl⟩, A2, ⟨fun k hk => ⟨by have := (hnew k hk).2; omega, by have := hnew k hk; omega⟩, c2, ?_, ?_⟩, C8, fun k hk => by have := hnew k hk; omega⟩
      · rw [List.length_append]; exact G8
      · rw [List.length_append]; exact L8
  · go_wp2_with fail
    have xa : Ext w4 (w5.alloc (.cells #[.int .i64 m.kind, .int .i64 m.sym, .int .i64 n, .int .i64 tick, .int .i64 m.id, .int .i64 m.wth, .int .i64 m.price, .int .i64 m.qty, .int .i64 m.code] 34)) := x5.alloc _
    have Ba : Src (w5.alloc (.cells #[.int .i64 m.kind, .int .i64 m.sym, .int .i64 n, .int .i64 tick, .int .i64 m.id, .int .i64 m.wth, .int .i64 m.price, .int .i64 m.qty, .int .i64 m.code] 34)) 9 (some ⟨w5.heap.size, 0, none⟩) 1 #[.int .i64 m.kind, .int .i64 m.sym, .int .i64 n, .int .i64 tick, .int .i64 m.id, .int .i64 m.wth, .int .i64 m.price, .int .i64 m.qty, .int .i64 m.code].toList := Src.at (At.new _ _ _) rfl
    refine utree_one 1 (by kernel_rfl) rfl (by first | exact SP xa | simpa [sG3, sM3] using SP xa) (utree_op rfl (fun K' hK' => ?_))
    go_wp2_with fail
    have xb : Ext w4 ((w5.alloc (.cells #[.int .i64 m.kind, .int .i64 m.sym, .int .i64 n, .int .i64 tick, .int .i64 m.id, .int .i64 m.wth, .int .i64 m.price, .int .i64 m.qty, .int .i64 m.code] 34)).alloc (.cells #[] 34)) := xa.alloc _
    refine utree_one 6 (by kernel_rfl) rfl (by first | exact SP xb | simpa [sG3, sM3] using SP xb) (utree_op rfl (fun K' hK' => ?_))
    refine wpList_rowcat rfl _ _ 22 34 9 72 msgZ rfl Try.underlying22 msgInfo rfl (by decide) _ _ 0 0 [] rfl (Row.nil _ _ _ _) _ l.length c (l.flatMap Mg.cells) rfl (hR4.ext xb).src (msgs_one l) (by unfold maxLen; omega) (by omega) ?_
    intro A1 c1 w6 R1 C1 f1
    rw [Nat.zero_add, List.nil_append] at R1
    have s6 := C1.size
    try simp at s6
    have hn1 : ∀ k ∈ ablk A1, w4.heap.size ≤ k ∧ k < w6.heap.size ∧ k ≠ w5.heap.size := fun k hk => by
      rcases f1 k hk with h1 | h1
      · first | (simp [ablk] at h1; omega) | omega
      · first | (simp at h1; omega) | omega
    have x6 : Ext w4 w6 := Chg.extOfV (C1) xb (fun i hi => by simp [ablk] at hi; omega)
    have B6 := (Ba.ext ((Ext.refl _).alloc (.cells #[] 34))).chg C1 (fun k hk h => by simp [ablk] at hk h; omega)
    go_wp2_with fail
    refine utree_one 9 (by kernel_rfl) rfl (by first | exact SP x6 | simpa [sG3, sM3] using SP x6) (utree_op rfl (fun K' hK' => ?_))
    try simp only [Nat.zero_add]
    refine wpList_rowcat rfl _ _ 22 34 9 72 msgZ rfl Try.underlying22 msgInfo rfl (by decide) _ A1 l.length c1 (l.flatMap Mg.cells) rfl R1 _ 1 1 #[.int .i64 m.kind, .int .i64 m.sym, .int .i64 n, .int .i64 tick, .int .i64 m.id, .int .i64 m.wth, .int .i64 m.price, .int .i64 m.qty, .int .i64 m.code].toList rfl B6 rfl (by unfold maxLen; omega) (by omega) ?_
    intro A2 c2 wd Rd Cd fd0
    have sd0 := Cd.size
    try simp at sd0
    have xd : Ext w4 wd := Chg.extOfV Cd x6 (fun i hi => (hn1 i hi).1)
    have hnew : ∀ k ∈ ablk A2, w4.heap.size ≤ k ∧ k < wd.heap.size := fun k hk => by
      rcases fd0 k hk with h1 | h1
      · have := hn1 k h1; omega
      · have := x6.size; first | (simp at h1; omega) | omega
    have Gd := G4.ext xd
    have fd := Gd.frozen 0
    have cd : wd.cell? ⟨g, 0, none⟩ = some (.slice A l.length c) := Gd.cell 0
    have sd := Gd.lt
    go_wp2_with fail
    refine utree_one 12 (by kernel_rfl) rfl (by first | exact SP xd | simpa [sG3, sM3] using SP xd) (utree_op rfl (fun K' hK' => ?_))
    go_wp2_with fail
    refine utree_end (hQy _ _ ?_)
    have eM := cellsAt_at ((M4.ext xd).far (p := ⟨g, 0, none⟩) (by simpa using hgM) (.slice A2 (l.length + 1) c2))
    have sM := ((M4.ext xd).far (p := ⟨g, 0, none⟩) (by simpa using hgM) (.slice A2 (l.length + 1) c2)).lt
    have eR := cellsAt_at ((R4.ext xd).far (p := ⟨g, 0, none⟩) (by simpa using hgR) (.slice A2 (l.length + 1) c2))
    have sR := ((R4.ext xd).far (p := ⟨g, 0, none⟩) (by simpa using hgR) (.slice A2 (l.length + 1) c2)).lt
    clear fd cd
    go_wp2_with fail
    obtain ⟨w8, hw8⟩ : ∃ w8 : World, w8 = (wd.setCell ⟨g, 0, none⟩ (.slice A2 (l.length + 1) c2)).setRow (w.heap.size + 1) #[.int .i64 m.kind, .int .i64 m.sym, .int .i64 n, .int .i64 tick, .int .i64 m.id, .int .i64 m.wth, .int .i64 m.price, .int .i64 m.qty, .int .i64 m.code] := ⟨_, rfl⟩
    have C8 : Chg w w8 [g] := by rw [hw8]; exact (((Chg.of_ext (x3.trans xd) [g]).set (.inl (by simp)) _).setRow (.inr (by simp)) _)
    have R8 : At w8 (w.heap.size + 1) 34 #[.int .i64 m.kind, .int .i64 m.sym, .int .i64 n, .int .i64 tick, .int .i64 m.id, .int .i64 m.wth, .int .i64 m.price, .int .i64 m.qty, .int .i64 m.code] := by rw [hw8]; exact ((R4.ext xd).far (by simpa using hgR) _).setRow _
    have G8 : At w8 g 32 #[.slice A2 (l.length + 1) c2] := by rw [hw8]; exact (Gd.set 0 _).rowFar (by omega) _
    have L8 : Row w8 34 9 A2 (l.length + 1) c2 ((l ++ [putM tick l.length m]).flatMap Mg.cells) := by
      rw [hw8, HCAT.out]
      exact (Rd.set (fun h => by have := hnew g h; omega) _).setRow (fun h => by have := hnew _ h; omega) _
    have e8 := cellsAt_at R8
    have s8 := R8.lt
    have s68 : wd.heap.size ≤ w8.heap.size := by rw [hw8]; simp
    have s34 := x3.size
    rw [← hw8]
    clear hw8 eM sM eR sR
    first | refine fin_ret rfl (fun K hK => ?_) | refine fin_norm rfl (fun K hK => ?_)
    simp [results, Try.results12, go_sem, rsat]
    try go_simp
    refine hK _ ?_
    clear hK K
    refine ⟨⟨_, rfl, rfl, rfl⟩, A2, ⟨fun k hk => ⟨by have := (hnew k hk).2; omega, by have := hnew k hk; omega⟩, c2, ?_, ?_⟩, C8, fun k hk => by have := hnew k hk; omega⟩
    · rw [List.length_append]; exact G8
    · rw [List.length_append]; exact L8
end Go.Proofs.Ythophidcgkjdeaa
