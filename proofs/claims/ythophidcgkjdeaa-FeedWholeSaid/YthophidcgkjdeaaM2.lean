/- Messages (layer 6): the bytes of one that is right. No condition. -/
import Derived.Test.YthophidcgkjdeaaM1b
import Derived.LoopN
namespace Go.Proofs.Ythophidcgkjdeaa
open Go.RowKit
attribute [local go_sem] Later.cell QUpon_value QUpon_enter MUpon_value run_eql_slice_nil Same.cell
attribute [local go_sem ↓ high] loadMsg_is storeMsg_is
attribute [local go_sem] run_loadMsg run_loadMsg_at run_storeMsg one_int one_bool one_slice one_ptr one_str setRow_new setRow_past cell_ca frozen_ca cellsAt_alloc_at cellsAt_alloc_past cellsAt_drew cellsAt_later cellsAt_setCell cellsAt_set_same cellsAt_setRow_same cellsAt_setRow_far subAt_alloc subAt_drew subAt_later subAt_setCell subAt_setRow ltn_2 ltn_3 ltn_4 ltn_5
def formB (m : Mg) : List Int := [m.kind, m.sym, m.code] ++ numB m.seq.toNat ++ numB m.tick.toNat ++ intB m.id ++ intB m.wth ++ intB m.price ++ intB m.qty
structure Mg.Fine (m : Mg) : Prop where
  kind : 1 ≤ m.kind ∧ m.kind ≤ 9
  sym : 0 ≤ m.sym ∧ m.sym ≤ 255
  code : 0 ≤ m.code ∧ m.code ≤ 255
  seq : 0 ≤ m.seq ∧ m.seq ≤ 4611686018427387904
  tick : 0 ≤ m.tick ∧ m.tick ≤ 4611686018427387904
  id : -1 ≤ m.id ∧ m.id ≤ 4611686018427387904
  wth : -1 ≤ m.wth ∧ m.wth ≤ 4611686018427387904
theorem right_iff (m : Mg) : rightB m = true ↔ m.Fine := by
  unfold rightB inB
  simp only [Bool.and_eq_true, decide_eq_true_eq]
  exact ⟨fun ⟨a, b, c, d, e, f, g⟩ => ⟨a, b, c, d, e, f, g⟩, fun ⟨a, b, c, d, e, f, g⟩ => ⟨a, b, c, d, e, f, g⟩⟩
theorem u8_id {x : Int} (h : 0 ≤ x ∧ x ≤ 255) : IntKind.u8.wrap x = x := by
  have := u8_wrap x.toNat
  rw [show ((x.toNat : Nat) : Int) = x by omega] at this
  rw [this]
  omega
theorem u64_id {x : Int} (h : 0 ≤ x ∧ x ≤ 4611686018427387904) : IntKind.u64.wrap x = x := by
  rw [IntKind.wrap_u64]
  omega
theorem rnumI_c (n : Int) (h : 0 ≤ n ∧ n ≤ 4611686018427387904) (w : World) : Calls Try.prog 49 #[.int .u64 n] w fun e w' => Ext w w' ∧ ∃ v, e = .returned v ∧ Own w w' v (numB n.toNat) := by
  have := rnum_c n.toNat (by omega) w
  rwa [show ((n.toNat : Nat) : Int) = n by omega] at this
theorem numI_c (g : Nat) (A : Option Addr) (bs : List Int) (n : Int) (h : 0 ≤ n ∧ n ≤ 4611686018427387904) (w : World) (hW : Wr w g A bs) (hl : bs.length ≤ 1000000000) :
    Calls Try.prog 52 #[.pointer (some ⟨g, 0, none⟩), .int .u64 n] w fun e w' => e = .returned (.pointer (some ⟨g, 0, none⟩)) ∧ ∃ A', Puts w g A (bs ++ numB n.toNat) w' A' := by
  have := num_c g A bs n.toNat (by omega) w hW hl
  rwa [show ((n.toNat : Nat) : Int) = n by omega] at this
theorem intB_len (s : Int) : (intB s).length = 8 := uintB_len _ _
theorem intB_byt (s : Int) : Byt (intB s) := uintB_byt _ _
theorem byt3 {m : Mg} (h : m.Fine) : Byt [m.kind, m.sym, m.code] := by
  have := h.kind; have := h.sym; have := h.code
  intro x hx
  simp at hx
  omega
theorem formB_byt {m : Mg} (h : m.Fine) : Byt (formB m) := (((((byt3 h).app (numB_byt _)).app (numB_byt _)).app (intB_byt _)).app (intB_byt _)).app (intB_byt _) |>.app (intB_byt _)
theorem formB_len {m : Mg} (h : m.Fine) : (formB m).length ≤ 55 := by
  have h1 := numB_len64 (n := m.seq.toNat) (by have := h.seq; omega)
  have h2 := numB_len64 (n := m.tick.toNat) (by have := h.tick; omega)
  unfold formB
  simp only [List.length_append, intB_len, List.length_cons, List.length_nil]
  omega
set_option maxHeartbeats 1000000 in
set_option maxRecDepth 100000 in
theorem form_c (m : Mg) (hO : m.Ok) (hF : m.Fine) (w : World) : Calls Try.prog 34 #[.agg #[.int .i64 m.kind, .int .i64 m.sym, .int .i64 m.seq, .int .i64 m.tick, .int .i64 m.id, .int .i64 m.wth, .int .i64 m.price, .int .i64 m.qty, .int .i64 m.code]] w fun e w' => Ext w w' ∧ ∃ v, e = .returned v ∧ Own w w' v (formB m) := by
  have k1 := u8_id (x := m.kind) (by have := hF.kind; omega)
  have k2 := u8_id hF.sym
  have k3 := u8_id hF.code
  have k4 := u64_id hF.seq
  have k5 := u64_id hF.tick
  have n1 := numB_len64 (n := m.seq.toNat) (by have := hF.seq; omega)
  have n2 := numB_len64 (n := m.tick.toNat) (by have := hF.tick; omega)
  go_enter Try.func34, Try.ntmps34
  go_wp2_with fail
  refine (rnumI_c m.seq hF.seq _).mono ?_
  rintro e w1 ⟨hx1, v1, rfl, o1⟩
  have x0 : Ext w (w.alloc (.cells #[.int .i64 m.kind, .int .i64 m.sym, .int .i64 m.seq, .int .i64 m.tick, .int .i64 m.id, .int .i64 m.wth, .int .i64 m.price, .int .i64 m.qty, .int .i64 m.code] 34)) := (Ext.refl w).alloc _
  have x1 : Ext (w.alloc (.cells #[.int .i64 m.kind, .int .i64 m.sym, .int .i64 m.seq, .int .i64 m.tick, .int .i64 m.id, .int .i64 m.wth, .int .i64 m.price, .int .i64 m.qty, .int .i64 m.code] 34)) w1 := ((Ext.refl _).alloc _).trans hx1
  have M1 : At w1 w.heap.size 34 #[.int .i64 m.kind, .int .i64 m.sym, .int .i64 m.seq, .int .i64 m.tick, .int .i64 m.id, .int .i64 m.wth, .int .i64 m.price, .int .i64 m.qty, .int .i64 m.code] := At.ext (by repeat (first | (with_reducible exact At.new _ _ _) | ((with_reducible refine At.new' _ _ _ _ ?_); simp; done) | (with_reducible assumption) | (with_reducible refine At.drew ?_) | (with_reducible refine At.alloc ?_ _) | (with_reducible apply At.upd) | (with_reducible apply At.setRow) | (with_reducible refine At.rowFar ?_ (by first | (simp; done) | (simp; omega) | omega) _) | ((with_reducible refine At.far ?_ (by first | (simp; done) | (simp; omega) | omega) _)) | (with_reducible rfl) | (simp; done))) hx1
  have O0 : Own (w.alloc (.cells #[.int .i64 m.kind, .int .i64 m.sym, .int .i64 m.seq, .int .i64 m.tick, .int .i64 m.id, .int .i64 m.wth, .int .i64 m.price, .int .i64 m.qty, .int .i64 m.code] 34)) w1 (.slice (some ⟨w.heap.size + 1, 0, none⟩) 3 3) [m.kind, m.sym, m.code] := Own.ext ⟨_, 3, rfl, Row.of_at (w := (w.alloc (.cells #[.int .i64 m.kind, .int .i64 m.sym, .int .i64 m.seq, .int .i64 m.tick, .int .i64 m.id, .int .i64 m.wth, .int .i64 m.price, .int .i64 m.qty, .int .i64 m.code] 34)).alloc (.cells #[.int .u8 m.kind, .int .u8 m.sym, .int .u8 m.code] 5)) (k := 3) (At.new' _ _ _ _ (by simp)) rfl (by decide), fun k hk => by simp [ablk] at hk; subst hk; simp⟩ hx1
  obtain ⟨b0, hb0⟩ : ∃ b : List Int, b = [m.kind, m.sym, m.code] := ⟨_, rfl⟩
  rw [← hb0] at O0
  have lc0 : b0.length ≤ 3 := by rw [hb0]; exact Nat.le_refl _
  have HB0 := Lib.hid hb0
  clear hb0
  obtain ⟨A1, c1, rfl, R1, F1⟩ := o1
  obtain ⟨hn1, Q1, G1⟩ := O0.open_
  have la1 := lc0
  rw [← hn1] at la1
  clear hn1
  have lb1 : (numB m.seq.toNat).length ≤ 10 := by omega
  go_wp2_with (at_builtin; refine wpList_rowcat rfl _ _ 39 5 1 1 (.int .u8 0) rfl Try.underlying39 u8Info rfl (by decide) _ _ _ _ _ rfl Q1 _ _ _ _ rfl R1.src (bc_one _) (by unfold maxLen; omega) (by omega) ?_)
  intro D1 f1 z1 S1 hC1 hf1
  obtain ⟨P1, y1⟩ := Own.app2 (ns := numB m.seq.toNat) O0 x1 (Ext.refl _) hC1 S1 rfl rfl hf1
  obtain ⟨b1, hb1⟩ : ∃ b, b = b0 ++ numB m.seq.toNat := ⟨_, rfl⟩
  rw [← hb1] at P1
  have lc1 : b1.length ≤ 13 := by rw [hb1, List.length_append]; omega
  have HB1 := Lib.hid hb1
  clear hb1
  have N1 : At z1 w.heap.size 34 #[.int .i64 m.kind, .int .i64 m.sym, .int .i64 m.seq, .int .i64 m.tick, .int .i64 m.id, .int .i64 m.wth, .int .i64 m.price, .int .i64 m.qty, .int .i64 m.code] := hC1.at M1 (fun h => by have := (G1 _ h).1; simp at this; omega)
  have e1 := cellsAt_at N1
  have s1 := N1.lt
  clear O0 M1 Q1 R1 hC1 S1 hf1 G1
  go_wp2_with fail
  refine (rnumI_c m.tick hF.tick _).mono ?_
  rintro e u2 ⟨hy2, v2, rfl, o2⟩
  have x2 := y1.trans hy2
  have M2 := N1.ext hy2
  have O1 := P1.ext hy2
  clear N1 P1 e1 s1
  obtain ⟨A2, c2, rfl, R2, F2⟩ := o2
  obtain ⟨hn2, Q2, G2⟩ := O1.open_
  have la2 := lc1
  rw [← hn2] at la2
  clear hn2
  have lb2 : (numB m.tick.toNat).length ≤ 10 := by omega
  go_wp2_with (at_builtin; refine wpList_rowcat rfl _ _ 39 5 1 1 (.int .u8 0) rfl Try.underlying39 u8Info rfl (by decide) _ _ _ _ _ rfl Q2 _ _ _ _ rfl R2.src (bc_one _) (by unfold maxLen; omega) (by omega) ?_)
  intro D2 f2 z2 S2 hC2 hf2
  obtain ⟨P2, y2⟩ := Own.app2 (ns := numB m.tick.toNat) O1 x2 (Ext.refl _) hC2 S2 rfl rfl hf2
  obtain ⟨b2, hb2⟩ : ∃ b, b = b1 ++ numB m.tick.toNat := ⟨_, rfl⟩
  rw [← hb2] at P2
  have lc2 : b2.length ≤ 23 := by rw [hb2, List.length_append]; omega
  have HB2 := Lib.hid hb2
  clear hb2
  have N2 : At z2 w.heap.size 34 #[.int .i64 m.kind, .int .i64 m.sym, .int .i64 m.seq, .int .i64 m.tick, .int .i64 m.id, .int .i64 m.wth, .int .i64 m.price, .int .i64 m.qty, .int .i64 m.code] := hC2.at M2 (fun h => by have := (G2 _ h).1; simp at this; omega)
  have e2 := cellsAt_at N2
  have s2 := N2.lt
  clear O1 M2 Q2 R2 hC2 S2 hf2 G2
  go_wp2_with fail
  refine (rint_c m.id hO.id _).mono ?_
  rintro e u3 ⟨hy3, v3, rfl, o3⟩
  have x3 := y2.trans hy3
  have M3 := N2.ext hy3
  have O2 := P2.ext hy3
  clear N2 P2 e2 s2
  obtain ⟨A3, c3, rfl, R3, F3⟩ := o3
  obtain ⟨hn3, Q3, G3⟩ := O2.open_
  have la3 := lc2
  rw [← hn3] at la3
  clear hn3
  have lb3 : (intB m.id).length ≤ 10 := by rw [intB_len]; omega
  go_wp2_with (at_builtin; refine wpList_rowcat rfl _ _ 39 5 1 1 (.int .u8 0) rfl Try.underlying39 u8Info rfl (by decide) _ _ _ _ _ rfl Q3 _ _ _ _ rfl R3.src (bc_one _) (by unfold maxLen; omega) (by omega) ?_)
  intro D3 f3 z3 S3 hC3 hf3
  obtain ⟨P3, y3⟩ := Own.app2 (ns := intB m.id) O2 x3 (Ext.refl _) hC3 S3 rfl rfl hf3
  obtain ⟨b3, hb3⟩ : ∃ b, b = b2 ++ intB m.id := ⟨_, rfl⟩
  rw [← hb3] at P3
  have lc3 : b3.length ≤ 33 := by rw [hb3, List.length_append]; omega
  have HB3 := Lib.hid hb3
  clear hb3
  have N3 : At z3 w.heap.size 34 #[.int .i64 m.kind, .int .i64 m.sym, .int .i64 m.seq, .int .i64 m.tick, .int .i64 m.id, .int .i64 m.wth, .int .i64 m.price, .int .i64 m.qty, .int .i64 m.code] := hC3.at M3 (fun h => by have := (G3 _ h).1; simp at this; omega)
  have e3 := cellsAt_at N3
  have s3 := N3.lt
  clear O2 M3 Q3 R3 hC3 S3 hf3 G3
  go_wp2_with fail
  refine (rint_c m.wth hO.wth _).mono ?_
  rintro e u4 ⟨hy4, v4, rfl, o4⟩
  have x4 := y3.trans hy4
  have M4 := N3.ext hy4
  have O3 := P3.ext hy4
  clear N3 P3 e3 s3
  obtain ⟨A4, c4, rfl, R4, F4⟩ := o4
  obtain ⟨hn4, Q4, G4⟩ := O3.open_
  have la4 := lc3
  rw [← hn4] at la4
  clear hn4
  have lb4 : (intB m.wth).length ≤ 10 := by rw [intB_len]; omega
  go_wp2_with (at_builtin; refine wpList_rowcat rfl _ _ 39 5 1 1 (.int .u8 0) rfl Try.underlying39 u8Info rfl (by decide) _ _ _ _ _ rfl Q4 _ _ _ _ rfl R4.src (bc_one _) (by unfold maxLen; omega) (by omega) ?_)
  intro D4 f4 z4 S4 hC4 hf4
  obtain ⟨P4, y4⟩ := Own.app2 (ns := intB m.wth) O3 x4 (Ext.refl _) hC4 S4 rfl rfl hf4
  obtain ⟨b4, hb4⟩ : ∃ b, b = b3 ++ intB m.wth := ⟨_, rfl⟩
  rw [← hb4] at P4
  have lc4 : b4.length ≤ 43 := by rw [hb4, List.length_append]; omega
  have HB4 := Lib.hid hb4
  clear hb4
  have N4 : At z4 w.heap.size 34 #[.int .i64 m.kind, .int .i64 m.sym, .int .i64 m.seq, .int .i64 m.tick, .int .i64 m.id, .int .i64 m.wth, .int .i64 m.price, .int .i64 m.qty, .int .i64 m.code] := hC4.at M4 (fun h => by have := (G4 _ h).1; simp at this; omega)
  have e4 := cellsAt_at N4
  have s4 := N4.lt
  clear O3 M4 Q4 R4 hC4 S4 hf4 G4
  go_wp2_with fail
  refine (rint_c m.price hO.price _).mono ?_
  rintro e u5 ⟨hy5, v5, rfl, o5⟩
  have x5 := y4.trans hy5
  have M5 := N4.ext hy5
  have O4 := P4.ext hy5
  clear N4 P4 e4 s4
  obtain ⟨A5, c5, rfl, R5, F5⟩ := o5
  obtain ⟨hn5, Q5, G5⟩ := O4.open_
  have la5 := lc4
  rw [← hn5] at la5
  clear hn5
  have lb5 : (intB m.price).length ≤ 10 := by rw [intB_len]; omega
  go_wp2_with (at_builtin; refine wpList_rowcat rfl _ _ 39 5 1 1 (.int .u8 0) rfl Try.underlying39 u8Info rfl (by decide) _ _ _ _ _ rfl Q5 _ _ _ _ rfl R5.src (bc_one _) (by unfold maxLen; omega) (by omega) ?_)
  intro D5 f5 z5 S5 hC5 hf5
  obtain ⟨P5, y5⟩ := Own.app2 (ns := intB m.price) O4 x5 (Ext.refl _) hC5 S5 rfl rfl hf5
  obtain ⟨b5, hb5⟩ : ∃ b, b = b4 ++ intB m.price := ⟨_, rfl⟩
  rw [← hb5] at P5
  have lc5 : b5.length ≤ 53 := by rw [hb5, List.length_append]; omega
  have HB5 := Lib.hid hb5
  clear hb5
  have N5 : At z5 w.heap.size 34 #[.int .i64 m.kind, .int .i64 m.sym, .int .i64 m.seq, .int .i64 m.tick, .int .i64 m.id, .int .i64 m.wth, .int .i64 m.price, .int .i64 m.qty, .int .i64 m.code] := hC5.at M5 (fun h => by have := (G5 _ h).1; simp at this; omega)
  have e5 := cellsAt_at N5
  have s5 := N5.lt
  clear O4 M5 Q5 R5 hC5 S5 hf5 G5
  go_wp2_with fail
  refine (rint_c m.qty hO.qty _).mono ?_
  rintro e u6 ⟨hy6, v6, rfl, o6⟩
  have x6 := y5.trans hy6
  have M6 := N5.ext hy6
  have O5 := P5.ext hy6
  clear N5 P5 e5 s5
  obtain ⟨A6, c6, rfl, R6, F6⟩ := o6
  obtain ⟨hn6, Q6, G6⟩ := O5.open_
  have la6 := lc5
  rw [← hn6] at la6
  clear hn6
  have lb6 : (intB m.qty).length ≤ 10 := by rw [intB_len]; omega
  go_wp2_with (at_builtin; refine wpList_rowcat rfl _ _ 39 5 1 1 (.int .u8 0) rfl Try.underlying39 u8Info rfl (by decide) _ _ _ _ _ rfl Q6 _ _ _ _ rfl R6.src (bc_one _) (by unfold maxLen; omega) (by omega) ?_)
  intro D6 f6 z6 S6 hC6 hf6
  obtain ⟨P6, y6⟩ := Own.app2 (ns := intB m.qty) O5 x6 (Ext.refl _) hC6 S6 rfl rfl hf6
  obtain ⟨b6, hb6⟩ : ∃ b, b = b5 ++ intB m.qty := ⟨_, rfl⟩
  rw [← hb6] at P6
  have lc6 : b6.length ≤ 63 := by rw [hb6, List.length_append]; omega
  have HB6 := Lib.hid hb6
  clear hb6
  have N6 : At z6 w.heap.size 34 #[.int .i64 m.kind, .int .i64 m.sym, .int .i64 m.seq, .int .i64 m.tick, .int .i64 m.id, .int .i64 m.wth, .int .i64 m.price, .int .i64 m.qty, .int .i64 m.code] := hC6.at M6 (fun h => by have := (G6 _ h).1; simp at this; omega)
  have e6 := cellsAt_at N6
  have s6 := N6.lt
  clear O5 M6 Q6 R6 hC6 S6 hf6 G6
  go_wp2_with fail
  first | refine fin_ret rfl (fun K hK => ?_) | refine fin_norm rfl (fun K hK => ?_)
  simp [results, Try.results34, go_sem, rsat]
  try go_simp
  refine hK _ ?_
  clear hK K
  refine ⟨x0.trans y6, _, rfl, ?_⟩
  have hb : b6 = formB m := by
    simp only [RowKit.Hid] at HB0 HB1 HB2 HB3 HB4 HB5 HB6
    rw [HB6, HB5, HB4, HB3, HB2, HB1, HB0]
    rfl
  rw [← hb]
  exact P6.base x0
end Go.Proofs.Ythophidcgkjdeaa
