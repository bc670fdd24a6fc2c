/- Commands (layer 5): the bytes of one that is right, by the document. No condition. -/
import Derived.Test.YthfomohophmbaaaK1
import Derived.Test.YthfomohophmbaaaO4
import Derived.Test.YthfomohophmbaaaL03
namespace Go.Proofs.Ythfomohophmbaaa
open Go.RowKit
attribute [local go_sem] Later.cell QUpon_value QUpon_enter MUpon_value run_eql_slice_nil Same.cell
attribute [local go_sem ↓ high] loadCmd_is storeCmd_is
attribute [local go_sem] run_loadCmd run_loadCmd_at run_storeCmd one_int one_bool one_slice one_ptr one_str setRow_new setRow_past cell_ca frozen_ca cellsAt_alloc_at cellsAt_alloc_past cellsAt_drew cellsAt_later cellsAt_setCell cellsAt_set_same cellsAt_setRow_same cellsAt_setRow_far subAt_alloc subAt_drew subAt_later subAt_setCell subAt_setRow ltn_2 ltn_3 ltn_4 ltn_5
structure Cm.Fine (c : Cm) : Prop where
  sym : 0 ≤ c.sym ∧ c.sym ≤ 255
  id : 0 ≤ c.id ∧ c.id ≤ 4611686018427387904
  k : (c.kind = 1 ∧ (0 ≤ c.own ∧ c.own ≤ 1073741824) ∧ (0 ≤ c.side ∧ c.side ≤ 1) ∧ (1 ≤ c.typ ∧ c.typ ≤ 5) ∧ (0 ≤ c.flags ∧ c.flags ≤ 7)) ∨ (c.kind = 2 ∧ (c.own = 0 ∧ c.side = 0 ∧ c.typ = 0 ∧ c.flags = 0) ∧ c.price = 0 ∧ c.qty = 0) ∨ (c.kind = 3 ∧ c.own = 0 ∧ c.side = 0 ∧ c.typ = 0 ∧ c.flags = 0)
theorem cright_iff (c : Cm) : rightC c = true ↔ c.Fine := by
  unfold rightC
  simp only [Bool.and_eq_true]
  constructor
  · rintro ⟨h1, h2, h3⟩
    refine ⟨inC_of h1, inC_of h2, ?_⟩
    by_cases k1 : c.kind = 1
    · rw [if_pos k1] at h3
      simp only [Bool.and_eq_true] at h3
      exact .inl ⟨k1, inC_of h3.1, inC_of h3.2.1, inC_of h3.2.2.1, inC_of h3.2.2.2⟩
    rw [if_neg k1] at h3
    by_cases k2 : c.kind = 2
    · rw [if_pos k2] at h3
      unfold bareB at h3
      simp at h3
      exact .inr (.inl ⟨k2, ⟨h3.1.1.1.1, h3.1.1.1.2, h3.1.1.2, h3.1.2⟩, h3.2⟩)
    rw [if_neg k2] at h3
    by_cases k3 : c.kind = 3
    · rw [if_pos k3] at h3
      unfold bareB at h3
      simp at h3
      exact .inr (.inr ⟨k3, h3.1.1.1, h3.1.1.2, h3.1.2, h3.2⟩)
    · rw [if_neg k3] at h3
      cases h3
  · rintro ⟨h1, h2, h3⟩
    refine ⟨inC_if h1, inC_if h2, ?_⟩
    rcases h3 with ⟨k, a, b, d, e⟩ | ⟨k, ⟨a, b, d, e⟩, p, q⟩ | ⟨k, a, b, d, e⟩
    · rw [if_pos k, inC_if a, inC_if b, inC_if d, inC_if e]
      rfl
    · rw [if_neg (by omega), if_pos k]
      unfold bareB
      simp [a, b, d, e, p, q]
    · rw [if_neg (by omega), if_neg (by omega), if_pos k]
      unfold bareB
      simp [a, b, d, e]
def formC (c : Cm) : List Int := if c.kind = 1 then [c.kind, c.sym] ++ numB c.id.toNat ++ numB c.own.toNat ++ [c.side, c.typ, c.flags] ++ intB c.price ++ intB c.qty else if c.kind = 2 then [c.kind, c.sym] ++ numB c.id.toNat else [c.kind, c.sym] ++ numB c.id.toNat ++ intB c.price ++ intB c.qty
theorem u8_id {x : Int} (h : 0 ≤ x ∧ x ≤ 255) : IntKind.u8.wrap x = x := by
  have := u8_wrap x.toNat
  rw [show ((x.toNat : Nat) : Int) = x by omega] at this
  rw [this]
  omega
theorem u64_id {x : Int} (h : 0 ≤ x ∧ x ≤ 4611686018427387904) : IntKind.u64.wrap x = x := by
  rw [IntKind.wrap_u64]
  omega
theorem rnumI_c (n : Int) (h : 0 ≤ n ∧ n ≤ 4611686018427387904) (w : World) : Calls Try.prog 26 #[.int .u64 n] w fun e w' => Ext w w' ∧ ∃ v, e = .returned v ∧ Own w w' v (numB n.toNat) := by
  have := rnum_c n.toNat (by omega) w
  rwa [show ((n.toNat : Nat) : Int) = n by omega] at this
theorem numI_c (g : Nat) (A : Option Addr) (bs : List Int) (n : Int) (h : 0 ≤ n ∧ n ≤ 4611686018427387904) (w : World) (hW : Wr w g A bs) (hl : bs.length ≤ 1000000000) :
    Calls Try.prog 22 #[.pointer (some ⟨g, 0, none⟩), .int .u64 n] w fun e w' => e = .returned (.pointer (some ⟨g, 0, none⟩)) ∧ ∃ A', Puts w g A (bs ++ numB n.toNat) w' A' := by
  have := num_c g A bs n.toNat (by omega) w hW hl
  rwa [show ((n.toNat : Nat) : Int) = n by omega] at this
theorem intB_len (s : Int) : (intB s).length = 8 := uintB_len _ _
theorem intB_byt (s : Int) : Byt (intB s) := uintB_byt _ _
theorem byt2 {c : Cm} (h : c.Fine) : Byt [c.kind, c.sym] := by
  have := h.sym; have := h.k
  intro x hx
  simp at hx
  omega
theorem byt3c {c : Cm} (h : c.Fine) : Byt [c.side, c.typ, c.flags] := by
  have := h.k
  intro x hx
  simp at hx
  omega
theorem formC_byt {c : Cm} (h : c.Fine) : Byt (formC c) := by
  unfold formC
  split
  · exact (((((byt2 h).app (numB_byt _)).app (numB_byt _)).app (byt3c h)).app (intB_byt _)).app (intB_byt _)
  split
  · exact (byt2 h).app (numB_byt _)
  · exact (((byt2 h).app (numB_byt _)).app (intB_byt _)).app (intB_byt _)
set_option maxHeartbeats 4000000 in
set_option maxRecDepth 100000 in
theorem rform1 (c : Cm) (hO : c.Ok) (hF : c.Fine) (hk : c.kind = 1) (w : World) : Calls Try.prog 51 #[.agg #[.int .i64 c.kind, .int .i64 c.sym, .int .i64 c.id, .int .i64 c.own, .int .i64 c.side, .int .i64 c.typ, .int .i64 c.price, .int .i64 c.qty, .int .i64 c.flags]] w fun e w' => Ext w w' ∧ ∃ v, e = .returned v ∧ Own w w' v (formC c) := by
  have hf := hF.k
  have k1 := u8_id (x := c.kind) (by omega)
  have k2 := u8_id hF.sym
  have k4 := u64_id hF.id
  have n1 := numB_len64 (n := c.id.toNat) (by have := hF.id; omega)
  have q1 : (c.kind == 1) = true := by simp [hk]
  have q2 : (c.kind != 2) = true := by simp [hk]
  have k5 := u64_id (x := c.own) (by omega)
  have k6 := u8_id (x := c.side) (by omega)
  have k7 := u8_id (x := c.typ) (by omega)
  have k8 := u8_id (x := c.flags) (by omega)
  have ho : 0 ≤ c.own ∧ c.own ≤ 4611686018427387904 := by omega
  have n2 := numB_len64 (n := c.own.toNat) (by omega)
  have hform : formC c = [c.kind, c.sym] ++ numB c.id.toNat ++ numB c.own.toNat ++ [c.side, c.typ, c.flags] ++ intB c.price ++ intB c.qty := by unfold formC; rw [if_pos hk]
  rw [hform]
  clear hform hf hk
  go_enter Try.func51, Try.ntmps51
  go_wp2_with fail
  refine (rnumI_c c.id hF.id _).mono ?_
  rintro e w1 ⟨hx1, v1, rfl, o1⟩
  have x0 : Ext w (w.alloc (.cells #[.int .i64 c.kind, .int .i64 c.sym, .int .i64 c.id, .int .i64 c.own, .int .i64 c.side, .int .i64 c.typ, .int .i64 c.price, .int .i64 c.qty, .int .i64 c.flags] 37)) := (Ext.refl w).alloc _
  have x1 : Ext (w.alloc (.cells #[.int .i64 c.kind, .int .i64 c.sym, .int .i64 c.id, .int .i64 c.own, .int .i64 c.side, .int .i64 c.typ, .int .i64 c.price, .int .i64 c.qty, .int .i64 c.flags] 37)) w1 := ((Ext.refl _).alloc _).trans hx1
  have M1 : At w1 w.heap.size 37 #[.int .i64 c.kind, .int .i64 c.sym, .int .i64 c.id, .int .i64 c.own, .int .i64 c.side, .int .i64 c.typ, .int .i64 c.price, .int .i64 c.qty, .int .i64 c.flags] := At.ext (by repeat (first | (with_reducible exact At.new _ _ _) | ((with_reducible refine At.new' _ _ _ _ ?_); simp; done) | (with_reducible assumption) | (with_reducible refine At.drew ?_) | (with_reducible refine At.alloc ?_ _) | (with_reducible apply At.upd) | (with_reducible apply At.setRow) | (with_reducible refine At.rowFar ?_ (by first | (simp; done) | (simp; omega) | omega) _) | ((with_reducible refine At.far ?_ (by first | (simp; done) | (simp; omega) | omega) _)) | (with_reducible rfl) | (simp; done))) hx1
  have O0 : Own (w.alloc (.cells #[.int .i64 c.kind, .int .i64 c.sym, .int .i64 c.id, .int .i64 c.own, .int .i64 c.side, .int .i64 c.typ, .int .i64 c.price, .int .i64 c.qty, .int .i64 c.flags] 37)) w1 (.slice (some ⟨w.heap.size + 1, 0, none⟩) 2 2) [c.kind, c.sym] := Own.ext ⟨_, 2, rfl, Row.of_at (w := (w.alloc (.cells #[.int .i64 c.kind, .int .i64 c.sym, .int .i64 c.id, .int .i64 c.own, .int .i64 c.side, .int .i64 c.typ, .int .i64 c.price, .int .i64 c.qty, .int .i64 c.flags] 37)).alloc (.cells #[.int .u8 c.kind, .int .u8 c.sym] 5)) (k := 2) (At.new' _ _ _ _ (by simp)) rfl (by decide), fun k hk => by simp [ablk] at hk; subst hk; simp⟩ hx1
  obtain ⟨b0, hb0⟩ : ∃ b : List Int, b = [c.kind, c.sym] := ⟨_, rfl⟩
  rw [← hb0] at O0
  have lc0 : b0.length ≤ 3 := by rw [hb0]; simp
  have HB0 := Lib.hid hb0
  clear hb0
  obtain ⟨A1, c1, rfl, R1, F1⟩ := o1
  obtain ⟨hn1, Q1, G1⟩ := O0.open_
  have la1 := lc0
  rw [← hn1] at la1
  clear hn1
  have lb1 : (numB c.id.toNat).length ≤ 10 := by omega
  go_wp2_with (at_builtin; refine wpList_rowcat rfl _ _ 25 5 1 1 (.int .u8 0) rfl Try.underlying25 u8Info rfl (by decide) _ _ _ _ _ rfl Q1 _ _ _ _ rfl R1.src (bc_one _) (by unfold maxLen; omega) (by omega) ?_)
  intro D1 f1 z1 S1 hC1 hf1
  obtain ⟨P1, y1⟩ := Own.app2 (ns := numB c.id.toNat) O0 x1 (Ext.refl _) hC1 S1 rfl rfl hf1
  obtain ⟨b1, hb1⟩ : ∃ b, b = b0 ++ numB c.id.toNat := ⟨_, rfl⟩
  rw [← hb1] at P1
  have lc1 : b1.length ≤ 13 := by rw [hb1, List.length_append]; omega
  have HB1 := Lib.hid hb1
  clear hb1
  have N1 : At z1 w.heap.size 37 #[.int .i64 c.kind, .int .i64 c.sym, .int .i64 c.id, .int .i64 c.own, .int .i64 c.side, .int .i64 c.typ, .int .i64 c.price, .int .i64 c.qty, .int .i64 c.flags] := hC1.at M1 (fun h => by have := (G1 _ h).1; simp at this; omega)
  have e1 := cellsAt_at N1
  have s1 := N1.lt
  clear O0 M1 Q1 R1 hC1 S1 hf1 G1
  go_wp2_with fail
  refine (rnumI_c c.own ho _).mono ?_
  rintro e u2 ⟨hy2, v2, rfl, o2⟩
  have x2 := y1.trans hy2
  have M2 := N1.ext hy2
  have O1 := P1.ext hy2
  clear N1 P1 e1 s1
  obtain ⟨A2, c2, rfl, R2, F2⟩ := o2
  obtain ⟨hn2, Q2, G2⟩ := O1.open_
  have la2 := lc1
  rw [← hn2] at la2
  clear hn2
  have lb2 : (numB c.own.toNat).length ≤ 10 := by omega
  go_wp2_with (at_builtin; refine wpList_rowcat rfl _ _ 25 5 1 1 (.int .u8 0) rfl Try.underlying25 u8Info rfl (by decide) _ _ _ _ _ rfl Q2 _ _ _ _ rfl R2.src (bc_one _) (by unfold maxLen; omega) (by omega) ?_)
  intro D2 f2 z2 S2 hC2 hf2
  obtain ⟨P2, y2⟩ := Own.app2 (ns := numB c.own.toNat) O1 x2 (Ext.refl _) hC2 S2 rfl rfl hf2
  obtain ⟨b2, hb2⟩ : ∃ b, b = b1 ++ numB c.own.toNat := ⟨_, rfl⟩
  rw [← hb2] at P2
  have lc2 : b2.length ≤ 23 := by rw [hb2, List.length_append]; omega
  have HB2 := Lib.hid hb2
  clear hb2
  have N2 : At z2 w.heap.size 37 #[.int .i64 c.kind, .int .i64 c.sym, .int .i64 c.id, .int .i64 c.own, .int .i64 c.side, .int .i64 c.typ, .int .i64 c.price, .int .i64 c.qty, .int .i64 c.flags] := hC2.at M2 (fun h => by have := (G2 _ h).1; simp at this; omega)
  have e2 := cellsAt_at N2
  have s2 := N2.lt
  clear O1 M2 Q2 R2 hC2 S2 hf2 G2
  obtain ⟨u3, hu3⟩ : ∃ u, u = z2.alloc (.cells #[.int .u8 c.side, .int .u8 c.typ, .int .u8 c.flags] 5) := ⟨_, rfl⟩
  have hy3 : Ext z2 u3 := by rw [hu3]; exact (Ext.refl _).alloc _
  have x3 := y2.trans hy3
  have M3 := N2.ext hy3
  have O2 := P2.ext hy3
  have R3 : Src u3 1 (some ⟨z2.heap.size, 0, none⟩) 3 (bc [c.side, c.typ, c.flags]) := by rw [hu3]; exact Src.at (At.new' _ _ _ _ rfl) rfl
  obtain ⟨hn3, Q3, G3⟩ := O2.open_
  have la3 := lc2
  rw [← hn3] at la3
  clear hn3
  go_wp2_with (at_builtin; rw [← hu3]; refine wpList_rowcat rfl _ _ 25 5 1 1 (.int .u8 0) rfl Try.underlying25 u8Info rfl (by decide) _ _ _ _ _ rfl Q3 _ 3 3 _ rfl R3 (bc_one _) (by unfold maxLen; omega) (by omega) ?_)
  intro D3 f3 z3 S3 hC3 hf3
  have hus3 : u3.heap.size = z2.heap.size + 1 := by rw [hu3]; simp
  rw [← hu3] at hC3
  rw [← hus3] at hf3
  obtain ⟨P3, y3⟩ := Own.app2 (ns := [c.side, c.typ, c.flags]) O2 x3 (Ext.refl _) hC3 S3 rfl rfl hf3
  obtain ⟨b3, hb3⟩ : ∃ b, b = b2 ++ [c.side, c.typ, c.flags] := ⟨_, rfl⟩
  rw [← hb3] at P3
  have lc3 : b3.length ≤ 33 := by rw [hb3, List.length_append]; simp; omega
  have HB3 := Lib.hid hb3
  clear hb3
  have N3 : At z3 w.heap.size 37 #[.int .i64 c.kind, .int .i64 c.sym, .int .i64 c.id, .int .i64 c.own, .int .i64 c.side, .int .i64 c.typ, .int .i64 c.price, .int .i64 c.qty, .int .i64 c.flags] := hC3.at M3 (fun h => by have := (G3 _ h).1; simp at this; omega)
  have e3 := cellsAt_at N3
  have s3 := N3.lt
  clear O2 M3 Q3 R3 hC3 S3 hf3 G3 hu3
  go_wp2_with fail
  refine (rint_c c.price hO.price _).mono ?_
  rintro e u4 ⟨hy4, v4, rfl, o4⟩
  have x4 := y3.trans hy4
  have M4 := N3.ext hy4
  have O3 := P3.ext hy4
  clear N3 P3 e3 s3
  obtain ⟨A4, c4, rfl, R4, F4⟩ := o4
  obtain ⟨hn4, Q4, G4⟩ := O3.open_
  have la4 := lc3
  rw [← hn4] at la4
  clear hn4
  have lb4 : (intB c.price).length ≤ 10 := by rw [intB_len]; omega
  go_wp2_with (at_builtin; refine wpList_rowcat rfl _ _ 25 5 1 1 (.int .u8 0) rfl Try.underlying25 u8Info rfl (by decide) _ _ _ _ _ rfl Q4 _ _ _ _ rfl R4.src (bc_one _) (by unfold maxLen; omega) (by omega) ?_)
  intro D4 f4 z4 S4 hC4 hf4
  obtain ⟨P4, y4⟩ := Own.app2 (ns := intB c.price) O3 x4 (Ext.refl _) hC4 S4 rfl rfl hf4
  obtain ⟨b4, hb4⟩ : ∃ b, b = b3 ++ intB c.price := ⟨_, rfl⟩
  rw [← hb4] at P4
  have lc4 : b4.length ≤ 43 := by rw [hb4, List.length_append]; omega
  have HB4 := Lib.hid hb4
  clear hb4
  have N4 : At z4 w.heap.size 37 #[.int .i64 c.kind, .int .i64 c.sym, .int .i64 c.id, .int .i64 c.own, .int .i64 c.side, .int .i64 c.typ, .int .i64 c.price, .int .i64 c.qty, .int .i64 c.flags] := hC4.at M4 (fun h => by have := (G4 _ h).1; simp at this; omega)
  have e4 := cellsAt_at N4
  have s4 := N4.lt
  clear O3 M4 Q4 R4 hC4 S4 hf4 G4
  go_wp2_with fail
  refine (rint_c c.qty hO.qty _).mono ?_
  rintro e u5 ⟨hy5, v5, rfl, o5⟩
  have x5 := y4.trans hy5
  have M5 := N4.ext hy5
  have O4 := P4.ext hy5
  clear N4 P4 e4 s4
  obtain ⟨A5, c5, rfl, R5, F5⟩ := o5
  obtain ⟨hn5, Q5, G5⟩ := O4.open_
  have la5 := lc4
  rw [← hn5] at la5
  clear hn5
  have lb5 : (intB c.qty).length ≤ 10 := by rw [intB_len]; omega
  go_wp2_with (at_builtin; refine wpList_rowcat rfl _ _ 25 5 1 1 (.int .u8 0) rfl Try.underlying25 u8Info rfl (by decide) _ _ _ _ _ rfl Q5 _ _ _ _ rfl R5.src (bc_one _) (by unfold maxLen; omega) (by omega) ?_)
  intro D5 f5 z5 S5 hC5 hf5
  obtain ⟨P5, y5⟩ := Own.app2 (ns := intB c.qty) O4 x5 (Ext.refl _) hC5 S5 rfl rfl hf5
  obtain ⟨b5, hb5⟩ : ∃ b, b = b4 ++ intB c.qty := ⟨_, rfl⟩
  rw [← hb5] at P5
  have lc5 : b5.length ≤ 53 := by rw [hb5, List.length_append]; omega
  have HB5 := Lib.hid hb5
  clear hb5
  have N5 : At z5 w.heap.size 37 #[.int .i64 c.kind, .int .i64 c.sym, .int .i64 c.id, .int .i64 c.own, .int .i64 c.side, .int .i64 c.typ, .int .i64 c.price, .int .i64 c.qty, .int .i64 c.flags] := hC5.at M5 (fun h => by have := (G5 _ h).1; simp at this; omega)
  have e5 := cellsAt_at N5
  have s5 := N5.lt
  clear O4 M5 Q5 R5 hC5 S5 hf5 G5
  go_wp2_with fail
  first | refine fin_ret rfl (fun K hK => ?_) | refine fin_norm rfl (fun K hK => ?_)
  simp [results, Try.results51, go_sem, rsat]
  try go_simp
  refine hK _ ?_
  clear hK K
  refine ⟨x0.trans y5, _, rfl, ?_⟩
  have hb : b5 = [c.kind, c.sym] ++ numB c.id.toNat ++ numB c.own.toNat ++ [c.side, c.typ, c.flags] ++ intB c.price ++ intB c.qty := by
    simp only [RowKit.Hid] at HB0 HB1 HB2 HB3 HB4 HB5
    rw [HB5, HB4, HB3, HB2, HB1, HB0]
  have hfin := P5.base x0
  rw [hb] at hfin
  simpa using hfin
set_option maxHeartbeats 4000000 in
set_option maxRecDepth 100000 in
theorem rform2 (c : Cm) (hO : c.Ok) (hF : c.Fine) (hk : c.kind = 2) (w : World) : Calls Try.prog 51 #[.agg #[.int .i64 c.kind, .int .i64 c.sym, .int .i64 c.id, .int .i64 c.own, .int .i64 c.side, .int .i64 c.typ, .int .i64 c.price, .int .i64 c.qty, .int .i64 c.flags]] w fun e w' => Ext w w' ∧ ∃ v, e = .returned v ∧ Own w w' v (formC c) := by
  have hf := hF.k
  have k1 := u8_id (x := c.kind) (by omega)
  have k2 := u8_id hF.sym
  have k4 := u64_id hF.id
  have n1 := numB_len64 (n := c.id.toNat) (by have := hF.id; omega)
  have q1 : (c.kind == 1) = false := by simp [hk]
  have q2 : (c.kind != 2) = false := by simp [hk]
  have hform : formC c = [c.kind, c.sym] ++ numB c.id.toNat := by unfold formC; rw [if_neg (by omega), if_pos hk]
  rw [hform]
  clear hform hf hk
  go_enter Try.func51, Try.ntmps51
  go_wp2_with fail
  refine (rnumI_c c.id hF.id _).mono ?_
  rintro e w1 ⟨hx1, v1, rfl, o1⟩
  have x0 : Ext w (w.alloc (.cells #[.int .i64 c.kind, .int .i64 c.sym, .int .i64 c.id, .int .i64 c.own, .int .i64 c.side, .int .i64 c.typ, .int .i64 c.price, .int .i64 c.qty, .int .i64 c.flags] 37)) := (Ext.refl w).alloc _
  have x1 : Ext (w.alloc (.cells #[.int .i64 c.kind, .int .i64 c.sym, .int .i64 c.id, .int .i64 c.own, .int .i64 c.side, .int .i64 c.typ, .int .i64 c.price, .int .i64 c.qty, .int .i64 c.flags] 37)) w1 := ((Ext.refl _).alloc _).trans hx1
  have M1 : At w1 w.heap.size 37 #[.int .i64 c.kind, .int .i64 c.sym, .int .i64 c.id, .int .i64 c.own, .int .i64 c.side, .int .i64 c.typ, .int .i64 c.price, .int .i64 c.qty, .int .i64 c.flags] := At.ext (by repeat (first | (with_reducible exact At.new _ _ _) | ((with_reducible refine At.new' _ _ _ _ ?_); simp; done) | (with_reducible assumption) | (with_reducible refine At.drew ?_) | (with_reducible refine At.alloc ?_ _) | (with_reducible apply At.upd) | (with_reducible apply At.setRow) | (with_reducible refine At.rowFar ?_ (by first | (simp; done) | (simp; omega) | omega) _) | ((with_reducible refine At.far ?_ (by first | (simp; done) | (simp; omega) | omega) _)) | (with_reducible rfl) | (simp; done))) hx1
  have O0 : Own (w.alloc (.cells #[.int .i64 c.kind, .int .i64 c.sym, .int .i64 c.id, .int .i64 c.own, .int .i64 c.side, .int .i64 c.typ, .int .i64 c.price, .int .i64 c.qty, .int .i64 c.flags] 37)) w1 (.slice (some ⟨w.heap.size + 1, 0, none⟩) 2 2) [c.kind, c.sym] := Own.ext ⟨_, 2, rfl, Row.of_at (w := (w.alloc (.cells #[.int .i64 c.kind, .int .i64 c.sym, .int .i64 c.id, .int .i64 c.own, .int .i64 c.side, .int .i64 c.typ, .int .i64 c.price, .int .i64 c.qty, .int .i64 c.flags] 37)).alloc (.cells #[.int .u8 c.kind, .int .u8 c.sym] 5)) (k := 2) (At.new' _ _ _ _ (by simp)) rfl (by decide), fun k hk => by simp [ablk] at hk; subst hk; simp⟩ hx1
  obtain ⟨b0, hb0⟩ : ∃ b : List Int, b = [c.kind, c.sym] := ⟨_, rfl⟩
  rw [← hb0] at O0
  have lc0 : b0.length ≤ 3 := by rw [hb0]; simp
  have HB0 := Lib.hid hb0
  clear hb0
  obtain ⟨A1, c1, rfl, R1, F1⟩ := o1
  obtain ⟨hn1, Q1, G1⟩ := O0.open_
  have la1 := lc0
  rw [← hn1] at la1
  clear hn1
  have lb1 : (numB c.id.toNat).length ≤ 10 := by omega
  go_wp2_with (at_builtin; refine wpList_rowcat rfl _ _ 25 5 1 1 (.int .u8 0) rfl Try.underlying25 u8Info rfl (by decide) _ _ _ _ _ rfl Q1 _ _ _ _ rfl R1.src (bc_one _) (by unfold maxLen; omega) (by omega) ?_)
  intro D1 f1 z1 S1 hC1 hf1
  obtain ⟨P1, y1⟩ := Own.app2 (ns := numB c.id.toNat) O0 x1 (Ext.refl _) hC1 S1 rfl rfl hf1
  obtain ⟨b1, hb1⟩ : ∃ b, b = b0 ++ numB c.id.toNat := ⟨_, rfl⟩
  rw [← hb1] at P1
  have lc1 : b1.length ≤ 13 := by rw [hb1, List.length_append]; omega
  have HB1 := Lib.hid hb1
  clear hb1
  have N1 : At z1 w.heap.size 37 #[.int .i64 c.kind, .int .i64 c.sym, .int .i64 c.id, .int .i64 c.own, .int .i64 c.side, .int .i64 c.typ, .int .i64 c.price, .int .i64 c.qty, .int .i64 c.flags] := hC1.at M1 (fun h => by have := (G1 _ h).1; simp at this; omega)
  have e1 := cellsAt_at N1
  have s1 := N1.lt
  clear O0 M1 Q1 R1 hC1 S1 hf1 G1
  go_wp2_with fail
  first | refine fin_ret rfl (fun K hK => ?_) | refine fin_norm rfl (fun K hK => ?_)
  simp [results, Try.results51, go_sem, rsat]
  try go_simp
  refine hK _ ?_
  clear hK K
  refine ⟨x0.trans y1, _, rfl, ?_⟩
  have hb : b1 = [c.kind, c.sym] ++ numB c.id.toNat := by
    simp only [RowKit.Hid] at HB0 HB1
    rw [HB1, HB0]
  have hfin := P1.base x0
  rw [hb] at hfin
  simpa using hfin
set_option maxHeartbeats 4000000 in
set_option maxRecDepth 100000 in
theorem rform3 (c : Cm) (hO : c.Ok) (hF : c.Fine) (hk : c.kind = 3) (w : World) : Calls Try.prog 51 #[.agg #[.int .i64 c.kind, .int .i64 c.sym, .int .i64 c.id, .int .i64 c.own, .int .i64 c.side, .int .i64 c.typ, .int .i64 c.price, .int .i64 c.qty, .int .i64 c.flags]] w fun e w' => Ext w w' ∧ ∃ v, e = .returned v ∧ Own w w' v (formC c) := by
  have hf := hF.k
  have k1 := u8_id (x := c.kind) (by omega)
  have k2 := u8_id hF.sym
  have k4 := u64_id hF.id
  have n1 := numB_len64 (n := c.id.toNat) (by have := hF.id; omega)
  have q1 : (c.kind == 1) = false := by simp [hk]
  have q2 : (c.kind != 2) = true := by simp [hk]
  have hform : formC c = [c.kind, c.sym] ++ numB c.id.toNat ++ intB c.price ++ intB c.qty := by unfold formC; rw [if_neg (by omega), if_neg (by omega)]
  rw [hform]
  clear hform hf hk
  go_enter Try.func51, Try.ntmps51
  go_wp2_with fail
  refine (rnumI_c c.id hF.id _).mono ?_
  rintro e w1 ⟨hx1, v1, rfl, o1⟩
  have x0 : Ext w (w.alloc (.cells #[.int .i64 c.kind, .int .i64 c.sym, .int .i64 c.id, .int .i64 c.own, .int .i64 c.side, .int .i64 c.typ, .int .i64 c.price, .int .i64 c.qty, .int .i64 c.flags] 37)) := (Ext.refl w).alloc _
  have x1 : Ext (w.alloc (.cells #[.int .i64 c.kind, .int .i64 c.sym, .int .i64 c.id, .int .i64 c.own, .int .i64 c.side, .int .i64 c.typ, .int .i64 c.price, .int .i64 c.qty, .int .i64 c.flags] 37)) w1 := ((Ext.refl _).alloc _).trans hx1
  have M1 : At w1 w.heap.size 37 #[.int .i64 c.kind, .int .i64 c.sym, .int .i64 c.id, .int .i64 c.own, .int .i64 c.side, .int .i64 c.typ, .int .i64 c.price, .int .i64 c.qty, .int .i64 c.flags] := At.ext (by repeat (first | (with_reducible exact At.new _ _ _) | ((with_reducible refine At.new' _ _ _ _ ?_); simp; done) | (with_reducible assumption) | (with_reducible refine At.drew ?_) | (with_reducible refine At.alloc ?_ _) | (with_reducible apply At.upd) | (with_reducible apply At.setRow) | (with_reducible refine At.rowFar ?_ (by first | (simp; done) | (simp; omega) | omega) _) | ((with_reducible refine At.far ?_ (by first | (simp; done) | (simp; omega) | omega) _)) | (with_reducible rfl) | (simp; done))) hx1
  have O0 : Own (w.alloc (.cells #[.int .i64 c.kind, .int .i64 c.sym, .int .i64 c.id, .int .i64 c.own, .int .i64 c.side, .int .i64 c.typ, .int .i64 c.price, .int .i64 c.qty, .int .i64 c.flags] 37)) w1 (.slice (some ⟨w.heap.size + 1, 0, none⟩) 2 2) [c.kind, c.sym] := Own.ext ⟨_, 2, rfl, Row.of_at (w := (w.alloc (.cells #[.int .i64 c.kind, .int .i64 c.sym, .int .i64 c.id, .int .i64 c.own, .int .i64 c.side, .int .i64 c.typ, .int .i64 c.price, .int .i64 c.qty, .int .i64 c.flags] 37)).alloc (.cells #[.int .u8 c.kind, .int .u8 c.sym] 5)) (k := 2) (At.new' _ _ _ _ (by simp)) rfl (by decide), fun k hk => by simp [ablk] at hk; subst hk; simp⟩ hx1
  obtain ⟨b0, hb0⟩ : ∃ b : List Int, b = [c.kind, c.sym] := ⟨_, rfl⟩
  rw [← hb0] at O0
  have lc0 : b0.length ≤ 3 := by rw [hb0]; simp
  have HB0 := Lib.hid hb0
  clear hb0
  obtain ⟨A1, c1, rfl, R1, F1⟩ := o1
  obtain ⟨hn1, Q1, G1⟩ := O0.open_
  have la1 := lc0
  rw [← hn1] at la1
  clear hn1
  have lb1 : (numB c.id.toNat).length ≤ 10 := by omega
  go_wp2_with (at_builtin; refine wpList_rowcat rfl _ _ 25 5 1 1 (.int .u8 0) rfl Try.underlying25 u8Info rfl (by decide) _ _ _ _ _ rfl Q1 _ _ _ _ rfl R1.src (bc_one _) (by unfold maxLen; omega) (by omega) ?_)
  intro D1 f1 z1 S1 hC1 hf1
  obtain ⟨P1, y1⟩ := Own.app2 (ns := numB c.id.toNat) O0 x1 (Ext.refl _) hC1 S1 rfl rfl hf1
  obtain ⟨b1, hb1⟩ : ∃ b, b = b0 ++ numB c.id.toNat := ⟨_, rfl⟩
  rw [← hb1] at P1
  have lc1 : b1.length ≤ 13 := by rw [hb1, List.length_append]; omega
  have HB1 := Lib.hid hb1
  clear hb1
  have N1 : At z1 w.heap.size 37 #[.int .i64 c.kind, .int .i64 c.sym, .int .i64 c.id, .int .i64 c.own, .int .i64 c.side, .int .i64 c.typ, .int .i64 c.price, .int .i64 c.qty, .int .i64 c.flags] := hC1.at M1 (fun h => by have := (G1 _ h).1; simp at this; omega)
  have e1 := cellsAt_at N1
  have s1 := N1.lt
  clear O0 M1 Q1 R1 hC1 S1 hf1 G1
  go_wp2_with fail
  refine (rint_c c.price hO.price _).mono ?_
  rintro e u2 ⟨hy2, v2, rfl, o2⟩
  have x2 := y1.trans hy2
  have M2 := N1.ext hy2
  have O1 := P1.ext hy2
  clear N1 P1 e1 s1
  obtain ⟨A2, c2, rfl, R2, F2⟩ := o2
  obtain ⟨hn2, Q2, G2⟩ := O1.open_
  have la2 := lc1
  rw [← hn2] at la2
  clear hn2
  have lb2 : (intB c.price).length ≤ 10 := by rw [intB_len]; omega
  go_wp2_with (at_builtin; refine wpList_rowcat rfl _ _ 25 5 1 1 (.int .u8 0) rfl Try.underlying25 u8Info rfl (by decide) _ _ _ _ _ rfl Q2 _ _ _ _ rfl R2.src (bc_one _) (by unfold maxLen; omega) (by omega) ?_)
  intro D2 f2 z2 S2 hC2 hf2
  obtain ⟨P2, y2⟩ := Own.app2 (ns := intB c.price) O1 x2 (Ext.refl _) hC2 S2 rfl rfl hf2
  obtain ⟨b2, hb2⟩ : ∃ b, b = b1 ++ intB c.price := ⟨_, rfl⟩
  rw [← hb2] at P2
  have lc2 : b2.length ≤ 23 := by rw [hb2, List.length_append]; omega
  have HB2 := Lib.hid hb2
  clear hb2
  have N2 : At z2 w.heap.size 37 #[.int .i64 c.kind, .int .i64 c.sym, .int .i64 c.id, .int .i64 c.own, .int .i64 c.side, .int .i64 c.typ, .int .i64 c.price, .int .i64 c.qty, .int .i64 c.flags] := hC2.at M2 (fun h => by have := (G2 _ h).1; simp at this; omega)
  have e2 := cellsAt_at N2
  have s2 := N2.lt
  clear O1 M2 Q2 R2 hC2 S2 hf2 G2
  go_wp2_with fail
  refine (rint_c c.qty hO.qty _).mono ?_
  rintro e u3 ⟨hy3, v3, rfl, o3⟩
  have x3 := y2.trans hy3
  have M3 := N2.ext hy3
  have O2 := P2.ext hy3
  clear N2 P2 e2 s2
  obtain ⟨A3, c3, rfl, R3, F3⟩ := o3
  obtain ⟨hn3, Q3, G3⟩ := O2.open_
  have la3 := lc2
  rw [← hn3] at la3
  clear hn3
  have lb3 : (intB c.qty).length ≤ 10 := by rw [intB_len]; omega
  go_wp2_with (at_builtin; refine wpList_rowcat rfl _ _ 25 5 1 1 (.int .u8 0) rfl Try.underlying25 u8Info rfl (by decide) _ _ _ _ _ rfl Q3 _ _ _ _ rfl R3.src (bc_one _) (by unfold maxLen; omega) (by omega) ?_)
  intro D3 f3 z3 S3 hC3 hf3
  obtain ⟨P3, y3⟩ := Own.app2 (ns := intB c.qty) O2 x3 (Ext.refl _) hC3 S3 rfl rfl hf3
  obtain ⟨b3, hb3⟩ : ∃ b, b = b2 ++ intB c.qty := ⟨_, rfl⟩
  rw [← hb3] at P3
  have lc3 : b3.length ≤ 33 := by rw [hb3, List.length_append]; omega
  have HB3 := Lib.hid hb3
  clear hb3
  have N3 : At z3 w.heap.size 37 #[.int .i64 c.kind, .int .i64 c.sym, .int .i64 c.id, .int .i64 c.own, .int .i64 c.side, .int .i64 c.typ, .int .i64 c.price, .int .i64 c.qty, .int .i64 c.flags] := hC3.at M3 (fun h => by have := (G3 _ h).1; simp at this; omega)
  have e3 := cellsAt_at N3
  have s3 := N3.lt
  clear O2 M3 Q3 R3 hC3 S3 hf3 G3
  go_wp2_with fail
  first | refine fin_ret rfl (fun K hK => ?_) | refine fin_norm rfl (fun K hK => ?_)
  simp [results, Try.results51, go_sem, rsat]
  try go_simp
  refine hK _ ?_
  clear hK K
  refine ⟨x0.trans y3, _, rfl, ?_⟩
  have hb : b3 = [c.kind, c.sym] ++ numB c.id.toNat ++ intB c.price ++ intB c.qty := by
    simp only [RowKit.Hid] at HB0 HB1 HB2 HB3
    rw [HB3, HB2, HB1, HB0]
  have hfin := P3.base x0
  rw [hb] at hfin
  simpa using hfin
theorem rformC_c (c : Cm) (hO : c.Ok) (hF : c.Fine) (w : World) : Calls Try.prog 51 #[.agg #[.int .i64 c.kind, .int .i64 c.sym, .int .i64 c.id, .int .i64 c.own, .int .i64 c.side, .int .i64 c.typ, .int .i64 c.price, .int .i64 c.qty, .int .i64 c.flags]] w fun e w' => Ext w w' ∧ ∃ v, e = .returned v ∧ Own w w' v (formC c) := by
  rcases hF.k with ⟨k, _⟩ | ⟨k, _⟩ | ⟨k, _⟩
  · exact rform1 c hO hF k w
  · exact rform2 c hO hF k w
  · exact rform3 c hO hF k w
def encCL (c : Cm) : List Int := if rightC c then formC c else []
def encCF (c : Cm) : Int := if rightC c then 0 else 1
def EncC (c : Cm) (w : World) (e : Ending) (w' : World) : Prop := Ext w w' ∧ ∃ v, e = .returned (.tuple #[v, .int .i64 (encCF c)]) ∧ Own w w' v (encCL c)
set_option maxHeartbeats 1000000 in
set_option maxRecDepth 100000 in
theorem rencC_c (c : Cm) (hO : c.Ok) (w : World) : Calls Try.prog 34 #[.agg #[.int .i64 c.kind, .int .i64 c.sym, .int .i64 c.id, .int .i64 c.own, .int .i64 c.side, .int .i64 c.typ, .int .i64 c.price, .int .i64 c.qty, .int .i64 c.flags]] w fun e w' => EncC c w e w' := by
  unfold EncC
  have C1 := rright5_c c
  unfold encCF encCL
  by_cases hr : rightC c = true
  · have hF := (cright_iff c).1 hr
    simp only [hr, if_true] at C1 ⊢
    have C2 := rformC_c c hO hF
    clear hr
    have HC1 := Lib.hid C1
    have HC2 := Lib.hid C2
    clear C1 C2
    go_enter Try.func34, Try.ntmps34
    go_wp2_with fail
    refine (HC1.out _).mono ?_
    rintro e w1 ⟨rfl, hxw1⟩
    have xw1 : Ext w w1 := Ext.trans (by repeat (first | (with_reducible exact Ext.refl _) | (with_reducible assumption) | (with_reducible refine Ext.alloc ?_ _) | (with_reducible refine Ext.drew ?_) | (with_reducible refine Ext.drewN ?_ _) | (with_reducible refine Ext.setCell ?_ (by simp; try omega) _) | (with_reducible refine Ext.setRow ?_ (by simp; try omega) _))) hxw1
    have lw1 := xw1.size
    have M_w1 := At.ext (g := w.heap.size) (t := 37) (cs := #[.int .i64 c.kind, .int .i64 c.sym, .int .i64 c.id, .int .i64 c.own, .int .i64 c.side, .int .i64 c.typ, .int .i64 c.price, .int .i64 c.qty, .int .i64 c.flags]) (by repeat (first | (with_reducible exact At.new _ _ _) | ((with_reducible refine At.new' _ _ _ _ ?_); simp; done) | (with_reducible assumption) | (with_reducible refine At.drew ?_) | (with_reducible refine At.alloc ?_ _) | (with_reducible apply At.upd) | (with_reducible apply At.setRow) | (with_reducible refine At.rowFar ?_ (by first | (simp; done) | (simp; omega) | omega) _) | ((with_reducible refine At.far ?_ (by first | (simp; done) | (simp; omega) | omega) _)) | (with_reducible rfl) | (simp; done))) hxw1
    clear hxw1
    have s_M_w1 := M_w1.lt
    have e_M_w1 := cellsAt_at M_w1
    go_wp2_with fail
    refine (HC2.out _).mono ?_
    rintro e w2 ⟨hx2, v, rfl, ho⟩
    go_wp2_with fail
    first | refine fin_ret rfl (fun K hK => ?_) | refine fin_norm rfl (fun K hK => ?_)
    simp [results, Try.results34, go_sem, rsat]
    try go_simp
    refine hK _ ?_
    clear hK K
    exact ⟨xw1.trans hx2, v, rfl, ho.base xw1⟩
  · simp only [Bool.not_eq_true] at hr
    simp only [hr] at C1 ⊢
    clear hr
    have HC1 := Lib.hid C1
    clear C1
    go_enter Try.func34, Try.ntmps34
    go_wp2_with fail
    refine (HC1.out _).mono ?_
    rintro e w1 ⟨rfl, hxw1⟩
    have xw1 : Ext w w1 := Ext.trans (by repeat (first | (with_reducible exact Ext.refl _) | (with_reducible assumption) | (with_reducible refine Ext.alloc ?_ _) | (with_reducible refine Ext.drew ?_) | (with_reducible refine Ext.drewN ?_ _) | (with_reducible refine Ext.setCell ?_ (by simp; try omega) _) | (with_reducible refine Ext.setRow ?_ (by simp; try omega) _))) hxw1
    have lw1 := xw1.size
    have M_w1 := At.ext (g := w.heap.size) (t := 37) (cs := #[.int .i64 c.kind, .int .i64 c.sym, .int .i64 c.id, .int .i64 c.own, .int .i64 c.side, .int .i64 c.typ, .int .i64 c.price, .int .i64 c.qty, .int .i64 c.flags]) (by repeat (first | (with_reducible exact At.new _ _ _) | ((with_reducible refine At.new' _ _ _ _ ?_); simp; done) | (with_reducible assumption) | (with_reducible refine At.drew ?_) | (with_reducible refine At.alloc ?_ _) | (with_reducible apply At.upd) | (with_reducible apply At.setRow) | (with_reducible refine At.rowFar ?_ (by first | (simp; done) | (simp; omega) | omega) _) | ((with_reducible refine At.far ?_ (by first | (simp; done) | (simp; omega) | omega) _)) | (with_reducible rfl) | (simp; done))) hxw1
    clear hxw1
    have s_M_w1 := M_w1.lt
    have e_M_w1 := cellsAt_at M_w1
    go_wp2_with fail
    first | refine fin_ret rfl (fun K hK => ?_) | refine fin_norm rfl (fun K hK => ?_)
    simp [results, Try.results34, go_sem, rsat]
    try go_simp
    refine hK _ ?_
    clear hK K
    exact ⟨(by repeat (first | (with_reducible exact Ext.refl _) | (with_reducible assumption) | (with_reducible refine Ext.alloc ?_ _) | (with_reducible refine Ext.drew ?_) | (with_reducible refine Ext.drewN ?_ _) | (with_reducible refine Ext.setCell ?_ (by simp; try omega) _) | (with_reducible refine Ext.setRow ?_ (by simp; try omega) _))), _, rfl, Own.nil _ _⟩
end Go.Proofs.Ythfomohophmbaaa
