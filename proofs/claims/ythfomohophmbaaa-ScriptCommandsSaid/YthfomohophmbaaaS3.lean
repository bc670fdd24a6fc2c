/- Steps (layer 29): a step's bytes, by the document; Encode, by both. No condition. -/
import Derived.Test.YthfomohophmbaaaS2
import Derived.Test.YthfomohophmbaaaRs
namespace Go.Proofs.Ythfomohophmbaaa
open Go.RowKit
attribute [local go_sem] Later.cell QUpon_value QUpon_enter MUpon_value run_eql_slice_nil Same.cell
attribute [local go_sem ↓ high] loadStp_is storeStp_is
attribute [local go_sem] run_loadStp run_loadStp_at run_storeStp one_int one_bool one_slice one_ptr one_str setRow_new setRow_past cell_ca frozen_ca cellsAt_alloc_at cellsAt_alloc_past cellsAt_drew cellsAt_later cellsAt_setCell cellsAt_set_same cellsAt_setRow_same cellsAt_setRow_far subAt_alloc subAt_drew subAt_later subAt_setCell subAt_setRow ltn_2 ltn_3 ltn_4 ltn_5
theorem u8_same {x : Int} (h : 0 ≤ x ∧ x ≤ 255) : IntKind.u8.wrap x = x := by
  have := u8_wrap x.toNat
  rw [show ((x.toNat : Nat) : Int) = x by omega] at this
  rw [this]
  omega
theorem lenI (s : Int) : (intB s).length = 8 := uintB_len _ _
theorem bytI (s : Int) : Byt (intB s) := uintB_byt _ _
theorem Own.made (w0 W : World) (bs : List Int) (hx : Ext w0 W) (hl : bs.length ≤ maxLen) : Own w0 (W.alloc (.cells (bc bs).toArray 5)) (.slice (some ⟨W.heap.size, 0, none⟩) bs.length bs.length) bs :=
  ⟨_, _, rfl, Row.of_at (At.new _ _ _) (by simp [bc]) hl, fun k hk => by simp [ablk] at hk; subst hk; have := hx.size; simp; omega⟩
theorem cut2 (o t : Nat) (x : Nat) : 2 ≤ (Question.appendCap 2 o t).cut x ∧ (Question.appendCap 2 o t).cut x ≤ maxLen := by
  have : (Question.appendCap 2 o t).cut x = 2 + x % (2 ^ 63 - 2) := rfl
  have h2 := Nat.mod_lt x (show 0 < 2 ^ 63 - 2 by decide)
  rw [this]
  unfold maxLen
  omega
theorem Own.grown2 (w0 W : World) (hx : Ext w0 W) (x y : Int) (C : Nat) (hC : 2 ≤ C ∧ C ≤ maxLen) : Own w0 (W.alloc (.cells (#[.int .u8 x, .int .u8 y] ++ Builtin.zeroCells #[.int .u8 0] (C - 2)) 5)) (.slice (some ⟨W.heap.size, 0, none⟩) 2 C) [x, y] := by
  refine ⟨_, C, rfl, ⟨hC.1, hC.2, rfl, fun _ => ⟨W.heap.size, 0, _, rfl, At.new W _ _, ?_, fun j hj => ?_⟩⟩, fun k hk => ?_⟩
  · simp [size_zeroCells]; omega
  · have hj2 : j = 0 ∨ j = 1 := by simp at hj; omega
    rcases hj2 with rfl | rfl
    · rw [Array.getElem?_append_left (by simp)]; rfl
    · rw [Array.getElem?_append_left (by simp)]; rfl
  · simp [ablk] at hk; subst hk; have := hx.size; simp; omega
theorem rightS_1 {s n : Int} {m : Nat} (h : rightS 1 s n m = true) : s = 0 ∧ n = 0 ∧ m ≤ 64 := by unfold rightS at h; simpa using h
theorem rightS_4 {s n : Int} {m : Nat} (h : rightS 4 s n m = true) : (0 ≤ s ∧ s ≤ 255) ∧ m = 0 := by unfold rightS at h; simp at h; omega
theorem rightS_23 {k s n : Int} {m : Nat} (hk : k = 2 ∨ k = 3) (h : rightS k s n m = true) : s = 0 ∧ m = 0 := by
  unfold rightS at h; rw [if_neg (by omega), if_pos hk] at h; simpa using h
theorem rightS_k {k s n : Int} {m : Nat} (h : rightS k s n m = true) : k = 1 ∨ (k = 2 ∨ k = 3) ∨ k = 4 := by
  unfold rightS at h
  by_cases h1 : k = 1
  · exact .inl h1
  by_cases h2 : k = 2 ∨ k = 3
  · exact .inr (.inl h2)
  by_cases h3 : k = 4
  · exact .inr (.inr h3)
  · rw [if_neg h1, if_neg h2, if_neg h3] at h; cases h
theorem formS_len {k s n : Int} {xs : List Int} (h : rightS k s n xs.length = true) : (formS k s n xs).length ≤ 80 := by
  unfold formS
  split
  · rename_i hk
    subst hk
    obtain ⟨_, _, h3⟩ := rightS_1 h
    have := numB_len64 (n := xs.length) (by omega)
    simp only [List.length_cons, List.length_append]
    omega
  split
  · simp [lenI]
  · simp [lenI]
theorem formS_byt {k s n : Int} {xs : List Int} (hx : Byt xs) (h : rightS k s n xs.length = true) : Byt (formS k s n xs) := by
  have hk := rightS_k h
  have hkb : Byt [k] := by intro y hy; simp at hy; omega
  unfold formS
  split
  · exact hkb.app ((numB_byt _).app hx)
  split
  · rename_i h4
    subst h4
    have h4 := rightS_4 h
    have : Byt [4, s] := by intro y hy; simp at hy; omega
    exact this.app (bytI n)
  · exact hkb.app (bytI n)
set_option maxHeartbeats 4000000 in
set_option maxRecDepth 100000 in
theorem rform29_c (k s n : Int) (A : Option Addr) (c : Nat) (xs : List Int) (hn : I64 n) (hR : rightS k s n xs.length = true) (w : World) (hS : Src w 1 A xs.length (bc xs)) :
    Calls Try.prog 27 #[.agg #[.int .i64 k, .int .i64 s, .int .i64 n, .slice A xs.length c]] w fun e w' => Ext w w' ∧ ∃ v, e = .returned v ∧ Own w w' v (formS k s n xs) := by
  rcases rightS_k hR with rfl | hk | rfl
  · obtain ⟨rfl, rfl, hl⟩ := rightS_1 hR
    have hform : formS 1 0 0 xs = [1] ++ numB xs.length ++ xs := by unfold formS; rw [if_pos rfl]; simp
    rw [hform]
    have ew : IntKind.u64.wrap ((xs.length : Nat) : Int) = ((xs.length : Nat) : Int) := by rw [IntKind.wrap_u64]; omega
    have n1 := numB_len64 (n := xs.length) (by omega)
    clear hform hR
    go_enter Try.func27, Try.ntmps27
    go_wp2_with fail
    refine (rnum_c xs.length (by omega) _).mono ?_
    rintro e w1 ⟨hx1, v1, rfl, A1, c1, rfl, R1, F1⟩
    have x1 : Ext w w1 := Ext.trans (by repeat (first | (with_reducible exact Ext.refl _) | (with_reducible assumption) | (with_reducible refine Ext.alloc ?_ _) | (with_reducible refine Ext.drew ?_) | (with_reducible refine Ext.drewN ?_ _) | (with_reducible refine Ext.setCell ?_ (by simp; try omega) _) | (with_reducible refine Ext.setRow ?_ (by simp; try omega) _))) hx1
    have M1 : At w1 w.heap.size 31 #[.int .i64 1, .int .i64 0, .int .i64 0, .slice A xs.length c] := At.ext (by repeat (first | (with_reducible exact At.new _ _ _) | ((with_reducible refine At.new' _ _ _ _ ?_); simp; done) | (with_reducible assumption) | (with_reducible refine At.drew ?_) | (with_reducible refine At.alloc ?_ _) | (with_reducible apply At.upd) | (with_reducible apply At.setRow) | (with_reducible refine At.rowFar ?_ (by first | (simp; done) | (simp; omega) | omega) _) | ((with_reducible refine At.far ?_ (by first | (simp; done) | (simp; omega) | omega) _)) | (with_reducible rfl) | (simp; done))) hx1
    have O0 := (Own.made w (w.alloc (.cells #[.int .i64 1, .int .i64 0, .int .i64 0, .slice A xs.length c] 31)) [1] (by repeat (first | (with_reducible exact Ext.refl _) | (with_reducible assumption) | (with_reducible refine Ext.alloc ?_ _) | (with_reducible refine Ext.drew ?_) | (with_reducible refine Ext.drewN ?_ _) | (with_reducible refine Ext.setCell ?_ (by simp; try omega) _) | (with_reducible refine Ext.setRow ?_ (by simp; try omega) _))) (by decide)).ext hx1
    simp only [World.size_alloc] at O0
    obtain ⟨_, Q1, G1⟩ := O0.open_
    go_wp2_with (at_builtin; refine wpList_rowcat rfl _ _ 25 5 1 1 (.int .u8 0) rfl Try.underlying25 u8Info rfl (by decide) _ _ _ _ _ rfl Q1 _ _ _ _ rfl R1.src (bc_one _) (by simp; unfold maxLen; omega) (by simp; omega) ?_)
    intro D1 f1 z1 S1 hC1 hf1
    obtain ⟨P1, y1⟩ := Own.app2 (ns := numB xs.length) O0 x1 (Ext.refl _) hC1 S1 rfl rfl hf1
    have N1 : At z1 w.heap.size 31 #[.int .i64 1, .int .i64 0, .int .i64 0, .slice A xs.length c] := hC1.at M1 (by simp [ablk])
    have e1 := cellsAt_at N1
    have s1 := N1.lt
    have S2 := hS.ext y1
    obtain ⟨b1, hb1⟩ : ∃ b, b = [1] ++ numB xs.length := ⟨_, rfl⟩
    rw [← hb1] at P1
    have lb1 : b1.length ≤ 11 := by rw [hb1]; simp; omega
    have HB1 := Lib.hid hb1
    clear O0 M1 Q1 R1 hC1 S1 hf1 G1 hb1 F1
    obtain ⟨hq, Q2, G2⟩ := P1.open_
    rw [← hq] at lb1
    go_wp2_with (at_builtin; refine wpList_rowcat rfl _ _ 25 5 1 1 (.int .u8 0) rfl Try.underlying25 u8Info rfl (by decide) _ _ _ _ _ rfl Q2 _ _ _ _ rfl S2 (bc_one _) (by unfold maxLen; omega) (by omega) ?_)
    intro D2 f2 z2 T2 hC2 hf2
    obtain ⟨P2, y2⟩ := Own.app2 (ns := xs) P1 y1 (Ext.refl _) hC2 T2 rfl rfl hf2
    clear e1 s1 N1
    go_wp2_with fail
    first | refine fin_ret rfl (fun K hK => ?_) | refine fin_norm rfl (fun K hK => ?_)
    simp [results, Try.results27, go_sem, rsat]
    try go_simp
    refine hK _ ?_
    clear hK K
    rw [HB1.out] at P2
    exact ⟨y2, _, rfl, P2⟩
  · obtain ⟨rfl, hl⟩ := rightS_23 hk hR
    obtain rfl := List.eq_nil_of_length_eq_zero hl
    have hform : formS k 0 n [] = [k] ++ intB n := by unfold formS; rw [if_neg (by omega), if_neg (by omega)]; simp
    rw [hform]
    have ek := u8_same (x := k) (by omega)
    have q1 : (k == 1) = false := beq_eq_false_iff_ne.2 (by omega)
    have q4 : (k == 4) = false := beq_eq_false_iff_ne.2 (by omega)
    have li := lenI n
    clear hform hR hk hl hS
    simp only [List.length_nil]
    go_enter Try.func27, Try.ntmps27
    go_wp2_with fail
    refine (rint_c n hn _).mono ?_
    rintro e w1 ⟨hx1, v1, rfl, A1, c1, rfl, R1, F1⟩
    have x1 : Ext w w1 := Ext.trans (by repeat (first | (with_reducible exact Ext.refl _) | (with_reducible assumption) | (with_reducible refine Ext.alloc ?_ _) | (with_reducible refine Ext.drew ?_) | (with_reducible refine Ext.drewN ?_ _) | (with_reducible refine Ext.setCell ?_ (by simp; try omega) _) | (with_reducible refine Ext.setRow ?_ (by simp; try omega) _))) hx1
    have O0 := (Own.made w (w.alloc (.cells #[.int .i64 k, .int .i64 0, .int .i64 n, .slice A 0 c] 31)) [k] (by repeat (first | (with_reducible exact Ext.refl _) | (with_reducible assumption) | (with_reducible refine Ext.alloc ?_ _) | (with_reducible refine Ext.drew ?_) | (with_reducible refine Ext.drewN ?_ _) | (with_reducible refine Ext.setCell ?_ (by simp; try omega) _) | (with_reducible refine Ext.setRow ?_ (by simp; try omega) _))) (by simp [maxLen])).ext hx1
    simp only [World.size_alloc] at O0
    obtain ⟨_, Q1, G1⟩ := O0.open_
    go_wp2_with (at_builtin; refine wpList_rowcat rfl _ _ 25 5 1 1 (.int .u8 0) rfl Try.underlying25 u8Info rfl (by decide) _ _ _ _ _ rfl Q1 _ _ _ _ rfl R1.src (bc_one _) (by simp; unfold maxLen; omega) (by simp; omega) ?_)
    intro D1 f1 z1 S1 hC1 hf1
    obtain ⟨P1, y1⟩ := Own.app2 (ns := intB n) O0 x1 (Ext.refl _) hC1 S1 rfl rfl hf1
    go_wp2_with fail
    first | refine fin_ret rfl (fun K hK => ?_) | refine fin_norm rfl (fun K hK => ?_)
    simp [results, Try.results27, go_sem, rsat]
    try go_simp
    refine hK _ ?_
    clear hK K
    exact ⟨y1, _, rfl, P1⟩
  · obtain ⟨hs, hl⟩ := rightS_4 hR
    obtain rfl := List.eq_nil_of_length_eq_zero hl
    have hform : formS 4 s n [] = [4] ++ [s] ++ intB n := by unfold formS; rw [if_neg (by decide), if_pos rfl]; simp
    rw [hform]
    have es := u8_same hs
    have li := lenI n
    clear hform hR hl hS
    simp only [List.length_nil]
    go_enter Try.func27, Try.ntmps27
    go_wp2_with fail
    obtain ⟨C, hC⟩ : ∃ C, C = (Question.appendCap 2 1 5).cut (w.tape w.drawn (Question.appendCap 2 1 5)) := ⟨_, rfl⟩
    have hCb := cut2 1 5 (w.tape w.drawn (Question.appendCap 2 1 5))
    rw [← hC] at hCb ⊢
    clear hC
    have O0 := Own.grown2 w (((w.alloc (.cells #[.int .i64 4, .int .i64 s, .int .i64 n, .slice A 0 c] 31)).alloc (.cells #[.int .u8 4] 5)).alloc (.cells #[.int .u8 s] 5)) (by repeat (first | (with_reducible exact Ext.refl _) | (with_reducible assumption) | (with_reducible refine Ext.alloc ?_ _) | (with_reducible refine Ext.drew ?_) | (with_reducible refine Ext.drewN ?_ _) | (with_reducible refine Ext.setCell ?_ (by simp; try omega) _) | (with_reducible refine Ext.setRow ?_ (by simp; try omega) _))) 4 s C hCb
    simp only [World.size_alloc] at O0
    refine (rint_c n hn _).mono ?_
    rintro e w1 ⟨hx1, v1, rfl, A1, c1, rfl, R1, F1⟩
    have P1' := (O0.ext ((Ext.refl _).drew)).ext hx1
    have y2 : Ext w w1 := Ext.trans (by repeat (first | (with_reducible exact Ext.refl _) | (with_reducible assumption) | (with_reducible refine Ext.alloc ?_ _) | (with_reducible refine Ext.drew ?_) | (with_reducible refine Ext.drewN ?_ _) | (with_reducible refine Ext.setCell ?_ (by simp; try omega) _) | (with_reducible refine Ext.setRow ?_ (by simp; try omega) _))) hx1
    obtain ⟨hq, Q2, G2⟩ := P1'.open_
    go_wp2_with (at_builtin; refine wpList_rowcat rfl _ _ 25 5 1 1 (.int .u8 0) rfl Try.underlying25 u8Info rfl (by decide) _ _ _ _ _ rfl Q2 _ _ _ _ rfl R1.src (bc_one _) (by unfold maxLen; omega) (by omega) ?_)
    intro D2 f2 z2 T2 hC2 hf2
    obtain ⟨P2, y3⟩ := Own.app2 (ns := intB n) P1' y2 (Ext.refl _) hC2 T2 rfl rfl hf2
    go_wp2_with fail
    first | refine fin_ret rfl (fun K hK => ?_) | refine fin_norm rfl (fun K hK => ?_)
    simp [results, Try.results27, go_sem, rsat]
    try go_simp
    refine hK _ ?_
    clear hK K
    exact ⟨y3, _, rfl, P2⟩
end Go.Proofs.Ythfomohophmbaaa
