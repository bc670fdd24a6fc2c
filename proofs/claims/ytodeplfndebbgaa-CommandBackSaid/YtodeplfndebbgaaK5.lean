/- Law CommandEncodes. No condition. -/
import Derived.Test.YtodeplfndebbgaaK3
import Derived.Test.YtodeplfndebbgaaK4
namespace Go.Proofs.Ytodeplfndebbgaa
open Go.RowKit
attribute [local go_sem] Later.cell QUpon_value QUpon_enter MUpon_value run_eql_slice_nil Same.cell
attribute [local go_sem ↓ high] loadCmd_is storeCmd_is
attribute [local go_sem] run_loadCmd run_loadCmd_at run_storeCmd one_int one_bool one_slice one_ptr one_str setRow_new setRow_past cell_ca frozen_ca cellsAt_alloc_at cellsAt_alloc_past cellsAt_drew cellsAt_later cellsAt_setCell cellsAt_set_same cellsAt_setRow_same cellsAt_setRow_far subAt_alloc subAt_drew subAt_later subAt_setCell subAt_setRow ltn_2 ltn_3 ltn_4 ltn_5
theorem and1_i64 (x : Int) (h : I64 x) : bits BinOp.and IntKind.i64 x 1 = x % 2 := by
  obtain ⟨h1, h2⟩ := h
  have e : bits BinOp.and IntKind.i64 x 1 = IntKind.i64.wrap ((BitVec.ofInt 64 x &&& BitVec.ofInt 64 1).toNat : Int) := rfl
  rw [e, BitVec.toNat_and, BitVec.toNat_ofInt, BitVec.toNat_ofInt]
  simp only [Nat.reducePow]
  rw [show ((1 : Int) % (18446744073709551616 : Nat)).toNat = 1 by omega, Nat.and_one_is_mod, IntWalk.i64_left, wrap64_in ⟨by omega, by omega⟩]
  omega
theorem div_i64 {x : Int} (h : I64 x) (k : Nat) : I64 (x / 2 ^ k) := by
  obtain ⟨h1, h2⟩ := h
  have hp : (1 : Int) ≤ 2 ^ k := by exact_mod_cast Nat.one_le_two_pow
  by_cases h0 : 0 ≤ x
  · exact ⟨by have := Int.ediv_nonneg h0 (show (0 : Int) ≤ 2 ^ k by omega); omega, by have := Int.ediv_le_self (2 ^ k) h0; omega⟩
  · refine ⟨(Int.le_ediv_iff_mul_le (by omega)).2 ?_, ?_⟩
    · have : (-9223372036854775808 : Int) * 2 ^ k ≤ -9223372036854775808 * 1 := Int.mul_le_mul_of_nonpos_left (by omega) (by omega)
      omega
    · have : x / 2 ^ k ≤ 0 := by
        have := Int.ediv_le_ediv (show (0 : Int) < 2 ^ k by omega) (show x ≤ 0 by omega)
        simpa using this
      omega
theorem and8 (X : Nat) (k : Nat) (hk : k < 8) : X &&& k = (X % 8) &&& k := by
  apply Nat.eq_of_testBit_eq
  intro i
  rw [Nat.testBit_and, Nat.testBit_and, show (8 : Nat) = 2 ^ 3 from rfl, Nat.testBit_mod_two_pow]
  by_cases hi : i < 3
  · simp [hi]
  · have : Nat.testBit k i = false := Nat.testBit_lt_two_pow (Nat.lt_of_lt_of_le hk (by rw [show (8 : Nat) = 2 ^ 3 from rfl]; exact Nat.pow_le_pow_right (by decide) (by omega)))
    simp [this]
theorem and_small (x : Int) (h : I64 x) (k : Nat) (hk : k < 8) : bits BinOp.and IntKind.i64 x (k : Int) = (((x % 8).toNat &&& k : Nat) : Int) := by
  obtain ⟨h1, h2⟩ := h
  have e : bits BinOp.and IntKind.i64 x (k : Int) = IntKind.i64.wrap ((BitVec.ofInt 64 x &&& BitVec.ofInt 64 (k : Int)).toNat : Int) := rfl
  rw [e, BitVec.toNat_and, BitVec.toNat_ofInt, BitVec.toNat_ofInt]
  simp only [Nat.reducePow]
  rw [show ((k : Int) % (18446744073709551616 : Nat)).toNat = k by omega, and8 _ k hk, show (x % (18446744073709551616 : Nat)).toNat % 8 = (x % 8).toNat by omega]
  have hle : (x % 8).toNat &&& k ≤ k := Nat.and_le_right
  rw [IntWalk.i64_left, wrap64_in ⟨by omega, by omega⟩]
def hasB (fl f : Int) : Nat → Bool
  | 0 => true
  | i + 1 => hasB fl f i && !((f / 2 ^ i % 2 == 1) && (fl / 2 ^ i % 2 == 0))
theorem has8 : ∀ a b : Fin 8, ((a.val &&& b.val) == b.val) = (!((b.val % 2 == 1) && (a.val % 2 == 0)) && !((b.val / 2 % 2 == 1) && (a.val / 2 % 2 == 0)) && !((b.val / 4 % 2 == 1) && (a.val / 4 % 2 == 0))) := by decide
theorem has_is (fl : Int) (h : I64 fl) (k : Nat) (hk : k < 8) : (bits BinOp.and IntKind.i64 fl (k : Int) == (k : Int)) = hasB fl (k : Int) 8 := by
  rw [and_small fl h k hk]
  have h8 := has8 ⟨(fl % 8).toNat, by omega⟩ ⟨k, hk⟩
  simp only at h8
  have e0 : ((((fl % 8).toNat &&& k : Nat) : Int) == (k : Int)) = (((fl % 8).toNat &&& k) == k) := by
    by_cases hq : ((fl % 8).toNat &&& k) = k
    · simp [hq]
    · rw [beq_eq_false_iff_ne.2 hq, beq_eq_false_iff_ne.2 (by omega)]
  rw [e0, h8]
  simp only [hasB]
  have z : ∀ i : Nat, 3 ≤ i → ((k : Int) / 2 ^ i % 2 == 1) = false := fun i hi => by
    have hp : (2 : Int) ^ 3 ≤ 2 ^ i := by exact_mod_cast Nat.pow_le_pow_right (show 0 < 2 by decide) hi
    have : (k : Int) / 2 ^ i = 0 := Int.ediv_eq_zero_of_lt (by omega) (by omega)
    rw [this]
    rfl
  rw [z 3 (by decide), z 4 (by decide), z 5 (by decide), z 6 (by decide), z 7 (by decide)]
  have b0 : ((k : Int) / 2 ^ 0 % 2 == 1) = (k % 2 == 1) := by rw [Bool.eq_iff_iff, beq_iff_eq, beq_iff_eq]; simp only [Int.pow_zero]; omega
  have b1 : ((k : Int) / 2 ^ 1 % 2 == 1) = (k / 2 % 2 == 1) := by rw [Bool.eq_iff_iff, beq_iff_eq, beq_iff_eq]; simp only [Int.reducePow]; omega
  have b2 : ((k : Int) / 2 ^ 2 % 2 == 1) = (k / 4 % 2 == 1) := by rw [Bool.eq_iff_iff, beq_iff_eq, beq_iff_eq]; simp only [Int.reducePow]; omega
  have c0 : (fl / 2 ^ 0 % 2 == 0) = ((fl % 8).toNat % 2 == 0) := by rw [Bool.eq_iff_iff, beq_iff_eq, beq_iff_eq]; simp only [Int.pow_zero]; omega
  have c1 : (fl / 2 ^ 1 % 2 == 0) = ((fl % 8).toNat / 2 % 2 == 0) := by rw [Bool.eq_iff_iff, beq_iff_eq, beq_iff_eq]; simp only [Int.reducePow]; omega
  have c2 : (fl / 2 ^ 2 % 2 == 0) = ((fl % 8).toNat / 4 % 2 == 0) := by rw [Bool.eq_iff_iff, beq_iff_eq, beq_iff_eq]; simp only [Int.reducePow]; omega
  rw [b0, b1, b2, c0, c1, c2]
  simp
theorem has_c (c : Cm) (f : Int) (w : World) : Calls Try.prog 13 #[.agg #[.int .i64 c.kind, .int .i64 c.sym, .int .i64 c.id, .int .i64 c.own, .int .i64 c.side, .int .i64 c.typ, .int .i64 c.price, .int .i64 c.qty, .int .i64 c.flags], .int .i64 f] w fun e w' => e = .returned (.bool (bits BinOp.and IntKind.i64 c.flags f == f)) ∧ Ext w w' := by
  go_enter Try.func13, Try.ntmps13
  go_wp2_with fail
  first | refine fin_ret rfl (fun K hK => ?_) | refine fin_norm rfl (fun K hK => ?_)
  simp [results, Try.results13, go_sem, rsat]
  try go_simp
  refine hK _ ?_
  clear hK K
  exact ⟨rfl, (by repeat (first | (with_reducible exact Ext.refl _) | (with_reducible assumption) | (with_reducible refine Ext.alloc ?_ _) | (with_reducible refine Ext.drew ?_) | (with_reducible refine Ext.drewN ?_ _) | (with_reducible refine Ext.setCell ?_ (by simp; try omega) _) | (with_reducible refine Ext.setRow ?_ (by simp; try omega) _)))⟩
theorem formC_byt' (c : Cm) : Byt (encCL c) := by
  unfold encCL
  by_cases h : rightC c = true
  · rw [if_pos h]; exact formC_byt ((cright_iff c).1 h)
  · rw [if_neg h]; intro x hx; cases hx
set_option maxHeartbeats 2000000 in
set_option maxRecDepth 100000 in
theorem alive_c5 (w : World) : Calls Try.prog 6 #[] w fun e w' => e = .returned (.bool true) ∧ Ext w w' := by
  have hb : Byt [2, 3, 5] := by unfold Byt; decide
  have C := fun W (hS : Src W 1 (some ⟨w.heap.size, 0, none⟩) 3 (bc [2, 3, 5])) => dec2_c (some ⟨w.heap.size, 0, none⟩) 3 [2, 3, 5] hb (by decide) W hS [3, 5] [5] [] 0 0 3 5 (by decide) (by decide) (by decide)
  have HC := Lib.hid C
  clear C
  go_enter Try.func6, Try.ntmps6
  go_wp2_with fail
  refine (HC.out _ (Src.at (At.new _ _ _) rfl)).mono ?_
  rintro e w1 ⟨hx1, c, f, rfl, hcf⟩
  have hfc : finC ⟨2, ((3 : Nat) : Int), ((min 5 4611686018427387905 : Nat) : Int), 0, 0, 0, 0, 0, 0⟩ [] 0 = (⟨2, 3, 5, 0, 0, 0, 0, 0, 0⟩, 0) := rfl
  rw [hfc] at hcf
  injection hcf with h1 h2
  subst h1 h2
  simp only
  go_wp2_with fail
  first | refine fin_ret rfl (fun K hK => ?_) | refine fin_norm rfl (fun K hK => ?_)
  simp [results, Try.results6, go_sem, rsat]
  try go_simp
  refine hK _ ?_
  clear hK K
  exact ⟨rfl, (((Ext.refl w).alloc _).trans hx1).alloc _⟩
set_option maxHeartbeats 2000000 in
set_option maxRecDepth 100000 in
theorem encodes_5 (c : Cm) (hO : c.Ok) (fl : Int) (hfl : I64 fl) (w : World) : Calls Try.prog 5 #[.agg #[.int .i64 c.kind, .int .i64 c.sym, .int .i64 c.id, .int .i64 c.own, .int .i64 c.side, .int .i64 c.typ, .int .i64 c.price, .int .i64 c.qty, .int .i64 c.flags], .int .i64 fl] w fun e w' => e = .returned (.bool true) ∧ Ext w w' := by
  have C1 := cenc_c c hO
  have C2 := rencC_c c hO
  unfold EncC at C1 C2
  have C3 := cright_c c
  have C4 := rright5_c c
  have C5 := has_c c fl
  have hL := formC_byt' c
  generalize encCL c = L at C1 C2 hL
  generalize encCF c = f at C1 C2
  generalize rightC c = r at C3 C4
  have HC1 := Lib.hid C1
  have HC2 := Lib.hid C2
  have HC3 := Lib.hid C3
  have HC4 := Lib.hid C4
  have HC5 := Lib.hid C5
  clear C1 C2 C3 C4 C5
  have hff : (f == f) = true := by simp
  have hrr : (r == r) = true := by simp
  go_enter Try.func5, Try.ntmps5
  go_wp2_with fail
  refine (HC1.out _).mono ?_
  rintro e w1 ⟨hxw1, v, rfl, o1⟩
  have M_w1 := At.ext (g := w.heap.size) (t := 25) (cs := #[.int .i64 c.kind, .int .i64 c.sym, .int .i64 c.id, .int .i64 c.own, .int .i64 c.side, .int .i64 c.typ, .int .i64 c.price, .int .i64 c.qty, .int .i64 c.flags]) (by repeat (first | (with_reducible exact At.new _ _ _) | ((with_reducible refine At.new' _ _ _ _ ?_); simp; done) | (with_reducible assumption) | (with_reducible refine At.drew ?_) | (with_reducible refine At.alloc ?_ _) | (with_reducible apply At.upd) | (with_reducible apply At.setRow) | (with_reducible refine At.rowFar ?_ (by first | (simp; done) | (simp; omega) | omega) _) | ((with_reducible refine At.far ?_ (by first | (simp; done) | (simp; omega) | omega) _)) | (with_reducible rfl) | (simp; done))) hxw1
  have xw1 : Ext w w1 := Ext.trans (by repeat (first | (with_reducible exact Ext.refl _) | (with_reducible assumption) | (with_reducible refine Ext.alloc ?_ _) | (with_reducible refine Ext.drew ?_) | (with_reducible refine Ext.drewN ?_ _) | (with_reducible refine Ext.setCell ?_ (by simp; try omega) _) | (with_reducible refine Ext.setRow ?_ (by simp; try omega) _))) hxw1
  clear hxw1
  have s_M_w1 := M_w1.lt
  have e_M_w1 := cellsAt_at M_w1
  go_wp2_with fail
  refine (HC2.out _).mono ?_
  rintro e w2 ⟨hxw2, v2, rfl, o2⟩
  have o12 := o1.ext hxw2
  have M_w2 := At.ext (g := w.heap.size) (t := 25) (cs := #[.int .i64 c.kind, .int .i64 c.sym, .int .i64 c.id, .int .i64 c.own, .int .i64 c.side, .int .i64 c.typ, .int .i64 c.price, .int .i64 c.qty, .int .i64 c.flags]) (by repeat (first | (with_reducible exact At.new _ _ _) | ((with_reducible refine At.new' _ _ _ _ ?_); simp; done) | (with_reducible assumption) | (with_reducible refine At.drew ?_) | (with_reducible refine At.alloc ?_ _) | (with_reducible apply At.upd) | (with_reducible apply At.setRow) | (with_reducible refine At.rowFar ?_ (by first | (simp; done) | (simp; omega) | omega) _) | ((with_reducible refine At.far ?_ (by first | (simp; done) | (simp; omega) | omega) _)) | (with_reducible rfl) | (simp; done))) hxw2
  have xw2 : Ext w w2 := Ext.trans (by repeat (first | (with_reducible exact Ext.refl _) | (with_reducible assumption) | (with_reducible refine Ext.alloc ?_ _) | (with_reducible refine Ext.drew ?_) | (with_reducible refine Ext.drewN ?_ _) | (with_reducible refine Ext.setCell ?_ (by simp; try omega) _) | (with_reducible refine Ext.setRow ?_ (by simp; try omega) _))) hxw2
  clear M_w1 s_M_w1 e_M_w1 hxw2 xw1
  have s_M_w2 := M_w2.lt
  have e_M_w2 := cellsAt_at M_w2
  obtain ⟨A1, c1, rfl, R1, F1⟩ := o12
  obtain ⟨A2, c2, rfl, R2, F2⟩ := o2
  go_wp2_with fail
  go_loopw [9, 10] (fun h i wr => ∃ k : Nat, i = .int .i64 k ∧ k ≤ 8 ∧ h = .bool (hasB c.flags fl k) ∧ wr = w2) (fun _ i _ => 8 - (intOf i).toNat)
  case atStart => exact ⟨0, rfl, by omega, rfl, rfl⟩
  case round =>
    obtain ⟨k, rfl, hk, rfl, rfl⟩ := hrel
    by_cases h : k < 8
    · clear HC1 HC2 HC3 HC4 HC5 hff hrr
      rename_i a
      have HA := Lib.hid a
      clear a
      go_wp2_with fail
      · rename_i q1 q2 q3
        rw [and1_i64 _ (div_i64 hfl k)] at q2
        rw [and1_i64 _ (div_i64 hO.flags k)] at q3
        exact ⟨⟨k + 1, by go_num, by omega, by simp [hasB, q2, q3], trivial⟩, by simp [intOf]; omega⟩
      · rename_i q1 q2 q3
        rw [and1_i64 _ (div_i64 hfl k)] at q2
        rw [and1_i64 _ (div_i64 hO.flags k)] at q3
        exact ⟨⟨k + 1, by go_num, by omega, by simp [hasB, q2, q3], trivial⟩, by simp [intOf]; omega⟩
      · rename_i q1 q2
        rw [and1_i64 _ (div_i64 hfl k)] at q2
        exact ⟨⟨k + 1, by go_num, by omega, by simp [hasB, q2], trivial⟩, by simp [intOf]; omega⟩
    · obtain rfl : k = 8 := by omega
      clear h hk
      by_cases hf8 : 0 ≤ fl ∧ fl < 8
      · have e5 : (bits BinOp.and IntKind.i64 c.flags fl == fl) = hasB c.flags fl 8 := by
          have := has_is c.flags hO.flags fl.toNat (by omega)
          rw [Int.toNat_of_nonneg hf8.1] at this
          exact this
        rw [e5] at HC5
        clear e5
        generalize hasB c.flags fl 8 = B at HC5 ⊢
        have hBB : (B != B) = false := by simp
        obtain ⟨f0, f1⟩ := hf8
        go_wp2_with fail
        refine (HC5.out _).mono ?_
        rintro e w3 ⟨rfl, hxw3⟩
        have R1 := R1.ext hxw3
        have R2 := R2.ext hxw3
        have M_w3 := At.ext (g := w.heap.size) (t := 25) (cs := #[.int .i64 c.kind, .int .i64 c.sym, .int .i64 c.id, .int .i64 c.own, .int .i64 c.side, .int .i64 c.typ, .int .i64 c.price, .int .i64 c.qty, .int .i64 c.flags]) (by repeat (first | (with_reducible exact At.new _ _ _) | ((with_reducible refine At.new' _ _ _ _ ?_); simp; done) | (with_reducible assumption) | (with_reducible refine At.drew ?_) | (with_reducible refine At.alloc ?_ _) | (with_reducible apply At.upd) | (with_reducible apply At.setRow) | (with_reducible refine At.rowFar ?_ (by first | (simp; done) | (simp; omega) | omega) _) | ((with_reducible refine At.far ?_ (by first | (simp; done) | (simp; omega) | omega) _)) | (with_reducible rfl) | (simp; done))) hxw3
        have xw3 : Ext w w3 := Ext.trans (by repeat (first | (with_reducible exact Ext.refl _) | (with_reducible assumption) | (with_reducible refine Ext.alloc ?_ _) | (with_reducible refine Ext.drew ?_) | (with_reducible refine Ext.drewN ?_ _) | (with_reducible refine Ext.setCell ?_ (by simp; try omega) _) | (with_reducible refine Ext.setRow ?_ (by simp; try omega) _))) hxw3
        clear M_w2 s_M_w2 e_M_w2 hxw3 xw2
        have s_M_w3 := M_w3.lt
        have e_M_w3 := cellsAt_at M_w3
        go_wp2_with fail
        refine wp_region_x 19 [0, 0, 1, 0, 0, 0, 0, 0, 0, 1, 1, 1, 1, 0, 0, 0, 1, 0, 0] (by kernel_rfl) (by kernel_rfl) (by kernel_rfl) ?_
        simp only [List.take_succ_cons, List.take_zero, List.drop_succ_cons, List.drop_zero]
        refine hl_pure (fun K hK => ?_)
        go_simp
        refine hK _ ?_
        clear hK K
        refine hl_pure (fun K hK => ?_)
        go_simp
        refine hK _ ?_
        clear hK K
        refine hl_quiet (fun K hK => ?_)
        go_simp
        first
          | (refine hK _ ?_; clear hK K)
          | (apply Exists.intro; refine ⟨fun x => ?_, hK _ ?_⟩
             · (exact same_c A1 A2 _ _ c1 c2 L L _ (R1.ext x.ext).src (R2.ext x.ext).src hL hL)
             clear hK K)
        refine hl_pure (fun K hK => ?_)
        go_simp
        refine hK _ ?_
        clear hK K
        refine hl_pure (fun K hK => ?_)
        go_simp
        refine hK _ ?_
        clear hK K
        refine hl_pure (fun K hK => ?_)
        go_simp
        refine hK _ ?_
        clear hK K
        refine hl_pure (fun K hK => ?_)
        go_simp
        refine hK _ ?_
        clear hK K
        refine hl_pure (fun K hK => ?_)
        go_simp
        refine hK _ ?_
        clear hK K
        refine hl_pure (fun K hK => ?_)
        go_simp
        refine hK _ ?_
        clear hK K
        refine hl_quiet (fun K hK => ?_)
        go_simp
        refine hK _ ?_
        clear hK K
        refine hl_quiet (fun K hK => ?_)
        go_simp
        first
          | (refine hK _ ?_; clear hK K)
          | (apply Exists.intro; refine ⟨fun x => ?_, hK _ ?_⟩
             · (exact HC3.out _)
             clear hK K)
        refine hl_quiet (fun K hK => ?_)
        go_simp
        refine hK _ ?_
        clear hK K
        refine hl_quiet (fun K hK => ?_)
        go_simp
        first
          | (refine hK _ ?_; clear hK K)
          | (apply Exists.intro; refine ⟨fun x => ?_, hK _ ?_⟩
             · (exact HC4.out _)
             clear hK K)
        refine hl_pure (fun K hK => ?_)
        go_simp
        refine hK _ ?_
        clear hK K
        refine hl_pure (fun K hK => ?_)
        go_simp
        refine hK _ ?_
        clear hK K
        refine hl_pure (fun K hK => ?_)
        go_simp
        refine hK _ ?_
        clear hK K
        refine hl_quiet (fun K hK => ?_)
        go_simp
        first
          | (refine hK _ ?_; clear hK K)
          | (apply Exists.intro; refine ⟨fun x => ?_, hK _ ?_⟩
             · (exact alive_c5 _)
             clear hK K)
        refine hl_pure (fun K hK => ?_)
        go_simp
        refine hK _ ?_
        clear hK K
        refine hl_pure (fun K hK => ?_)
        go_simp
        refine hK _ ?_
        clear hK K
        refine hl_nil ?_
        intro w4 hxw4 K hK
        have xw4 : Ext w w4 := Ext.trans (by repeat (first | (with_reducible exact Ext.refl _) | (with_reducible assumption) | (with_reducible refine Ext.alloc ?_ _) | (with_reducible refine Ext.drew ?_) | (with_reducible refine Ext.drewN ?_ _) | (with_reducible refine Ext.setCell ?_ (by simp; try omega) _) | (with_reducible refine Ext.setRow ?_ (by simp; try omega) _))) hxw4
        obtain ⟨hcw4, hfw4⟩ := hxw4.facts
        have hsw4 := hxw4.size
        try simp only [World.size_drew, World.size_alloc, World.size_setCell] at hsw4 hcw4 hfw4
        go_wp2_with fail
        first | refine fin_ret rfl (fun K hK => ?_) | refine fin_norm rfl (fun K hK => ?_)
        simp [results, Try.results5, go_sem, rsat]
        try go_simp
        refine hK _ ?_
        clear hK K
        exact ⟨rfl, (by repeat (first | (with_reducible exact Ext.refl _) | (with_reducible assumption) | (with_reducible refine Ext.alloc ?_ _) | (with_reducible refine Ext.drew ?_) | (with_reducible refine Ext.drewN ?_ _) | (with_reducible refine Ext.setCell ?_ (by simp; try omega) _) | (with_reducible refine Ext.setRow ?_ (by simp; try omega) _)))⟩
      · have f1 : (decide (0 ≤ fl) && decide (fl < 8)) = false := by simp; omega
        clear HC5
        by_cases f0 : 0 ≤ fl
        · have f2 : ¬ fl < 8 := by omega
          clear hf8 f1
          go_wp2_with fail
          refine wp_region_x 19 [0, 0, 1, 0, 0, 0, 0, 0, 0, 1, 1, 1, 1, 0, 0, 0, 1, 0, 0] (by kernel_rfl) (by kernel_rfl) (by kernel_rfl) ?_
          simp only [List.take_succ_cons, List.take_zero, List.drop_succ_cons, List.drop_zero]
          refine hl_pure (fun K hK => ?_)
          go_simp
          refine hK _ ?_
          clear hK K
          refine hl_pure (fun K hK => ?_)
          go_simp
          refine hK _ ?_
          clear hK K
          refine hl_quiet (fun K hK => ?_)
          go_simp
          first
            | (refine hK _ ?_; clear hK K)
            | (apply Exists.intro; refine ⟨fun x => ?_, hK _ ?_⟩
               · (exact same_c A1 A2 _ _ c1 c2 L L _ (R1.ext x.ext).src (R2.ext x.ext).src hL hL)
               clear hK K)
          refine hl_pure (fun K hK => ?_)
          go_simp
          refine hK _ ?_
          clear hK K
          refine hl_pure (fun K hK => ?_)
          go_simp
          refine hK _ ?_
          clear hK K
          refine hl_pure (fun K hK => ?_)
          go_simp
          refine hK _ ?_
          clear hK K
          refine hl_pure (fun K hK => ?_)
          go_simp
          refine hK _ ?_
          clear hK K
          refine hl_pure (fun K hK => ?_)
          go_simp
          refine hK _ ?_
          clear hK K
          refine hl_pure (fun K hK => ?_)
          go_simp
          refine hK _ ?_
          clear hK K
          refine hl_quiet (fun K hK => ?_)
          go_simp
          refine hK _ ?_
          clear hK K
          refine hl_quiet (fun K hK => ?_)
          go_simp
          first
            | (refine hK _ ?_; clear hK K)
            | (apply Exists.intro; refine ⟨fun x => ?_, hK _ ?_⟩
               · (exact HC3.out _)
               clear hK K)
          refine hl_quiet (fun K hK => ?_)
          go_simp
          refine hK _ ?_
          clear hK K
          refine hl_quiet (fun K hK => ?_)
          go_simp
          first
            | (refine hK _ ?_; clear hK K)
            | (apply Exists.intro; refine ⟨fun x => ?_, hK _ ?_⟩
               · (exact HC4.out _)
               clear hK K)
          refine hl_pure (fun K hK => ?_)
          go_simp
          refine hK _ ?_
          clear hK K
          refine hl_pure (fun K hK => ?_)
          go_simp
          refine hK _ ?_
          clear hK K
          refine hl_pure (fun K hK => ?_)
          go_simp
          refine hK _ ?_
          clear hK K
          refine hl_quiet (fun K hK => ?_)
          go_simp
          first
            | (refine hK _ ?_; clear hK K)
            | (apply Exists.intro; refine ⟨fun x => ?_, hK _ ?_⟩
               · (exact alive_c5 _)
               clear hK K)
          refine hl_pure (fun K hK => ?_)
          go_simp
          refine hK _ ?_
          clear hK K
          refine hl_pure (fun K hK => ?_)
          go_simp
          refine hK _ ?_
          clear hK K
          refine hl_nil ?_
          intro w4 hxw4 K hK
          have xw4 : Ext w w4 := Ext.trans (by repeat (first | (with_reducible exact Ext.refl _) | (with_reducible assumption) | (with_reducible refine Ext.alloc ?_ _) | (with_reducible refine Ext.drew ?_) | (with_reducible refine Ext.drewN ?_ _) | (with_reducible refine Ext.setCell ?_ (by simp; try omega) _) | (with_reducible refine Ext.setRow ?_ (by simp; try omega) _))) hxw4
          obtain ⟨hcw4, hfw4⟩ := hxw4.facts
          have hsw4 := hxw4.size
          try simp only [World.size_drew, World.size_alloc, World.size_setCell] at hsw4 hcw4 hfw4
          go_wp2_with fail
          first | refine fin_ret rfl (fun K hK => ?_) | refine fin_norm rfl (fun K hK => ?_)
          simp [results, Try.results5, go_sem, rsat]
          try go_simp
          refine hK _ ?_
          clear hK K
          exact ⟨rfl, (by repeat (first | (with_reducible exact Ext.refl _) | (with_reducible assumption) | (with_reducible refine Ext.alloc ?_ _) | (with_reducible refine Ext.drew ?_) | (with_reducible refine Ext.drewN ?_ _) | (with_reducible refine Ext.setCell ?_ (by simp; try omega) _) | (with_reducible refine Ext.setRow ?_ (by simp; try omega) _)))⟩
        · clear hf8 f1
          go_wp2_with fail
          refine wp_region_x 19 [0, 0, 1, 0, 0, 0, 0, 0, 0, 1, 1, 1, 1, 0, 0, 0, 1, 0, 0] (by kernel_rfl) (by kernel_rfl) (by kernel_rfl) ?_
          simp only [List.take_succ_cons, List.take_zero, List.drop_succ_cons, List.drop_zero]
          refine hl_pure (fun K hK => ?_)
          go_simp
          refine hK _ ?_
          clear hK K
          refine hl_pure (fun K hK => ?_)
          go_simp
          refine hK _ ?_
          clear hK K
          refine hl_quiet (fun K hK => ?_)
          go_simp
          first
            | (refine hK _ ?_; clear hK K)
            | (apply Exists.intro; refine ⟨fun x => ?_, hK _ ?_⟩
               · (exact same_c A1 A2 _ _ c1 c2 L L _ (R1.ext x.ext).src (R2.ext x.ext).src hL hL)
               clear hK K)
          refine hl_pure (fun K hK => ?_)
          go_simp
          refine hK _ ?_
          clear hK K
          refine hl_pure (fun K hK => ?_)
          go_simp
          refine hK _ ?_
          clear hK K
          refine hl_pure (fun K hK => ?_)
          go_simp
          refine hK _ ?_
          clear hK K
          refine hl_pure (fun K hK => ?_)
          go_simp
          refine hK _ ?_
          clear hK K
          refine hl_pure (fun K hK => ?_)
          go_simp
          refine hK _ ?_
          clear hK K
          refine hl_pure (fun K hK => ?_)
          go_simp
          refine hK _ ?_
          clear hK K
          refine hl_quiet (fun K hK => ?_)
          go_simp
          refine hK _ ?_
          clear hK K
          refine hl_quiet (fun K hK => ?_)
          go_simp
          first
            | (refine hK _ ?_; clear hK K)
            | (apply Exists.intro; refine ⟨fun x => ?_, hK _ ?_⟩
               · (exact HC3.out _)
               clear hK K)
          refine hl_quiet (fun K hK => ?_)
          go_simp
          refine hK _ ?_
          clear hK K
          refine hl_quiet (fun K hK => ?_)
          go_simp
          first
            | (refine hK _ ?_; clear hK K)
            | (apply Exists.intro; refine ⟨fun x => ?_, hK _ ?_⟩
               · (exact HC4.out _)
               clear hK K)
          refine hl_pure (fun K hK => ?_)
          go_simp
          refine hK _ ?_
          clear hK K
          refine hl_pure (fun K hK => ?_)
          go_simp
          refine hK _ ?_
          clear hK K
          refine hl_pure (fun K hK => ?_)
          go_simp
          refine hK _ ?_
          clear hK K
          refine hl_quiet (fun K hK => ?_)
          go_simp
          first
            | (refine hK _ ?_; clear hK K)
            | (apply Exists.intro; refine ⟨fun x => ?_, hK _ ?_⟩
               · (exact alive_c5 _)
               clear hK K)
          refine hl_pure (fun K hK => ?_)
          go_simp
          refine hK _ ?_
          clear hK K
          refine hl_pure (fun K hK => ?_)
          go_simp
          refine hK _ ?_
          clear hK K
          refine hl_nil ?_
          intro w4 hxw4 K hK
          have xw4 : Ext w w4 := Ext.trans (by repeat (first | (with_reducible exact Ext.refl _) | (with_reducible assumption) | (with_reducible refine Ext.alloc ?_ _) | (with_reducible refine Ext.drew ?_) | (with_reducible refine Ext.drewN ?_ _) | (with_reducible refine Ext.setCell ?_ (by simp; try omega) _) | (with_reducible refine Ext.setRow ?_ (by simp; try omega) _))) hxw4
          obtain ⟨hcw4, hfw4⟩ := hxw4.facts
          have hsw4 := hxw4.size
          try simp only [World.size_drew, World.size_alloc, World.size_setCell] at hsw4 hcw4 hfw4
          go_wp2_with fail
          first | refine fin_ret rfl (fun K hK => ?_) | refine fin_norm rfl (fun K hK => ?_)
          simp [results, Try.results5, go_sem, rsat]
          try go_simp
          refine hK _ ?_
          clear hK K
          exact ⟨rfl, (by repeat (first | (with_reducible exact Ext.refl _) | (with_reducible assumption) | (with_reducible refine Ext.alloc ?_ _) | (with_reducible refine Ext.drew ?_) | (with_reducible refine Ext.drewN ?_ _) | (with_reducible refine Ext.setCell ?_ (by simp; try omega) _) | (with_reducible refine Ext.setRow ?_ (by simp; try omega) _)))⟩
theorem commandencodes_c (c : Cm) (hO : c.Ok) (fl : Int) (hfl : I64 fl) (w : World) : Calls Try.prog 5 #[.agg #[.int .i64 c.kind, .int .i64 c.sym, .int .i64 c.id, .int .i64 c.own, .int .i64 c.side, .int .i64 c.typ, .int .i64 c.price, .int .i64 c.qty, .int .i64 c.flags], .int .i64 fl] w fun e w' => e = .returned (.bool true) ∧ Below w.heap.size w w' :=
  encodes_5 c hO fl hfl w
end Go.Proofs.Ytodeplfndebbgaa
