/- What a writer puts, 2 (octets): Uint, Raw, Int, Bytes. Condition: at most 10^9 bytes. -/
import Derived.Test.YtndcmjpacailjaaO2
namespace Go.Proofs.Ytndcmjpacailjaa
open Go.RowKit
attribute [local go_sem] Later.cell QUpon_value QUpon_enter MUpon_value run_eql_slice_nil
/-- The last k bytes of a number, the greatest ahead. -/
def uintB (n : Nat) : Nat → List Int
  | 0 => []
  | k + 1 => ((n / 256 ^ k % 256 : Nat) : Int) :: uintB n k
theorem uintB_byt (n k : Nat) : Byt (uintB n k) := by
  induction k with
  | zero => intro x hx; cases hx
  | succ k ih =>
    intro x hx
    rcases List.mem_cons.1 hx with h | h
    · omega
    · exact ih x h
theorem uintB_len (n k : Nat) : (uintB n k).length = k := by
  induction k with
  | zero => rfl
  | succ k ih => simp [uintB, ih]
theorem byte_of (n k : Nat) : IntKind.u8.wrap ((n : Int) / 2 ^ (8 * (k : Int)).toNat) = ((n / 256 ^ k % 256 : Nat) : Int) := by
  have e1 : (8 * (k : Int)).toNat = 8 * k := by omega
  have e2 : (2 : Int) ^ (8 * k) = ((256 ^ k : Nat) : Int) := by
    rw [show (256 : Nat) = 2 ^ 8 from rfl, ← Nat.pow_mul]
    simp
  rw [e1, e2, ← Int.natCast_ediv, u8_wrap]
set_option maxHeartbeats 2000000 in
set_option maxRecDepth 100000 in
theorem uint_c (g : Nat) (A : Option Addr) (bs : List Int) (n size : Nat) (hn : n < 18446744073709551616) (hs : 1 ≤ size ∧ size ≤ 8) (w : World) (hW : Wr w g A bs) (hl : bs.length ≤ 1000000000) :
    Calls Try.prog 43 #[.pointer (some ⟨g, 0, none⟩), .int .u64 n, .int .i64 size] w fun e w' => e = .returned (.pointer (some ⟨g, 0, none⟩)) ∧ ∃ A', Puts w g A (bs ++ uintB n size) w' A' := by
  go_enter Try.func43, Try.ntmps43
  go_wp2_with fail
  go_loopw [7] (fun i wr => ∃ (k : Nat) (ds : List Int) (A1 : Option Addr), i = .int .i64 ((k : Int) - 1) ∧ k ≤ size ∧ bs ++ uintB n size = ds ++ uintB n k ∧ ds.length + k ≤ 1000000008 ∧ Puts w g A ds wr A1) (fun i _ => (intOf i + 1).toNat)
  case atStart => exact ⟨size, bs, A, by go_num, Nat.le_refl _, rfl, by omega, Puts.refl hW⟩
  case round =>
    obtain ⟨k, ds, A1, rfl, hk, hds, hdl, hP⟩ := hrel
    obtain ⟨c, hA, hR⟩ := hP.wr.ex
    have sg := hA.lt
    have hgA1 : g ∉ ablk A1 := fun h => (hP.wr.alt g h).2 rfl
    cases k with
    | zero =>
      go_wp2_with fail
      first | refine fin_ret rfl (fun K hK => ?_) | refine fin_norm rfl (fun K hK => ?_)
      simp [results, Try.results43, go_sem, rsat]
      try go_simp
      refine hK _ ?_
      clear hK K
      refine ⟨rfl, A1, ?_⟩
      rw [hds, show uintB n 0 = [] from rfl, List.append_nil]
      exact hP
    | succ k =>
      have c0 : wr.cell? ⟨g, 0, none⟩ = some (.slice A1 ds.length c) := hA.cell 0
      have h8 : IntKind.i64.wrap (8 * (k : Int)) = 8 * (k : Int) := by rw [IntWalk.i64_left, wrap64_in ⟨by omega, by omega⟩]
      go_wp2_with fail
      refine gen_world (fun W => W = wr) rfl (fun w1 hF => ?_)
      subst hF
      obtain ⟨b, hb⟩ : ∃ b : Int, b = ((n / 256 ^ k % 256 : Nat) : Int) := ⟨_, rfl⟩
      have hb8 := byte_of n k
      rw [← hb] at hb8
      have hb0 : 0 ≤ b ∧ b < 256 := by omega
      have hds' : bs ++ uintB n size = ds ++ b :: uintB n k := by rw [hds, hb]; rfl
      have HB := Lib.hid hb
      clear hb
      refine wp_region_m 11 [0, 0, 0, 0, 1, 0, 0, 0, 0, 0, 2] 10 (MadeS w1 5 1 #[.int .u8 b]) _ (by kernel_rfl) (by kernel_rfl) rfl (by omega) rfl MadeS.ext ?_
      simp only [List.take_succ_cons, List.take_zero, List.drop_succ_cons, List.drop_zero]
      refine hl_pure (fun K hK => ?_)
      go_simp
      refine hK _ ?_
      clear hK K
      refine hl_pure (fun K hK => ?_)
      go_simp
      refine hK _ ?_
      clear hK K
      refine hl_pure (fun K hK => ?_)
      go_simp
      refine hK _ ?_
      clear hK K
      refine hl_pure (fun K hK => ?_)
      go_simp
      refine hK _ ?_
      clear hK K
      refine hl_quiet (fun K hK => ?_)
      go_simp
      refine hK _ ?_
      clear hK K
      refine hl_pure (fun K hK => ?_)
      go_simp
      refine hK _ ?_
      clear hK K
      refine hl_pure (fun K hK => ?_)
      go_simp
      refine hK _ ?_
      clear hK K
      refine hl_pure (fun K hK => ?_)
      go_simp
      refine hK _ ?_
      clear hK K
      refine hl_pure (fun K hK => ?_)
      go_simp
      refine hK _ ?_
      clear hK K
      refine hl_pure (fun K hK => ?_)
      go_simp
      refine hK _ ?_
      clear hK K
      refine hl_make rfl (fun x => by go_simp; exact Later.mades x _ _ _) ?_
      refine hl_nil ?_
      intro u2 w2 hx2 hu2 K2 hK2
      obtain ⟨q2, rfl, hq2, hB2⟩ := hu2
      have hR2 := hR.ext hx2
      have hA2 := hA.ext hx2
      go_wp2_with (at_builtin; refine wpList_rowcat rfl _ _ 24 5 1 1 (.int .u8 0) rfl Try.underlying24 u8Info rfl (by decide) _ A1 ds.length c (bc ds) rfl hR2 _ 1 1 _ rfl (Src.at hB2 rfl) rfl (by unfold maxLen; omega) (by omega) ?_)
      intro A' c' w3 hR3 hC3 hf3
      have hP3 := Puts.mk' (ns := [b]) hP.wr (by intro x hx; simp at hx; omega) hx2 hC3 hR3 (fun j hj => by rcases hf3 j hj with h | h; exact .inl h; exact .inr ⟨Nat.le_trans hx2.size h.1, h.2⟩)
      have hA3 := hC3.at hA2 hgA1
      have b0 : w3.cell? ⟨g, 0, none⟩ = some (.slice A1 ds.length c) := hA3.cell 0
      have f0 := hA3.frozen 0
      go_wp2_with fail
      go_roundw
      case rel => exact ⟨k, ds ++ [b], A', by go_num, by omega, by rw [hds']; simp, by simp; omega, hP.trans hP3⟩
      case measure => simp [intOf]; try omega
theorem uint_out (g : Nat) (n size : Int) (hs : size < 1 ∨ 8 < size) (w : World) :
    Calls Try.prog 43 #[.pointer (some ⟨g, 0, none⟩), .int .u64 n, .int .i64 size] w fun e w' => e = .returned (.pointer (some ⟨g, 0, none⟩)) ∧ Ext w w' := by
  by_cases h : size < 1
  ·
    go_enter Try.func43, Try.ntmps43
    go_wp2_with fail
    first | refine fin_ret rfl (fun K hK => ?_) | refine fin_norm rfl (fun K hK => ?_)
    simp [results, Try.results43, go_sem, rsat]
    try go_simp
    refine hK _ ?_
    clear hK K
    exact ⟨rfl, (by repeat (first | (with_reducible exact Ext.refl _) | (with_reducible assumption) | (with_reducible refine Ext.alloc ?_ _) | (with_reducible refine Ext.drew ?_) | (with_reducible refine Ext.drewN ?_ _) | (with_reducible refine Ext.setCell ?_ (by simp; try omega) _) | (with_reducible refine Ext.setRow ?_ (by simp; try omega) _)))⟩
  · have h2 : 8 < size := by omega
    go_enter Try.func43, Try.ntmps43
    go_wp2_with fail
    first | refine fin_ret rfl (fun K hK => ?_) | refine fin_norm rfl (fun K hK => ?_)
    simp [results, Try.results43, go_sem, rsat]
    try go_simp
    refine hK _ ?_
    clear hK K
    exact ⟨rfl, (by repeat (first | (with_reducible exact Ext.refl _) | (with_reducible assumption) | (with_reducible refine Ext.alloc ?_ _) | (with_reducible refine Ext.drew ?_) | (with_reducible refine Ext.drewN ?_ _) | (with_reducible refine Ext.setCell ?_ (by simp; try omega) _) | (with_reducible refine Ext.setRow ?_ (by simp; try omega) _)))⟩
theorem uint_nil (n size : Int) (w : World) :
    Calls Try.prog 43 #[.pointer none, .int .u64 n, .int .i64 size] w fun e w' => e = .returned (.pointer none) ∧ Ext w w' := by
  go_enter Try.func43, Try.ntmps43
  go_wp2_with fail
  first | refine fin_ret rfl (fun K hK => ?_) | refine fin_norm rfl (fun K hK => ?_)
  simp [results, Try.results43, go_sem, rsat]
  try go_simp
  refine hK _ ?_
  clear hK K
  exact ⟨rfl, (by repeat (first | (with_reducible exact Ext.refl _) | (with_reducible assumption) | (with_reducible refine Ext.alloc ?_ _) | (with_reducible refine Ext.drew ?_) | (with_reducible refine Ext.drewN ?_ _) | (with_reducible refine Ext.setCell ?_ (by simp; try omega) _) | (with_reducible refine Ext.setRow ?_ (by simp; try omega) _)))⟩
theorem num_nil (n : Int) (w : World) :
    Calls Try.prog 22 #[.pointer none, .int .u64 n] w fun e w' => e = .returned (.pointer none) ∧ Ext w w' := by
  go_enter Try.func22, Try.ntmps22
  go_wp2_with fail
  first | refine fin_ret rfl (fun K hK => ?_) | refine fin_norm rfl (fun K hK => ?_)
  simp [results, Try.results22, go_sem, rsat]
  try go_simp
  refine hK _ ?_
  clear hK K
  exact ⟨rfl, (by repeat (first | (with_reducible exact Ext.refl _) | (with_reducible assumption) | (with_reducible refine Ext.alloc ?_ _) | (with_reducible refine Ext.drew ?_) | (with_reducible refine Ext.drewN ?_ _) | (with_reducible refine Ext.setCell ?_ (by simp; try omega) _) | (with_reducible refine Ext.setRow ?_ (by simp; try omega) _)))⟩
/-- A signed number as one without a sign. -/
def turnN (s : Int) : Nat := if 0 ≤ s then (2 * s).toNat else (-2 * s - 1).toNat
theorem turnN_lt {s : Int} (h : I64 s) : turnN s < 18446744073709551616 := by
  obtain ⟨h1, h2⟩ := h
  unfold turnN
  split <;> omega
def intB (s : Int) : List Int := uintB (turnN s) 8
theorem xor_u64 (a b : Int) : bits .xor .u64 a b = IntKind.u64.wrap ((BitVec.ofInt 64 a ^^^ BitVec.ofInt 64 b).toNat : Int) := rfl
theorem turn_eq {s : Int} (h : I64 s) : bits .xor .u64 (IntKind.u64.wrap (wrap64 (s * 2))) (IntKind.u64.wrap (s / 9223372036854775808)) = (turnN s : Nat) := by
  have hs := h
  obtain ⟨h1, h2⟩ := h
  unfold turnN
  by_cases h0 : 0 ≤ s
  · have e1 : IntKind.u64.wrap (wrap64 (s * 2)) = 2 * s := by rw [IntKind.wrap_u64]; unfold wrap64; omega
    have e2 : IntKind.u64.wrap (s / 9223372036854775808) = 0 := by rw [IntKind.wrap_u64]; omega
    rw [e1, e2, if_pos h0, xor_u64, show BitVec.ofInt 64 0 = 0#64 from rfl, BitVec.xor_zero, IntKind.wrap_u64, BitVec.toNat_ofInt]
    simp only [Nat.reducePow]
    omega
  · have e1 : IntKind.u64.wrap (wrap64 (s * 2)) = 2 * s + 18446744073709551616 := by rw [IntKind.wrap_u64]; unfold wrap64; omega
    have e2 : IntKind.u64.wrap (s / 9223372036854775808) = 18446744073709551615 := by rw [IntKind.wrap_u64]; omega
    rw [e1, e2, if_neg h0, xor_u64, show BitVec.ofInt 64 18446744073709551615 = BitVec.allOnes 64 from rfl, BitVec.xor_allOnes, IntKind.wrap_u64, BitVec.toNat_not, BitVec.toNat_ofInt]
    simp only [Nat.reducePow]
    omega
theorem int_c (g : Nat) (A : Option Addr) (bs : List Int) (s : Int) (hs : I64 s) (w : World) (hW : Wr w g A bs) (hl : bs.length ≤ 1000000000) :
    Calls Try.prog 23 #[.pointer (some ⟨g, 0, none⟩), .int .i64 s] w fun e w' => e = .returned (.pointer (some ⟨g, 0, none⟩)) ∧ ∃ A', Puts w g A (bs ++ intB s) w' A' := by
  have C := uint_c g A bs (turnN s) 8 (turnN_lt hs) (by decide) w hW hl
  rw [← turn_eq hs] at C
  go_enter Try.func23, Try.ntmps23
  go_wp2_with fail
  refine C.mono ?_
  rintro e w1 ⟨rfl, A1, hP⟩
  go_wp2_with fail
  first | refine fin_ret rfl (fun K hK => ?_) | refine fin_norm rfl (fun K hK => ?_)
  simp [results, Try.results23, go_sem, rsat]
  try go_simp
  refine hK _ ?_
  clear hK K
  exact ⟨rfl, A1, hP⟩
theorem int_nil (s : Int) (w : World) :
    Calls Try.prog 23 #[.pointer none, .int .i64 s] w fun e w' => e = .returned (.pointer none) ∧ Ext w w' := by
  go_enter Try.func23, Try.ntmps23
  go_wp2_with fail
  refine (uint_nil _ _ _).mono ?_
  rintro e w1 ⟨rfl, hxw1⟩
  have xw1 : Ext w w1 := Ext.trans (by repeat (first | (with_reducible exact Ext.refl _) | (with_reducible assumption) | (with_reducible refine Ext.alloc ?_ _) | (with_reducible refine Ext.drew ?_) | (with_reducible refine Ext.drewN ?_ _) | (with_reducible refine Ext.setCell ?_ (by simp; try omega) _) | (with_reducible refine Ext.setRow ?_ (by simp; try omega) _))) hxw1
  have lw1 := xw1.size
  go_wp2_with fail
  first | refine fin_ret rfl (fun K hK => ?_) | refine fin_norm rfl (fun K hK => ?_)
  simp [results, Try.results23, go_sem, rsat]
  try go_simp
  refine hK _ ?_
  clear hK K
  exact ⟨rfl, (by repeat (first | (with_reducible exact Ext.refl _) | (with_reducible assumption) | (with_reducible refine Ext.alloc ?_ _) | (with_reducible refine Ext.drew ?_) | (with_reducible refine Ext.drewN ?_ _) | (with_reducible refine Ext.setCell ?_ (by simp; try omega) _) | (with_reducible refine Ext.setRow ?_ (by simp; try omega) _)))⟩
theorem raw_nil (v : Value) (w : World) :
    Calls Try.prog 21 #[.pointer none, v] w fun e w' => e = .returned (.pointer none) ∧ Ext w w' := by
  go_enter Try.func21, Try.ntmps21
  go_wp2_with fail
  first | refine fin_ret rfl (fun K hK => ?_) | refine fin_norm rfl (fun K hK => ?_)
  simp [results, Try.results21, go_sem, rsat]
  try go_simp
  refine hK _ ?_
  clear hK K
  exact ⟨rfl, (by repeat (first | (with_reducible exact Ext.refl _) | (with_reducible assumption) | (with_reducible refine Ext.alloc ?_ _) | (with_reducible refine Ext.drew ?_) | (with_reducible refine Ext.drewN ?_ _) | (with_reducible refine Ext.setCell ?_ (by simp; try omega) _) | (with_reducible refine Ext.setRow ?_ (by simp; try omega) _)))⟩
theorem raw_c (g : Nat) (A : Option Addr) (bs : List Int) (B : Option Addr) (xs : List Int) (cb : Nat) (w : World) (hW : Wr w g A bs) (hS : Src w 1 B xs.length (bc xs)) (hx : Byt xs) (hl : bs.length + xs.length ≤ 1000000000) :
    Calls Try.prog 21 #[.pointer (some ⟨g, 0, none⟩), .slice B xs.length cb] w fun e w' => e = .returned (.pointer (some ⟨g, 0, none⟩)) ∧ ∃ A', Puts w g A (bs ++ xs) w' A' := by
  obtain ⟨c, hA, hR⟩ := hW.ex
  have sg := hA.lt
  have hgA : g ∉ ablk A := fun h => (hW.alt g h).2 rfl
  have c0 : w.cell? ⟨g, 0, none⟩ = some (.slice A bs.length c) := hA.cell 0
  go_enter Try.func21, Try.ntmps21
  go_wp2_with (at_builtin; refine wpList_rowcat rfl _ _ 24 5 1 1 (.int .u8 0) rfl Try.underlying24 u8Info rfl (by decide) _ A bs.length c (bc bs) rfl hR _ _ _ _ rfl hS (bc_one _) (by unfold maxLen; omega) (by omega) ?_)
  intro A' c' w3 hR3 hC3 hf3
  have hA3 := hC3.at hA hgA
  have b0 : w3.cell? ⟨g, 0, none⟩ = some (.slice A bs.length c) := hA3.cell 0
  have f0 := hA3.frozen 0
  go_wp2_with fail
  first | refine fin_ret rfl (fun K hK => ?_) | refine fin_norm rfl (fun K hK => ?_)
  simp [results, Try.results21, go_sem, rsat]
  try go_simp
  refine hK _ ?_
  clear hK K
  refine ⟨rfl, A', ?_⟩
  exact Puts.mk' hW hx (Ext.refl w) hC3 hR3 hf3
theorem bytes_nil (w : World) :
    Calls Try.prog 24 #[.pointer none] w fun e w' => e = .returned (.slice none 0 0) ∧ Ext w w' := by
  go_enter Try.func24, Try.ntmps24
  go_wp2_with fail
  first | refine fin_ret rfl (fun K hK => ?_) | refine fin_norm rfl (fun K hK => ?_)
  simp [results, Try.results24, go_sem, rsat]
  try go_simp
  refine hK _ ?_
  clear hK K
  exact ⟨rfl, (by repeat (first | (with_reducible exact Ext.refl _) | (with_reducible assumption) | (with_reducible refine Ext.alloc ?_ _) | (with_reducible refine Ext.drew ?_) | (with_reducible refine Ext.drewN ?_ _) | (with_reducible refine Ext.setCell ?_ (by simp; try omega) _) | (with_reducible refine Ext.setRow ?_ (by simp; try omega) _)))⟩
/-- What a writer has: a new row. -/
theorem bytes_c (g : Nat) (A : Option Addr) (bs : List Int) (w : World) (hW : Wr w g A bs) (hl : bs.length ≤ 1000000000) :
    Calls Try.prog 24 #[.pointer (some ⟨g, 0, none⟩)] w fun e w' => Ext w w' ∧ ∃ v, e = .returned v ∧ Own w w' v bs := by
  obtain ⟨c, hA, hR⟩ := hW.ex
  have c0 : w.cell? ⟨g, 0, none⟩ = some (.slice A bs.length c) := hA.cell 0
  have C := clone_c A bs.length c bs w hR.src hl
  clear hA hR hW
  go_enter Try.func24, Try.ntmps24
  go_wp2_with fail
  refine C.mono ?_
  rintro e w1 ⟨hx, v, rfl, ho⟩
  go_wp2_with fail
  first | refine fin_ret rfl (fun K hK => ?_) | refine fin_norm rfl (fun K hK => ?_)
  simp [results, Try.results24, go_sem, rsat]
  try go_simp
  refine hK _ ?_
  clear hK K
  exact ⟨hx, v, rfl, ho⟩
end Go.Proofs.Ytndcmjpacailjaa
