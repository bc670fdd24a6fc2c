/- The walks of the reference of layer 1: Len, not, Cmp, Halves, Add, Left, Right. -/
import Derived.Test.YtgjaiikfgejgoaaA2
namespace Go.Proofs.Ytgjaiikfgejgoaa
open Go.RowKit
attribute [local go_sem] Later.cell QUpon_value QUpon_enter MUpon_value
attribute [local go_sem ↓ high] loadVar_is storeVar_is
attribute [local go_sem high] zero_bits
attribute [local go_sem] run_loadBits run_storeBits isArr_arr

theorem mod_succ (n k : Nat) : n % 2 ^ (k + 1) = n % 2 ^ k + (n.testBit k).toNat * 2 ^ k := by
  rw [Nat.pow_succ, Nat.mod_mul, Nat.testBit_eq_decide_div_mod_eq]
  rcases Nat.mod_two_eq_zero_or_one (n / 2 ^ k) with h | h <;> simp [h]
theorem lenN_top (m k : Nat) (h : m < 2 ^ k) : lenN (m + 2 ^ k) = k + 1 := by
  have h2 : 0 < 2 ^ k := Nat.pow_pos (by decide)
  unfold lenN
  rw [if_neg (by omega)]
  congr 1
  rw [Nat.log2_eq_iff (by omega), Nat.pow_succ]
  omega
theorem len_step (n k : Nat) : lenN (n % 2 ^ (k + 1)) = if n.testBit k then k + 1 else lenN (n % 2 ^ k) := by
  rw [mod_succ]
  cases n.testBit k
  · simp
  · simp [lenN_top _ _ (Nat.mod_lt n (Nat.pow_pos (by decide) : 0 < 2 ^ k))]

def notF (f : Nat → Bool) (k : Nat) : Nat → Bool := fun j => if j < k then !f j else f j
theorem not_step (f : Nat → Bool) (k : Nat) : upd (notF f k) k (!f k) = notF f (k + 1) := by
  funext j
  unfold upd notF
  by_cases h : j = k
  · subst h; simp
  · rw [if_neg h]
    by_cases h2 : j < k
    · rw [if_pos h2, if_pos (by omega)]
    · rw [if_neg h2, if_neg (by omega)]
theorem notF_at (f : Nat → Bool) (k : Nat) : notF f k k = f k := by simp [notF]
theorem not_end (n : Nat) : arr (notF n.testBit 128) = arr (340282366920938463463374607431768211456 - 1 - n % 340282366920938463463374607431768211456).testBit := by
  refine arr_ext (fun i hi => ?_)
  have e : (340282366920938463463374607431768211456 : Nat) = 2 ^ 128 := by decide
  have h2 : n % 2 ^ 128 < 2 ^ 128 := Nat.mod_lt _ (by decide)
  rw [e, Nat.sub_sub, Nat.add_comm 1, Nat.testBit_two_pow_sub_succ h2, Nat.testBit_mod_two_pow]
  simp [notF, hi]

def NotAt (n : Nat) (w : World) (i : Value) (wr : World) : Prop :=
  ∃ k : Nat, i = .int .i64 k ∧ k ≤ 128 ∧ Ext w wr ∧ At wr w.heap.size 72 (arr (notF n.testBit k)) ∧ At wr (w.heap.size + 1) 72 (arr fun _ => false)
theorem not_start (n : Nat) : arr (fun j => n.testBit j) = arr (notF n.testBit 0) := arr_ext (fun i _ => by simp [notF])

set_option maxRecDepth 100000 in
theorem rnot_c (n : Nat) (hn : n < 340282366920938463463374607431768211456) (w : World) : Calls Try.prog 51 #[bitsOf n] w fun e w' => e = .returned (bitsOf (340282366920938463463374607431768211455 - n)) ∧ Ext w w' := by
  unfold bitsOf
  go_enter Try.func51, Try.ntmps51
  go_wp2
  go_loopw [3] (fun i wr => NotAt n w i wr) (fun i _ => 128 - (intOf i).toNat)
  case atStart => exact ⟨0, rfl, by omega, (by repeat (first | (with_reducible exact Ext.refl _) | (with_reducible assumption) | (with_reducible refine Ext.alloc ?_ _) | (with_reducible refine Ext.drew ?_) | (with_reducible refine Ext.drewN ?_ _) | (with_reducible refine Ext.setCell ?_ (by simp; try omega) _) | (with_reducible refine Ext.setRow ?_ (by simp; try omega) _))), not_start n ▸ (by repeat (first | (with_reducible exact At.new _ _ _) | ((with_reducible refine At.new' _ _ _ _ ?_); simp; done) | (with_reducible assumption) | (with_reducible refine At.drew ?_) | (with_reducible refine At.alloc ?_ _) | (with_reducible apply At.upd) | (with_reducible apply At.setRow) | (with_reducible refine At.rowFar ?_ (by first | (simp; done) | (simp; omega) | omega) _) | ((with_reducible refine At.far ?_ (by first | (simp; done) | (simp; omega) | omega) _)) | (with_reducible rfl) | (simp; done))), (by repeat (first | (with_reducible exact At.new _ _ _) | ((with_reducible refine At.new' _ _ _ _ ?_); simp; done) | (with_reducible assumption) | (with_reducible refine At.drew ?_) | (with_reducible refine At.alloc ?_ _) | (with_reducible apply At.upd) | (with_reducible apply At.setRow) | (with_reducible refine At.rowFar ?_ (by first | (simp; done) | (simp; omega) | omega) _) | ((with_reducible refine At.far ?_ (by first | (simp; done) | (simp; omega) | omega) _)) | (with_reducible rfl) | (simp; done)))⟩
  case round =>
    obtain ⟨k, rfl, hk, hx, hA, hR⟩ := hrel
    by_cases hk' : k < 128
    · have c := hA.bit k hk'
      rw [notF_at] at c
      have f := hA.frozen k
      go_wp2
      go_roundw
      case rel => exact ⟨k + 1, by go_num, by omega, (by repeat (first | (with_reducible exact Ext.refl _) | (with_reducible assumption) | (with_reducible refine Ext.alloc ?_ _) | (with_reducible refine Ext.drew ?_) | (with_reducible refine Ext.drewN ?_ _) | (with_reducible refine Ext.setCell ?_ (by simp; try omega) _) | (with_reducible refine Ext.setRow ?_ (by simp; try omega) _))), not_step _ _ ▸ At.setBit hA _ _, At.far hR (by simp) _⟩
      case measure => simp [intOf]; omega
    · have : k = 128 := by omega
      subst this
      have e1 := cellsAt_at hR
      have e2 := cellsAt_at hA
      go_wp2
      refine fin_bits (p := 2) (g := w.heap.size + 1) rfl rfl (hR.setRow _) rfl ?_
      refine ⟨ret_eq (congrArg Value.agg ?_), hx.setRow (by omega) _⟩
      rw [not_end, Nat.mod_eq_of_lt hn]
theorem div_bit (n k : Nat) : n / 2 ^ k = 2 * (n / 2 ^ (k + 1)) + (n.testBit k).toNat := by
  have e : n / 2 ^ (k + 1) = n / 2 ^ k / 2 := by rw [Nat.pow_succ, Nat.div_div_eq_div_mul]
  rw [e, Nat.testBit_eq_decide_div_mod_eq]
  rcases Nat.mod_two_eq_zero_or_one (n / 2 ^ k) with h | h <;> simp [h] <;> omega
theorem lt_of_div {a b k : Nat} (h : b / 2 ^ k < a / 2 ^ k) : b < a := by
  refine Nat.lt_of_not_le fun h' => ?_
  have := Nat.div_le_div_right (c := 2 ^ k) h'
  omega
theorem cmpN_eq (a b : Nat) (h : a / 2 ^ 0 = b / 2 ^ 0) : cmpN a b = 0 := by
  simp at h
  subst h
  simp [cmpN]
theorem cmpN_top (a b k : Nat) (h : a / 2 ^ (k + 1) = b / 2 ^ (k + 1)) (h1 : a.testBit k = true) (h2 : b.testBit k = false) : cmpN a b = 1 := by
  have ea := div_bit a k
  have eb := div_bit b k
  rw [h1] at ea
  rw [h2] at eb
  have : b < a := lt_of_div (k := k) (by simp at ea eb; omega)
  unfold cmpN
  rw [if_neg (by omega), if_pos this]
theorem cmpN_bot (a b k : Nat) (h : a / 2 ^ (k + 1) = b / 2 ^ (k + 1)) (h1 : a.testBit k = false) (h2 : b.testBit k = true) : cmpN a b = -1 := by
  have ea := div_bit a k
  have eb := div_bit b k
  rw [h1] at ea
  rw [h2] at eb
  have : a < b := lt_of_div (k := k) (by simp at ea eb; omega)
  unfold cmpN
  rw [if_pos this]
theorem div_same (a b k : Nat) (h : a / 2 ^ (k + 1) = b / 2 ^ (k + 1)) (h1 : a.testBit k = b.testBit k) : a / 2 ^ k = b / 2 ^ k := by rw [div_bit a, div_bit b, h, h1]
theorem div_top (a : Nat) (h : a < 340282366920938463463374607431768211456) : a / 2 ^ 128 = 0 := Nat.div_eq_of_lt (by simpa using h)

def CmpAt (a b : Nat) (w : World) (i : Value) (wr : World) : Prop :=
  ∃ k : Nat, i = .int .i64 ((k : Int) - 1) ∧ k ≤ 128 ∧ Ext w wr ∧ At wr w.heap.size 72 (arr fun j => a.testBit j) ∧ At wr (w.heap.size + 1) 72 (arr fun j => b.testBit j) ∧ a / 2 ^ k = b / 2 ^ k

set_option maxRecDepth 100000 in
theorem rcmp_c (a b : Nat) (ha : a < 340282366920938463463374607431768211456) (hb : b < 340282366920938463463374607431768211456) (w : World) : Calls Try.prog 49 #[bitsOf a, bitsOf b] w fun e w' => e = .returned (.int .i64 (cmpN a b)) ∧ Ext w w' := by
  unfold bitsOf
  go_enter Try.func49, Try.ntmps49
  go_wp2
  go_loopw [5] (fun i wr => CmpAt a b w i wr) (fun i _ => (intOf i + 1).toNat)
  case atStart => exact ⟨128, rfl, by omega, (by repeat (first | (with_reducible exact Ext.refl _) | (with_reducible assumption) | (with_reducible refine Ext.alloc ?_ _) | (with_reducible refine Ext.drew ?_) | (with_reducible refine Ext.drewN ?_ _) | (with_reducible refine Ext.setCell ?_ (by simp; try omega) _) | (with_reducible refine Ext.setRow ?_ (by simp; try omega) _))), (by repeat (first | (with_reducible exact At.new _ _ _) | ((with_reducible refine At.new' _ _ _ _ ?_); simp; done) | (with_reducible assumption) | (with_reducible refine At.drew ?_) | (with_reducible refine At.alloc ?_ _) | (with_reducible apply At.upd) | (with_reducible apply At.setRow) | (with_reducible refine At.rowFar ?_ (by first | (simp; done) | (simp; omega) | omega) _) | ((with_reducible refine At.far ?_ (by first | (simp; done) | (simp; omega) | omega) _)) | (with_reducible rfl) | (simp; done))), (by repeat (first | (with_reducible exact At.new _ _ _) | ((with_reducible refine At.new' _ _ _ _ ?_); simp; done) | (with_reducible assumption) | (with_reducible refine At.drew ?_) | (with_reducible refine At.alloc ?_ _) | (with_reducible apply At.upd) | (with_reducible apply At.setRow) | (with_reducible refine At.rowFar ?_ (by first | (simp; done) | (simp; omega) | omega) _) | ((with_reducible refine At.far ?_ (by first | (simp; done) | (simp; omega) | omega) _)) | (with_reducible rfl) | (simp; done))), by rw [div_top a ha, div_top b hb]⟩
  case round =>
    obtain ⟨k, rfl, hk, hx, hA, hB, hd⟩ := hrel
    rcases k with _ | k
    · go_wp2
      first | refine fin_ret rfl (fun K hK => ?_) | refine fin_norm rfl (fun K hK => ?_)
      simp [results, Try.results49, go_sem, rsat]
      try go_simp
      refine hK _ ?_
      clear hK K
      rw [cmpN_eq a b hd]
      exact ⟨rfl, (by repeat (first | (with_reducible exact Ext.refl _) | (with_reducible assumption) | (with_reducible refine Ext.alloc ?_ _) | (with_reducible refine Ext.drew ?_) | (with_reducible refine Ext.drewN ?_ _) | (with_reducible refine Ext.setCell ?_ (by simp; try omega) _) | (with_reducible refine Ext.setRow ?_ (by simp; try omega) _)))⟩
    · have e1 : ((k + 1 : Nat) : Int) - 1 = (k : Int) := by omega
      rw [e1]
      have hk' : (k : Int) < 128 := by omega
      have c1 := hA.bit k (by omega)
      have c2 := hB.bit k (by omega)
      have s1 := hA.lt
      have s2 := hB.lt
      cases h1 : a.testBit k <;> cases h2 : b.testBit k <;> rw [h1] at c1 <;> rw [h2] at c2
      · go_wp2
        refine wp_region_x 7 [0, 0, 1, 0, 0, 1, 0] (by kernel_rfl) (by kernel_rfl) (by kernel_rfl) ?_
        simp only [List.take_succ_cons, List.take_zero, List.drop_succ_cons, List.drop_zero]
        refine hl_pure (fun K hK => ?_)
        go_simp
        refine hK _ ?_
        clear hK K
        refine hl_pure (fun K hK => ?_)
        go_simp
        refine hK _ ?_
        clear hK K
        refine hl_quiet (fun K hK => ?_)
        go_simp
        refine hK _ ?_
        clear hK K
        refine hl_pure (fun K hK => ?_)
        go_simp
        refine hK _ ?_
        clear hK K
        refine hl_pure (fun K hK => ?_)
        go_simp
        refine hK _ ?_
        clear hK K
        refine hl_quiet (fun K hK => ?_)
        go_simp
        refine hK _ ?_
        clear hK K
        refine hl_pure (fun K hK => ?_)
        go_simp
        refine hK _ ?_
        clear hK K
        refine hl_nil ?_
        intro w1 hxw1 K hK
        have xw1 : Ext w w1 := Ext.trans (by repeat (first | (with_reducible exact Ext.refl _) | (with_reducible assumption) | (with_reducible refine Ext.alloc ?_ _) | (with_reducible refine Ext.drew ?_) | (with_reducible refine Ext.drewN ?_ _) | (with_reducible refine Ext.setCell ?_ (by simp; try omega) _) | (with_reducible refine Ext.setRow ?_ (by simp; try omega) _))) hxw1
        obtain ⟨hcw1, hfw1⟩ := hxw1.facts
        have hsw1 := hxw1.size
        try simp only [World.size_drew, World.size_alloc, World.size_setCell] at hsw1 hcw1 hfw1
        go_wp2
        go_roundw
        case rel => exact ⟨k, by go_num, by omega, (by repeat (first | (with_reducible exact Ext.refl _) | (with_reducible assumption) | (with_reducible refine Ext.alloc ?_ _) | (with_reducible refine Ext.drew ?_) | (with_reducible refine Ext.drewN ?_ _) | (with_reducible refine Ext.setCell ?_ (by simp; try omega) _) | (with_reducible refine Ext.setRow ?_ (by simp; try omega) _))), hA.ext hxw1, hB.ext hxw1, div_same _ _ _ hd (by rw [h1, h2])⟩
        case measure => simp [intOf]
      · go_wp2
        refine wp_region_x 7 [0, 0, 1, 0, 0, 1, 0] (by kernel_rfl) (by kernel_rfl) (by kernel_rfl) ?_
        simp only [List.take_succ_cons, List.take_zero, List.drop_succ_cons, List.drop_zero]
        refine hl_pure (fun K hK => ?_)
        go_simp
        refine hK _ ?_
        clear hK K
        refine hl_pure (fun K hK => ?_)
        go_simp
        refine hK _ ?_
        clear hK K
        refine hl_quiet (fun K hK => ?_)
        go_simp
        refine hK _ ?_
        clear hK K
        refine hl_pure (fun K hK => ?_)
        go_simp
        refine hK _ ?_
        clear hK K
        refine hl_pure (fun K hK => ?_)
        go_simp
        refine hK _ ?_
        clear hK K
        refine hl_quiet (fun K hK => ?_)
        go_simp
        refine hK _ ?_
        clear hK K
        refine hl_pure (fun K hK => ?_)
        go_simp
        refine hK _ ?_
        clear hK K
        refine hl_nil ?_
        intro w1 hxw1 K hK
        have xw1 : Ext w w1 := Ext.trans (by repeat (first | (with_reducible exact Ext.refl _) | (with_reducible assumption) | (with_reducible refine Ext.alloc ?_ _) | (with_reducible refine Ext.drew ?_) | (with_reducible refine Ext.drewN ?_ _) | (with_reducible refine Ext.setCell ?_ (by simp; try omega) _) | (with_reducible refine Ext.setRow ?_ (by simp; try omega) _))) hxw1
        obtain ⟨hcw1, hfw1⟩ := hxw1.facts
        have hsw1 := hxw1.size
        try simp only [World.size_drew, World.size_alloc, World.size_setCell] at hsw1 hcw1 hfw1
        go_wp2
        first | refine fin_ret rfl (fun K hK => ?_) | refine fin_norm rfl (fun K hK => ?_)
        simp [results, Try.results49, go_sem, rsat]
        try go_simp
        refine hK _ ?_
        clear hK K
        exact ⟨by rw [cmpN_bot a b k hd h1 h2], (by repeat (first | (with_reducible exact Ext.refl _) | (with_reducible assumption) | (with_reducible refine Ext.alloc ?_ _) | (with_reducible refine Ext.drew ?_) | (with_reducible refine Ext.drewN ?_ _) | (with_reducible refine Ext.setCell ?_ (by simp; try omega) _) | (with_reducible refine Ext.setRow ?_ (by simp; try omega) _)))⟩
      · go_wp2
        refine wp_region_x 7 [0, 0, 1, 0, 0, 1, 0] (by kernel_rfl) (by kernel_rfl) (by kernel_rfl) ?_
        simp only [List.take_succ_cons, List.take_zero, List.drop_succ_cons, List.drop_zero]
        refine hl_pure (fun K hK => ?_)
        go_simp
        refine hK _ ?_
        clear hK K
        refine hl_pure (fun K hK => ?_)
        go_simp
        refine hK _ ?_
        clear hK K
        refine hl_quiet (fun K hK => ?_)
        go_simp
        refine hK _ ?_
        clear hK K
        refine hl_pure (fun K hK => ?_)
        go_simp
        refine hK _ ?_
        clear hK K
        refine hl_pure (fun K hK => ?_)
        go_simp
        refine hK _ ?_
        clear hK K
        refine hl_quiet (fun K hK => ?_)
        go_simp
        refine hK _ ?_
        clear hK K
        refine hl_pure (fun K hK => ?_)
        go_simp
        refine hK _ ?_
        clear hK K
        refine hl_nil ?_
        intro w1 hxw1 K hK
        have xw1 : Ext w w1 := Ext.trans (by repeat (first | (with_reducible exact Ext.refl _) | (with_reducible assumption) | (with_reducible refine Ext.alloc ?_ _) | (with_reducible refine Ext.drew ?_) | (with_reducible refine Ext.drewN ?_ _) | (with_reducible refine Ext.setCell ?_ (by simp; try omega) _) | (with_reducible refine Ext.setRow ?_ (by simp; try omega) _))) hxw1
        obtain ⟨hcw1, hfw1⟩ := hxw1.facts
        have hsw1 := hxw1.size
        try simp only [World.size_drew, World.size_alloc, World.size_setCell] at hsw1 hcw1 hfw1
        go_wp2
        first | refine fin_ret rfl (fun K hK => ?_) | refine fin_norm rfl (fun K hK => ?_)
        simp [results, Try.results49, go_sem, rsat]
        try go_simp
        refine hK _ ?_
        clear hK K
        exact ⟨by rw [cmpN_top a b k hd h1 h2], (by repeat (first | (with_reducible exact Ext.refl _) | (with_reducible assumption) | (with_reducible refine Ext.alloc ?_ _) | (with_reducible refine Ext.drew ?_) | (with_reducible refine Ext.drewN ?_ _) | (with_reducible refine Ext.setCell ?_ (by simp; try omega) _) | (with_reducible refine Ext.setRow ?_ (by simp; try omega) _)))⟩
      · go_wp2
        refine wp_region_x 7 [0, 0, 1, 0, 0, 1, 0] (by kernel_rfl) (by kernel_rfl) (by kernel_rfl) ?_
        simp only [List.take_succ_cons, List.take_zero, List.drop_succ_cons, List.drop_zero]
        refine hl_pure (fun K hK => ?_)
        go_simp
        refine hK _ ?_
        clear hK K
        refine hl_pure (fun K hK => ?_)
        go_simp
        refine hK _ ?_
        clear hK K
        refine hl_quiet (fun K hK => ?_)
        go_simp
        refine hK _ ?_
        clear hK K
        refine hl_pure (fun K hK => ?_)
        go_simp
        refine hK _ ?_
        clear hK K
        refine hl_pure (fun K hK => ?_)
        go_simp
        refine hK _ ?_
        clear hK K
        refine hl_quiet (fun K hK => ?_)
        go_simp
        refine hK _ ?_
        clear hK K
        refine hl_pure (fun K hK => ?_)
        go_simp
        refine hK _ ?_
        clear hK K
        refine hl_nil ?_
        intro w1 hxw1 K hK
        have xw1 : Ext w w1 := Ext.trans (by repeat (first | (with_reducible exact Ext.refl _) | (with_reducible assumption) | (with_reducible refine Ext.alloc ?_ _) | (with_reducible refine Ext.drew ?_) | (with_reducible refine Ext.drewN ?_ _) | (with_reducible refine Ext.setCell ?_ (by simp; try omega) _) | (with_reducible refine Ext.setRow ?_ (by simp; try omega) _))) hxw1
        obtain ⟨hcw1, hfw1⟩ := hxw1.facts
        have hsw1 := hxw1.size
        try simp only [World.size_drew, World.size_alloc, World.size_setCell] at hsw1 hcw1 hfw1
        go_wp2
        go_roundw
        case rel => exact ⟨k, by go_num, by omega, (by repeat (first | (with_reducible exact Ext.refl _) | (with_reducible assumption) | (with_reducible refine Ext.alloc ?_ _) | (with_reducible refine Ext.drew ?_) | (with_reducible refine Ext.drewN ?_ _) | (with_reducible refine Ext.setCell ?_ (by simp; try omega) _) | (with_reducible refine Ext.setRow ?_ (by simp; try omega) _))), hA.ext hxw1, hB.ext hxw1, div_same _ _ _ hd (by rw [h1, h2])⟩
        case measure => simp [intOf]
end Go.Proofs.Ytgjaiikfgejgoaa
