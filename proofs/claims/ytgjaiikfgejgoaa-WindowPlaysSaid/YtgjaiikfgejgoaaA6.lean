/- The walks of the reference of layer 1: Sub, Mul, Div. -/
import Derived.Test.YtgjaiikfgejgoaaA5
namespace Go.Proofs.Ytgjaiikfgejgoaa
open Go.RowKit
attribute [local go_sem] Later.cell QUpon_value QUpon_enter MUpon_value
attribute [local go_sem ↓ high] loadVar_is storeVar_is
attribute [local go_sem high] zero_bits
attribute [local go_sem] run_loadBits run_storeBits isArr_arr cellsAt_alloc_at cellsAt_alloc_past cellsAt_drew ltn_2 ltn_3 ltn_4 ltn_5 setRow_new bitsOf cellsAt_later
theorem cmpN_ge (a b : Nat) : 0 ≤ cmpN a b ↔ b ≤ a := by
  unfold cmpN
  split
  · omega
  · split <;> omega
set_option maxRecDepth 100000 in
set_option maxHeartbeats 400000 in
theorem rsub_c (a b : Nat) (ha : a < 340282366920938463463374607431768211456) (hb : b < 340282366920938463463374607431768211456) (w : World) : Calls Try.prog 50 #[bitsOf a, bitsOf b] w fun e w' =>
    e = .returned (.tuple #[bitsOf ((a + 340282366920938463463374607431768211456 - b) % 340282366920938463463374607431768211456), .bool (decide (b ≤ a))]) ∧ Ext w w' := by
  unfold bitsOf
  go_enter Try.func50, Try.ntmps50
  go_wp2_with fail
  refine (rnot_c b hb _).mono ?_
  rintro e w1 ⟨rfl, hx1⟩
  have hA1 := At.ext (g := w.heap.size) (t := 72) (cs := arr fun j => a.testBit j) (by repeat (first | (with_reducible exact At.new _ _ _) | ((with_reducible refine At.new' _ _ _ _ ?_); simp; done) | (with_reducible assumption) | (with_reducible refine At.drew ?_) | (with_reducible refine At.alloc ?_ _) | (with_reducible apply At.upd) | (with_reducible apply At.setRow) | (with_reducible refine At.rowFar ?_ (by first | (simp; done) | (simp; omega) | omega) _) | ((with_reducible refine At.far ?_ (by first | (simp; done) | (simp; omega) | omega) _)) | (with_reducible rfl) | (simp; done))) hx1
  have hB1 := At.ext (g := w.heap.size + 1) (t := 72) (cs := arr fun j => b.testBit j) (by repeat (first | (with_reducible exact At.new _ _ _) | ((with_reducible refine At.new' _ _ _ _ ?_); simp; done) | (with_reducible assumption) | (with_reducible refine At.drew ?_) | (with_reducible refine At.alloc ?_ _) | (with_reducible apply At.upd) | (with_reducible apply At.setRow) | (with_reducible refine At.rowFar ?_ (by first | (simp; done) | (simp; omega) | omega) _) | ((with_reducible refine At.far ?_ (by first | (simp; done) | (simp; omega) | omega) _)) | (with_reducible rfl) | (simp; done))) hx1
  have hR1 := At.ext (g := w.heap.size + 2) (t := 72) (cs := arr fun _ => false) (by repeat (first | (with_reducible exact At.new _ _ _) | ((with_reducible refine At.new' _ _ _ _ ?_); simp; done) | (with_reducible assumption) | (with_reducible refine At.drew ?_) | (with_reducible refine At.alloc ?_ _) | (with_reducible apply At.upd) | (with_reducible apply At.setRow) | (with_reducible refine At.rowFar ?_ (by first | (simp; done) | (simp; omega) | omega) _) | ((with_reducible refine At.far ?_ (by first | (simp; done) | (simp; omega) | omega) _)) | (with_reducible rfl) | (simp; done))) hx1
  have x1 : Ext w w1 := Ext.trans (by repeat (first | (with_reducible exact Ext.refl _) | (with_reducible assumption) | (with_reducible refine Ext.alloc ?_ _) | (with_reducible refine Ext.drew ?_) | (with_reducible refine Ext.drewN ?_ _) | (with_reducible refine Ext.setCell ?_ (by simp; try omega) _) | (with_reducible refine Ext.setRow ?_ (by simp; try omega) _))) hx1
  clear hx1
  go_wp2_with fail
  refine (of_c 0 1 ⟨by decide, by decide⟩ ⟨by decide, by decide⟩ _).mono ?_
  rintro e w2 ⟨rfl, hx2⟩
  have hA2 := hA1.ext hx2
  have hB2 := hB1.ext hx2
  have hR2 := hR1.ext hx2
  have x2 := x1.trans hx2
  clear hA1 hB1 hR1 x1 hx2
  obtain ⟨one, h1⟩ : ∃ x, x = X 0 1 := ⟨_, rfl⟩
  rw [← h1]
  have HO : Hid (one = 1) := Lib.hid h1
  clear h1
  obtain ⟨n, hn⟩ : ∃ n, n = 340282366920938463463374607431768211455 - b := ⟨_, rfl⟩
  rw [← hn]
  have HN := Lib.hid hn
  clear hn
  go_wp2_with fail
  refine (radd_c n one (by have := HN.out; omega) (by have := HO.out; omega) _).mono ?_
  rintro e w3 ⟨rfl, hx3⟩
  have hA3 := hA2.ext hx3
  have hB3 := hB2.ext hx3
  have hR3 := hR2.ext hx3
  have x3 := x2.trans hx3
  clear hA2 hB2 hR2 x2 hx3
  have s1 := hA3.lt
  have s2 := hB3.lt
  have s3 := hR3.lt
  have e1 := cellsAt_at hA3
  have e2 := cellsAt_at hB3
  have e3 := cellsAt_at hR3
  obtain ⟨m, hm⟩ : ∃ m, m = (n + one) % 340282366920938463463374607431768211456 := ⟨_, rfl⟩
  have hml : m < 340282366920938463463374607431768211456 := hm ▸ Nat.mod_lt _ (by decide)
  rw [← hm]
  generalize hd : decide (n + one < 340282366920938463463374607431768211456) = d
  have HM := Lib.hid hm
  clear hm hd
  go_wp2_with fail
  refine (radd_c a m ha hml _).mono ?_
  rintro e w4 ⟨rfl, hx4⟩
  have hA4 := hA3.ext (Ext.trans (by repeat (first | (with_reducible exact Ext.refl _) | (with_reducible assumption) | (with_reducible refine Ext.alloc ?_ _) | (with_reducible refine Ext.drew ?_) | (with_reducible refine Ext.drewN ?_ _) | (with_reducible refine Ext.setCell ?_ (by simp; try omega) _) | (with_reducible refine Ext.setRow ?_ (by simp; try omega) _))) hx4)
  have hB4 := hB3.ext (Ext.trans (by repeat (first | (with_reducible exact Ext.refl _) | (with_reducible assumption) | (with_reducible refine Ext.alloc ?_ _) | (with_reducible refine Ext.drew ?_) | (with_reducible refine Ext.drewN ?_ _) | (with_reducible refine Ext.setCell ?_ (by simp; try omega) _) | (with_reducible refine Ext.setRow ?_ (by simp; try omega) _))) hx4)
  have hR4 := hR3.ext (Ext.trans (by repeat (first | (with_reducible exact Ext.refl _) | (with_reducible assumption) | (with_reducible refine Ext.alloc ?_ _) | (with_reducible refine Ext.drew ?_) | (with_reducible refine Ext.drewN ?_ _) | (with_reducible refine Ext.setCell ?_ (by simp; try omega) _) | (with_reducible refine Ext.setRow ?_ (by simp; try omega) _))) hx4)
  have hX4 := At.ext (g := w3.heap.size) (t := 72) (cs := arr fun j => m.testBit j) (by repeat (first | (with_reducible exact At.new _ _ _) | ((with_reducible refine At.new' _ _ _ _ ?_); simp; done) | (with_reducible assumption) | (with_reducible refine At.drew ?_) | (with_reducible refine At.alloc ?_ _) | (with_reducible apply At.upd) | (with_reducible apply At.setRow) | (with_reducible refine At.rowFar ?_ (by first | (simp; done) | (simp; omega) | omega) _) | ((with_reducible refine At.far ?_ (by first | (simp; done) | (simp; omega) | omega) _)) | (with_reducible rfl) | (simp; done))) hx4
  have x4 : Ext w w4 := x3.trans (Ext.trans (by repeat (first | (with_reducible exact Ext.refl _) | (with_reducible assumption) | (with_reducible refine Ext.alloc ?_ _) | (with_reducible refine Ext.drew ?_) | (with_reducible refine Ext.drewN ?_ _) | (with_reducible refine Ext.setCell ?_ (by simp; try omega) _) | (with_reducible refine Ext.setRow ?_ (by simp; try omega) _))) hx4)
  clear hA3 hB3 hR3 x3 hx4 s1 s2 s3 e1 e2 e3
  have s1 := hA4.lt
  have s2 := hB4.lt
  have s3 := hR4.lt
  have l1 : w.heap.size < w4.heap.size + 1 := by omega
  have l2 : w.heap.size + 1 < w4.heap.size + 1 := by omega
  have l3 : w.heap.size + 2 < w4.heap.size + 1 := by omega
  have k1 : w.heap.size ≤ w4.heap.size := by omega
  have k2 : w.heap.size + 1 ≤ w4.heap.size := by omega
  have e1 := cellsAt_at hA4
  have e2 := cellsAt_at hB4
  have e3 := cellsAt_at hR4
  obtain ⟨q, hq⟩ : ∃ q, q = (a + m) % 340282366920938463463374607431768211456 := ⟨_, rfl⟩
  rw [← hq]
  generalize hd : decide (a + m < 340282366920938463463374607431768211456) = d'
  have HQ := Lib.hid hq
  clear hq hd
  go_wp2
  refine wp_region_x 5 [1, 1, 1, 1, 0] (by kernel_rfl) (by kernel_rfl) (by kernel_rfl) ?_
  simp only [List.take_succ_cons, List.take_zero, List.drop_succ_cons, List.drop_zero]
  refine hl_quiet (fun K hK => ?_)
  go_simp
  refine hK _ ?_
  clear hK K
  refine hl_quiet (fun K hK => ?_)
  go_simp
  refine hK _ ?_
  clear hK K
  refine hl_quiet (fun K hK => ?_)
  go_simp
  refine hK _ ?_
  clear hK K
  refine hl_quiet (fun K hK => ?_)
  go_simp
  first
    | (refine hK _ ?_; clear hK K)
    | (apply Exists.intro; refine ⟨fun x => ?_, hK _ ?_⟩
       · (exact rcmp_c _ _ ha hb _)
       clear hK K)
  refine hl_pure (fun K hK => ?_)
  go_simp
  refine hK _ ?_
  clear hK K
  refine hl_nil ?_
  intro w5 hxw5 K hK
  have xw5 : Ext w w5 := Ext.trans (by repeat (first | (with_reducible exact Ext.refl _) | (with_reducible assumption) | (with_reducible refine Ext.alloc ?_ _) | (with_reducible refine Ext.drew ?_) | (with_reducible refine Ext.drewN ?_ _) | (with_reducible refine Ext.setCell ?_ (by simp; try omega) _) | (with_reducible refine Ext.setRow ?_ (by simp; try omega) _))) hxw5
  obtain ⟨hcw5, hfw5⟩ := hxw5.facts
  have hsw5 := hxw5.size
  try simp only [World.size_drew, World.size_alloc, World.size_setCell] at hsw5 hcw5 hfw5
  have hR5 := hR4.ext (Ext.trans (by repeat (first | (with_reducible exact Ext.refl _) | (with_reducible assumption) | (with_reducible refine Ext.alloc ?_ _) | (with_reducible refine Ext.drew ?_) | (with_reducible refine Ext.drewN ?_ _) | (with_reducible refine Ext.setCell ?_ (by simp; try omega) _) | (with_reducible refine Ext.setRow ?_ (by simp; try omega) _))) hxw5)
  have e5 := cellsAt_at hR5
  go_wp2
  refine fin_bits_tmp (p := 4) (q := 5) (g := w.heap.size + 2) rfl rfl (hR5.setRow _) rfl ?_
  refine ⟨ret_eq ?_, Ext.setRow xw5 (by omega) _⟩
  have e : q = (a + 340282366920938463463374607431768211456 - b) % 340282366920938463463374607431768211456 := by
    rw [HQ.out, HM.out, HN.out, HO.out]; omega
  have ed : decide (0 ≤ cmpN a b) = decide (b ≤ a) := decide_eq_decide.2 (cmpN_ge a b)
  subst e
  rw [← ed]
  rfl
end Go.Proofs.Ytgjaiikfgejgoaa
