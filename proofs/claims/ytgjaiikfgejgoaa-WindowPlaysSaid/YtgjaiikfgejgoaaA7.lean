/- The walks of the reference of layer 1: Mul. -/
import Derived.Test.YtgjaiikfgejgoaaA6
namespace Go.Proofs.Ytgjaiikfgejgoaa
open Go.RowKit
attribute [local go_sem] Later.cell QUpon_value QUpon_enter MUpon_value
attribute [local go_sem ↓ high] loadVar_is storeVar_is
attribute [local go_sem high] zero_bits
attribute [local go_sem] run_loadBits run_storeBits isArr_arr cellsAt_alloc_at cellsAt_alloc_past cellsAt_drew ltn_2 ltn_3 ltn_4 ltn_5 setRow_new bitsOf cellsAt_later

theorem shl_lt (a : Nat) (n : Int) (ha : a < 340282366920938463463374607431768211456) : shl a n < 340282366920938463463374607431768211456 := by
  unfold shl
  split
  · exact ha
  · exact Nat.mod_lt _ (by decide)
def MulAt (a b : Nat) (w : World) (p : Nat) (i : Value) (wr : World) : Prop :=
  ∃ k c : Nat, i = .int .i64 k ∧ k ≤ 64 ∧ Hid (c = a * (b % 2 ^ k)) ∧ Ext w wr ∧ At wr w.heap.size 72 (arr fun _ => false) ∧ At wr (w.heap.size + 1) 72 (arr fun j => c.testBit j) ∧ At wr p 72 (arr fun j => a.testBit j)
theorem mul_step (a b k c : Nat) (ha : a < 18446744073709551616) (hb : b < 18446744073709551616) (hk : k < 64) (hc : Hid (c = a * (b % 2 ^ k))) (h1 : b.testBit k = true) :
    (c + shl a k) % 340282366920938463463374607431768211456 = a * (b % 2 ^ (k + 1)) := by
  have e := mod_succ b k
  rw [h1, Bool.toNat_true, Nat.one_mul] at e
  have e2 : a * (b % 2 ^ (k + 1)) = c + a * 2 ^ k := by rw [e, Nat.mul_add, hc.out]
  have l : a * (b % 2 ^ (k + 1)) < 340282366920938463463374607431768211456 := mul_lt ha (Nat.lt_of_le_of_lt (Nat.mod_le _ _) hb)
  have s : shl a k = a * 2 ^ k := by
    unfold shl
    split
    · have : k = 0 := by omega
      subst this; simp
    · rw [Int.toNat_natCast, Nat.mod_eq_of_lt (by omega)]
  rw [s, e2, Nat.mod_eq_of_lt (by omega)]

set_option maxRecDepth 100000 in
set_option maxHeartbeats 800000 in
theorem rmul_c (a b : Int) (ha : U64 a) (hb : U64 b) (w : World) : Calls Try.prog 41 #[.int .u64 a, .int .u64 b] w fun e w' => e = .returned (bitsOf (a.toNat * b.toNat)) ∧ Ext w w' := by
  have hla := ha.lt
  have hlb := hb.lt
  go_enter Try.func41, Try.ntmps41
  go_wp2_with fail
  refine (of_c 0 a ⟨by decide, by decide⟩ ha _).mono ?_
  rintro e w1 ⟨rfl, hx1⟩
  have hR1 := At.ext (g := w.heap.size) (t := 72) (cs := arr fun _ => false) (by repeat (first | (with_reducible exact At.new _ _ _) | ((with_reducible refine At.new' _ _ _ _ ?_); simp; done) | (with_reducible assumption) | (with_reducible refine At.drew ?_) | (with_reducible refine At.alloc ?_ _) | (with_reducible apply At.upd) | (with_reducible apply At.setRow) | (with_reducible refine At.rowFar ?_ (by first | (simp; done) | (simp; omega) | omega) _) | ((with_reducible refine At.far ?_ (by first | (simp; done) | (simp; omega) | omega) _)) | (with_reducible rfl) | (simp; done))) hx1
  have hO1 := At.ext (g := w.heap.size + 1) (t := 72) (cs := arr fun _ => false) (by repeat (first | (with_reducible exact At.new _ _ _) | ((with_reducible refine At.new' _ _ _ _ ?_); simp; done) | (with_reducible assumption) | (with_reducible refine At.drew ?_) | (with_reducible refine At.alloc ?_ _) | (with_reducible apply At.upd) | (with_reducible apply At.setRow) | (with_reducible refine At.rowFar ?_ (by first | (simp; done) | (simp; omega) | omega) _) | ((with_reducible refine At.far ?_ (by first | (simp; done) | (simp; omega) | omega) _)) | (with_reducible rfl) | (simp; done))) hx1
  have x1 : Ext w w1 := Ext.trans (by repeat (first | (with_reducible exact Ext.refl _) | (with_reducible assumption) | (with_reducible refine Ext.alloc ?_ _) | (with_reducible refine Ext.drew ?_) | (with_reducible refine Ext.drewN ?_ _) | (with_reducible refine Ext.setCell ?_ (by simp; try omega) _) | (with_reducible refine Ext.setRow ?_ (by simp; try omega) _))) hx1
  clear hx1
  have s1 := hR1.lt
  have s2 := hO1.lt
  have HS := Lib.hid s2
  have eX : X 0 a = a.toNat := by unfold X; simp
  rw [eX]
  clear eX
  obtain ⟨n, hn⟩ : ∃ n, n = a.toNat := ⟨_, rfl⟩
  rw [← hn]
  have HN := Lib.hid hn
  clear hn
  go_wp2
  go_loopw [7] (fun i wr => MulAt n b.toNat w w1.heap.size i wr) (fun i _ => 64 - (intOf i).toNat)
  case atStart => exact ⟨0, 0, rfl, by omega, Lib.hid (by simp [Nat.mod_one]), (by repeat (first | (with_reducible exact Ext.refl _) | (with_reducible assumption) | (with_reducible refine Ext.alloc ?_ _) | (with_reducible refine Ext.drew ?_) | (with_reducible refine Ext.drewN ?_ _) | (with_reducible refine Ext.setCell ?_ (by simp; try omega) _) | (with_reducible refine Ext.setRow ?_ (by simp; try omega) _))), At.alloc hR1 _, by
    have : arr (fun j => (0 : Nat).testBit j) = arr fun _ => false := arr_ext (fun i _ => by simp)
    rw [this]; exact At.alloc hO1 _, At.new _ _ _⟩
  case round =>
    obtain ⟨k, c, rfl, hk, hc, hx, hR, hO, hX⟩ := hrel
    clear s1 s2
    have s1 := hR.lt
    have s2 := hO.lt
    have s3 := hX.lt
    have e1 := cellsAt_at hR
    have e2 := cellsAt_at hO
    have e3 := cellsAt_at hX
    by_cases hk' : k < 64
    · have hbit := bit_eqZ hb k
      cases hbk : b.toNat.testBit k
      · rw [hbk] at hbit
        go_wp2
        go_roundw
        case rel => exact ⟨k + 1, c, by go_num, by omega, Lib.hid (by rw [mod_succ, hbk, hc.out]; simp), hx, hR, hO, hX⟩
        case measure => simp [intOf]; omega
      · rw [hbk] at hbit
        have hcl : c < 340282366920938463463374607431768211456 := by rw [hc.out]; exact mul_lt (HN.out ▸ hla) (Nat.lt_of_le_of_lt (Nat.mod_le _ _) hlb)
        have hnl : n < 340282366920938463463374607431768211456 := by rw [HN.out]; omega
        go_wp2
        refine wp_region_x 8 [1, 1, 0, 1, 1, 0, 0, 0] (by kernel_rfl) (by kernel_rfl) (by kernel_rfl) ?_
        simp only [List.take_succ_cons, List.take_zero, List.drop_succ_cons, List.drop_zero]
        refine hl_quiet (fun K hK => ?_)
        go_simp
        refine hK _ ?_
        clear hK K
        refine hl_quiet (fun K hK => ?_)
        go_simp
        refine hK _ ?_
        clear hK K
        refine hl_pure (fun K hK => ?_)
        go_simp
        refine hK _ ?_
        clear hK K
        refine hl_quiet (fun K hK => ?_)
        go_simp
        first
          | (refine hK _ ?_; clear hK K)
          | (apply Exists.intro; refine ⟨fun x => ?_, hK _ ?_⟩
             · ((first | exact rleft_c _ _ hnl _ | exact radd_c _ _ hcl (shl_lt _ _ hnl) _))
             clear hK K)
        refine hl_quiet (fun K hK => ?_)
        go_simp
        first
          | (refine hK _ ?_; clear hK K)
          | (apply Exists.intro; refine ⟨fun x => ?_, hK _ ?_⟩
             · ((first | exact rleft_c _ _ hnl _ | exact radd_c _ _ hcl (shl_lt _ _ hnl) _))
             clear hK K)
        refine hl_pure (fun K hK => ?_)
        go_simp
        refine hK _ ?_
        clear hK K
        refine hl_pure (fun K hK => ?_)
        go_simp
        refine hK _ ?_
        clear hK K
        refine hl_pure (fun K hK => ?_)
        go_simp
        refine hK _ ?_
        clear hK K
        refine hl_nil ?_
        intro w2 hxw2 K hK
        have xw2 : Ext w w2 := Ext.trans (by repeat (first | (with_reducible exact Ext.refl _) | (with_reducible assumption) | (with_reducible refine Ext.alloc ?_ _) | (with_reducible refine Ext.drew ?_) | (with_reducible refine Ext.drewN ?_ _) | (with_reducible refine Ext.setCell ?_ (by simp; try omega) _) | (with_reducible refine Ext.setRow ?_ (by simp; try omega) _))) hxw2
        obtain ⟨hcw2, hfw2⟩ := hxw2.facts
        have hsw2 := hxw2.size
        try simp only [World.size_drew, World.size_alloc, World.size_setCell] at hsw2 hcw2 hfw2
        have hR2 := hR.ext hxw2
        have hO2 := hO.ext hxw2
        have hX2 := hX.ext hxw2
        have e4 := cellsAt_at hO2
        go_wp2
        go_roundw
        case rel => exact ⟨k + 1, _, by go_num, by omega, Lib.hid (mul_step _ _ _ _ (HN.out ▸ hla) hlb hk' hc hbk), Ext.setRow xw2 (by omega) _, hR2.rowFar (by omega) _, hO2.setRow _, hX2.rowFar (by have := HS.out; omega) _⟩
        case measure => simp [intOf]; omega
    · have : k = 64 := by omega
      subst this
      go_wp2
      refine fin_bits (p := 4) (g := w.heap.size) rfl rfl (hR.setRow _) rfl ?_
      refine ⟨ret_eq ?_, Ext.setRow hx (by omega) _⟩
      rw [hc.out, HN.out, Nat.mod_eq_of_lt (by simpa using hlb)]
      rfl
end Go.Proofs.Ytgjaiikfgejgoaa
