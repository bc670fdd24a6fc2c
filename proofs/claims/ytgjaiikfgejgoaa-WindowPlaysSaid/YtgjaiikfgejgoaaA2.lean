/- The walks of the reference of layer 1: Of, Halves. -/
import Derived.Test.YtgjaiikfgejgoaaA1
namespace Go.Proofs.Ytgjaiikfgejgoaa
open Go.RowKit
attribute [local go_sem] Later.cell QUpon_value QUpon_enter MUpon_value
attribute [local go_sem ↓ high] loadVar_is storeVar_is
attribute [local go_sem high] zero_bits
attribute [local go_sem] run_loadBits run_storeBits isArr_arr


/-- The bits of a number. -/
def bitsOf (n : Nat) : Value := .agg (arr fun j => n.testBit j)

def ofF (hi lo : Nat) (k : Nat) : Nat → Bool := fun j => if j < 64 then decide (j < k) && lo.testBit j else decide (j - 64 < k) && hi.testBit (j - 64)
theorem ofF_step (hi lo k : Nat) (hk : k < 64) : upd (upd (ofF hi lo k) k (lo.testBit k)) (k + 64) (hi.testBit k) = ofF hi lo (k + 1) := by
  funext j
  unfold upd ofF
  by_cases h1 : j = k + 64
  · subst h1
    simp
  · rw [if_neg h1]
    by_cases h2 : j = k
    · subst h2
      simp [hk]
    · rw [if_neg h2]
      by_cases h3 : j < 64
      · simp only [h3, if_true]
        congr 1
        rw [decide_eq_decide]; omega
      · simp only [h3, if_false]
        congr 1
        rw [decide_eq_decide]; omega
theorem ofF_end (hi lo : Nat) (hl : lo < 18446744073709551616) : ∀ i, i < 128 → ofF hi lo 64 i = (hi * 18446744073709551616 + lo).testBit i := by
  intro i hi'
  unfold ofF
  have e : (18446744073709551616 : Nat) = 2 ^ 64 := by decide
  rw [e] at hl ⊢
  rw [Nat.mul_comm, Nat.testBit_two_pow_mul_add hi hl i]
  split
  · simp; omega
  · simp; omega
theorem bit_eq (n k : Nat) (h : n < 18446744073709551616) : (bits BinOp.and IntKind.u64 ((n : Int) / 2 ^ k) 1 == 1) = n.testBit k := by
  have e : (n : Int) / 2 ^ k = ((n / 2 ^ k : Nat) : Int) := by simp
  rw [e, mask1 _ (Nat.lt_of_le_of_lt (Nat.div_le_self _ _) h), Nat.testBit_eq_decide_div_mod_eq, Bool.eq_iff_iff]
  simp
  omega

theorem At.bit {w : World} {g : Nat} {f : Nat → Bool} (h : At w g 72 (arr f)) (k : Nat) (hk : k < 128) : w.cell? ⟨g, k, none⟩ = some (.bool (f k)) := (h.cell k).trans (arr_get f k hk)
theorem At.setBit {w : World} {g : Nat} {t : TypeId} {f : Nat → Bool} (h : At w g t (arr f)) (k : Nat) (b : Bool) : At (w.setCell ⟨g, k, none⟩ (.bool b)) g t (arr (upd f k b)) := arr_set f k b ▸ h.set k (.bool b)
theorem of_start (a b : Nat) : arr (fun _ => false) = arr (ofF a b 0) := arr_ext (fun i _ => by simp [ofF])
def OfAt (a b : Int) (w : World) (n : Value) (wr : World) : Prop :=
  ∃ k : Nat, n = .int .i64 k ∧ k ≤ 64 ∧ Ext w wr ∧ At wr w.heap.size 72 (arr fun _ => false) ∧ At wr (w.heap.size + 1) 72 (arr (ofF a.toNat b.toNat k))

theorem bit_eqZ {x : Int} (h : U64 x) (k : Nat) : (bits BinOp.and IntKind.u64 (x / 2 ^ k) 1 == 1) = x.toNat.testBit k := by
  rw [← bit_eq x.toNat k h.lt, h.cast]
set_option maxRecDepth 100000 in
theorem of_c (a b : Int) (ha : U64 a) (hb : U64 b) (w : World) : Calls Try.prog 47 #[.int .u64 a, .int .u64 b] w fun e w' => e = .returned (bitsOf (X a b)) ∧ Ext w w' := by
  go_enter Try.func47, Try.ntmps47
  go_wp2
  go_loopw [6] (fun n wr => OfAt a b w n wr) (fun n _ => 64 - (intOf n).toNat)
  case atStart => exact ⟨0, rfl, by omega, (by repeat (first | (with_reducible exact Ext.refl _) | (with_reducible assumption) | (with_reducible refine Ext.alloc ?_ _) | (with_reducible refine Ext.drew ?_) | (with_reducible refine Ext.drewN ?_ _) | (with_reducible refine Ext.setCell ?_ (by simp; try omega) _) | (with_reducible refine Ext.setRow ?_ (by simp; try omega) _))), (by repeat (first | (with_reducible exact At.new _ _ _) | ((with_reducible refine At.new' _ _ _ _ ?_); simp; done) | (with_reducible assumption) | (with_reducible refine At.drew ?_) | (with_reducible refine At.alloc ?_ _) | (with_reducible apply At.upd) | (with_reducible apply At.setRow) | (with_reducible refine At.rowFar ?_ (by first | (simp; done) | (simp; omega) | omega) _) | ((with_reducible refine At.far ?_ (by first | (simp; done) | (simp; omega) | omega) _)) | (with_reducible rfl) | (simp; done))), of_start _ _ ▸ At.new' _ _ _ (w.heap.size + 1) (by simp)⟩
  case round =>
    obtain ⟨k, rfl, hk, hx, hR, hB⟩ := hrel
    by_cases hk' : k < 64
    · have c1 := hB.bit k (by omega)
      have c2 := hB.bit (k + 64) (by omega)
      have f1 := hB.frozen k
      have f2 := hB.frozen (k + 64)
      go_wp2
      go_roundw
      case rel =>
        rw [bit_eqZ hb k, bit_eqZ ha k]
        exact ⟨k + 1, by go_num, by omega, (by repeat (first | (with_reducible exact Ext.refl _) | (with_reducible assumption) | (with_reducible refine Ext.alloc ?_ _) | (with_reducible refine Ext.drew ?_) | (with_reducible refine Ext.drewN ?_ _) | (with_reducible refine Ext.setCell ?_ (by simp; try omega) _) | (with_reducible refine Ext.setRow ?_ (by simp; try omega) _))), At.far (At.far hR (by simp) _) (by simp) _, ofF_step _ _ _ hk' ▸ At.setBit (At.setBit hB _ _) _ _⟩
      case measure => simp [intOf]; omega
    · have : k = 64 := by omega
      subst this
      have e1 := cellsAt_at hR
      have e2 := cellsAt_at hB
      go_wp2
      refine fin_bits (p := 4) (g := w.heap.size) rfl rfl (hR.setRow _) rfl ?_
      exact ⟨ret_eq (congrArg Value.agg (arr_ext (ofF_end _ _ hb.lt))), hx.setRow (Nat.le_refl _) _⟩
end Go.Proofs.Ytgjaiikfgejgoaa
