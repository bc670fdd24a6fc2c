/- Laws of layer 3: what is put, read, and told of one thing. No condition. -/
import Derived.Test.YtndcmjpacailjaaQ1
import Derived.Test.YtndcmjpacailjaaH1
namespace Go.Proofs.Ytndcmjpacailjaa
open Go.RowKit
attribute [local go_sem] Later.cell QUpon_value QUpon_enter MUpon_value run_eql_slice_nil
attribute [local go_sem ↓ high] loadPrt_is storePrt_is
attribute [local go_sem] run_loadPrt run_loadPrt_at run_storePrt one_int one_bool one_slice one_ptr one_str setRow_new setRow_past cell_ca frozen_ca cellsAt_alloc_at cellsAt_alloc_past cellsAt_drew cellsAt_later cellsAt_setCell cellsAt_set_same cellsAt_setRow_same cellsAt_setRow_far subAt_alloc subAt_drew subAt_later subAt_setCell subAt_setRow ltn_2 ltn_3 ltn_4 ltn_5
def formP (k z : Int) (n : Nat) (s : Int) (xs : List Int) : List Int := if k = 1 then (if 1 ≤ z ∧ z ≤ 8 then uintB n z.toNat else []) else if k = 2 then intB s else if k = 3 then numB n else if k = 4 then xs else []
theorem formP_byt {k z : Int} {n : Nat} {s : Int} {xs : List Int} (h : Byt xs) : Byt (formP k z n s xs) := by
  unfold formP
  split
  · split
    · exact uintB_byt _ _
    · intro x hx; cases hx
  split
  · exact uintB_byt _ _
  split
  · exact numB_byt _
  split
  · exact h
  · intro x hx; cases hx
theorem formP_len {k z : Int} {n : Nat} {s : Int} {xs : List Int} (hn : n < 18446744073709551616) : (formP k z n s xs).length ≤ 10 + xs.length := by
  unfold formP
  split
  · split
    · rw [uintB_len]; omega
    · simp
  split
  · unfold intB; rw [uintB_len]; omega
  split
  · have := numB_len64 hn; omega
  split
  · omega
  · simp
theorem ruint_out (n size : Int) (hs : size < 1 ∨ 8 < size) (w : World) : Calls Try.prog 49 #[.int .u64 n, .int .i64 size] w fun e w' => e = .returned (.slice none 0 0) ∧ Ext w w' := by
  by_cases h : size < 1
  ·
    go_enter Try.func49, Try.ntmps49
    go_wp2_with fail
    first | refine fin_ret rfl (fun K hK => ?_) | refine fin_norm rfl (fun K hK => ?_)
    simp [results, Try.results49, go_sem, rsat]
    try go_simp
    refine hK _ ?_
    clear hK K
    exact ⟨rfl, (by repeat (first | (with_reducible exact Ext.refl _) | (with_reducible assumption) | (with_reducible refine Ext.alloc ?_ _) | (with_reducible refine Ext.drew ?_) | (with_reducible refine Ext.drewN ?_ _) | (with_reducible refine Ext.setCell ?_ (by simp; try omega) _) | (with_reducible refine Ext.setRow ?_ (by simp; try omega) _)))⟩
  · have h2 : 8 < size := by omega
    go_enter Try.func49, Try.ntmps49
    go_wp2_with fail
    first | refine fin_ret rfl (fun K hK => ?_) | refine fin_norm rfl (fun K hK => ?_)
    simp [results, Try.results49, go_sem, rsat]
    try go_simp
    refine hK _ ?_
    clear hK K
    exact ⟨rfl, (by repeat (first | (with_reducible exact Ext.refl _) | (with_reducible assumption) | (with_reducible refine Ext.alloc ?_ _) | (with_reducible refine Ext.drew ?_) | (with_reducible refine Ext.drewN ?_ _) | (with_reducible refine Ext.setCell ?_ (by simp; try omega) _) | (with_reducible refine Ext.setRow ?_ (by simp; try omega) _)))⟩
theorem beqI {x y : Int} (h : ¬ x = y) : (x == y) = false := beq_eq_false_iff_ne.2 h
/-- What a reader tells of one thing. -/
def gotR (k z : Int) (bs : List Int) (f : Int) : Nat × Int × List Int × List Int × Int :=
  if k = 1 then (if 1 ≤ z ∧ z ≤ 8 then ((uintR bs f z.toNat).1, 0, [], (uintR bs f z.toNat).2.1, (uintR bs f z.toNat).2.2) else (0, 0, [], bs, f))
  else if k = 2 then (0, backN (uintR bs f 8).1, [], (uintR bs f 8).2.1, (uintR bs f 8).2.2)
  else if k = 3 then ((numR bs f).1, 0, [], (numR bs f).2.1, (numR bs f).2.2)
  else if k = 4 then (if z < 0 then (0, 0, [], bs, f) else (0, 0, (rawR bs f z.toNat).1, (rawR bs f z.toNat).2.1, (rawR bs f z.toNat).2.2))
  else (0, 0, [], bs, f)
theorem Reads.extL {w w0 w1 : World} {g : Nat} {A A1 : Option Addr} {bs : List Int} {f : Int} (hx : Ext w w0) (h : Reads w0 g A bs f w1 A1) : Reads w g A bs f w1 A1 := ⟨h.rd, h.blk, (Chg.of_ext hx _).trans h.chg⟩
theorem Reads.setRow {w w1 : World} {g : Nat} {A A1 : Option Addr} {bs bs0 : List Int} {f f0 : Int} (h : Reads w g A bs f w1 A1) (h0 : Rdr w g A bs0 f0) (hg : g < w.heap.size) {p : Nat} (hp : w.heap.size ≤ p) (cs : Array Value) : Reads w g A bs f (w1.setRow p cs) A1 :=
  ⟨h.rd.chg ((Chg.refl w1 [p]).setRow (.inl (by simp)) cs) (by simp; omega) (fun k hk => by rw [h.blk] at hk; have := (h0.alt k hk).1; simp; omega), h.blk, h.chg.setRow (.inr hp) cs⟩
end Go.Proofs.Ytndcmjpacailjaa
