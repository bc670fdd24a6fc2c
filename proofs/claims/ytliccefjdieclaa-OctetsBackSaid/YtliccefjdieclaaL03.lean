/- Laws of layer 3: what must come at any rate; unlike numbers. No condition. -/
import Derived.Test.YtliccefjdieclaaO7
namespace Go.Proofs.Ytliccefjdieclaa
open Go.RowKit
attribute [local go_sem] Later.cell QUpon_value QUpon_enter MUpon_value run_eql_slice_nil
theorem Wr.new {w : World} {g : Nat} (h : At w g 25 #[.slice none 0 0]) : Wr w g none [] := ⟨(fun x hx => by simp at hx), (fun k hk => by simp [ablk] at hk), ⟨0, h, Row.nil _ _ _ _⟩⟩
theorem Puts.ext0 {w0 w w1 : World} {g : Nat} {A1 : Option Addr} {bs : List Int} (h : Puts w g none bs w1 A1) (hx : Ext w0 w) (hg : w0.heap.size ≤ g) : Ext w0 w1 :=
  (Chg.step (Chg.of_ext hx []) h.chg (fun i hi => by simp [ablk] at hi; right; omega)).ext (by simp)
theorem numB_300 : numB 300 = [172, 2] := by rw [numB_big (by decide), numB_small (by decide)]; rfl
theorem rdnum_nil (w : World) : Calls Try.prog 22 #[.pointer none] w fun e w' => e = .returned (.int .u64 0) ∧ Ext w w' := by
  go_enter Try.func22, Try.ntmps22
  go_wp2_with fail
  go_step3
  go_wp2_with fail
  go_step3
  go_wp2_with fail
  go_loopw [2, 4] (fun n j wr => n = .int .u64 0 ∧ j = .int .i64 0 ∧ wr = w) (fun _ _ _ => 0)
  case atStart => exact ⟨rfl, rfl, rfl⟩
  case round =>
    obtain ⟨rfl, rfl, rfl⟩ := hrel
    go_wp2_with fail
    refine (take_nil 1 _).mono ?_
    rintro e w1 ⟨rfl, hx1⟩
    go_wp2_with fail
    try rw [Exit.noGoto_ret]
    first | refine fin_ret rfl (fun K hK => ?_) | refine fin_norm rfl (fun K hK => ?_)
    simp [results, Try.results22, go_sem, rsat]
    try go_simp
    refine hK _ ?_
    clear hK K
    exact ⟨rfl, hx1⟩
set_option maxHeartbeats 2000000 in
set_option maxRecDepth 100000 in
theorem alive_c (w : World) : Calls Try.prog 11 #[] w fun e w' => e = .returned (.bool true) ∧ Ext w w' := by
  go_enter Try.func11, Try.ntmps11
  go_wp2_with fail
  have hW0 : Wr (w.alloc (.cells #[.slice none 0 0] 25)) w.heap.size none [] := Wr.new (At.new _ _ _)
  refine (num_c _ none [] 300 (by decide) _ hW0 (by decide)).mono ?_
  rintro e w1 ⟨rfl, A1, hP1⟩
  have x1 : Ext w w1 := hP1.ext0 ((Ext.refl w).alloc _) (Nat.le_refl _)
  go_wp2_with fail
  refine (int_c _ A1 _ (-1) ⟨by decide, by decide⟩ _ hP1.wr (by rw [numB_300]; decide)).mono ?_
  rintro e w2 ⟨rfl, A2, hP2⟩
  have hP12 := hP1.trans hP2
  have x2 : Ext w w2 := hP12.ext0 ((Ext.refl w).alloc _) (Nat.le_refl _)
  have eb : ([] ++ numB 300 ++ intB (-1)) = [172, 2, 0, 0, 0, 0, 0, 0, 0, 1] := by rw [numB_300]; decide
  rw [eb] at hP12
  go_wp2_with fail
  refine (bytes_c _ A2 _ _ hP12.wr (by decide)).mono ?_
  rintro e w3 ⟨hx3, v, rfl, A3, c3, rfl, hR3, hf3⟩
  have hby : Byt [172, 2, 0, 0, 0, 0, 0, 0, 0, 1] := by unfold Byt; decide
  have C4 := newreader_c A3 [172, 2, 0, 0, 0, 0, 0, 0, 0, 1] c3 w3 hR3.src hby (by decide)
  obtain ⟨b, off, cur, rfl, _⟩ := hR3.at_ (by have := hR3.le; simp at this; omega)
  have e0 : w3.cell? ⟨b, off, none⟩ = some (.int .u8 172) := hR3.cell rfl (j := 0) (by decide)
  have e1 : w3.cell? ⟨b, off + 1, none⟩ = some (.int .u8 2) := hR3.cell rfl (j := 1) (by decide)
  have e9 : w3.cell? ⟨b, off + 9, none⟩ = some (.int .u8 1) := hR3.cell rfl (j := 9) (by decide)
  simp only [List.length_cons, List.length_nil] at C4 ⊢
  go_wp2_with fail
  refine C4.mono ?_
  rintro e w4 ⟨hx4, g, A, rfl, hrd, hg4, _⟩
  have C5 := rdnum_c g A _ 0 w4 hrd
  rw [show (numR [172, 2, 0, 0, 0, 0, 0, 0, 0, 1] 0).1 = 300 by decide] at C5
  go_wp2_with fail
  refine C5.mono ?_
  rintro e w5 ⟨rfl, A5, hr5⟩
  go_wp2_with fail
  first | refine fin_ret rfl (fun K hK => ?_) | refine fin_norm rfl (fun K hK => ?_)
  simp [results, Try.results11, go_sem, rsat]
  try go_simp
  refine hK _ ?_
  clear hK K
  have x4 : Ext w w4 := (x2.trans hx3).trans hx4
  exact ⟨rfl, (Chg.step (Chg.of_ext x4 []) hr5.chg (fun i hi => by simp at hi; right; have := (x2.trans hx3).size; omega)).ext (by simp)⟩
end Go.Proofs.Ytliccefjdieclaa
