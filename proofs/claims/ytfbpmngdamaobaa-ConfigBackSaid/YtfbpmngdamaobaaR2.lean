/- What the document reads, 2 (ref03): Int, Raw, Num. Condition: at most 10^9 bytes. -/
import Derived.Test.YtfbpmngdamaobaaR1
import Derived.Test.YtfbpmngdamaobaaO7
namespace Go.Proofs.Ytfbpmngdamaobaa
open Go.RowKit
attribute [local go_sem] Later.cell QUpon_value QUpon_enter MUpon_value run_eql_slice_nil
attribute [local go_sem ↓ high] loadPrt_is storePrt_is
attribute [local go_sem] run_loadPrt run_loadPrt_at run_storePrt one_int one_bool one_slice one_ptr one_str setRow_new setRow_past cell_ca frozen_ca cellsAt_alloc_at cellsAt_alloc_past cellsAt_drew cellsAt_later cellsAt_setCell cellsAt_set_same cellsAt_setRow_same cellsAt_setRow_far subAt_alloc subAt_drew subAt_later subAt_setCell subAt_setRow ltn_2 ltn_3 ltn_4 ltn_5
/-- What ReadRaw tells. -/
def rawP (bs : List Int) (n : Nat) : List Int × Int × Int := if bs.length < n then ([], 0, 3) else (bs.take n, n, 0)
/-- What ReadNum tells. -/
def numP (bs : List Int) : Nat × Int × Int := if (numG 10 0 0 bs).2.2 = 0 then ((numG 10 0 0 bs).1, bs.length - (numG 10 0 0 bs).2.1.length, 0) else (0, 0, (numG 10 0 0 bs).2.2)
theorem numP_bad {bs cs : List Int} {n : Nat} {f : Int} (h : numG 10 0 0 bs = (n, cs, f)) (hf : f ≠ 0) : numP bs = (0, 0, f) := by
  unfold numP
  rw [h]
  simp [hf]
theorem numP_ok {bs cs : List Int} {n : Nat} (h : numG 10 0 0 bs = (n, cs, 0)) : numP bs = (n, (bs.length : Int) - (cs.length : Int), 0) := by
  unfold numP
  rw [h]
  simp
set_option maxHeartbeats 4000000 in
set_option maxRecDepth 100000 in
theorem readnum_c (A : Option Addr) (c : Nat) (bs : List Int) (hb : Byt bs) (hl : bs.length ≤ 1000000000) (w : World) (hS : Src w 1 A bs.length (bc bs)) :
    Calls Try.prog 65 #[.slice A bs.length c] w fun e w' => e = .returned (.agg #[.int .u64 ((numP bs).1 : Nat), .int .i64 0, .slice none 0 0, .int .i64 (numP bs).2.1, .int .i64 (numP bs).2.2]) ∧ Ext w w' := by
  go_enter Try.func65, Try.ntmps65
  go_wp2_with fail
  go_loopw [3, 4, 5] (fun n y j wr => ∃ (i acc : Nat) (B : Int), n = .int .u64 acc ∧ y = .int .u64 B ∧ j = .int .i64 i ∧ i ≤ 10 ∧ acc < 128 ^ i ∧ (i ≤ 9 → B = ((128 ^ i : Nat) : Int)) ∧ numG 10 0 0 bs = numG (10 - i) i acc (bs.drop i) ∧ wr = w.alloc (.cells #[.int .u64 0, .int .i64 0, .slice none 0 0, .int .i64 0, .int .i64 0] 105)) (fun _ _ j _ => 10 - (intOf j).toNat)
  case atStart => exact ⟨0, 0, 1, rfl, rfl, rfl, by omega, by decide, fun _ => rfl, rfl, rfl⟩
  case round =>
    obtain ⟨i, acc, B, rfl, rfl, rfl, hi, hacc, hB, hg, rfl⟩ := hrel
    by_cases h10 : i = 10
    · subst h10
      have HP := Lib.hid (numP_bad hg (by decide))
      clear hg hS
      go_wp2_with fail
      first | refine fin_ret rfl (fun K hK => ?_) | refine fin_norm rfl (fun K hK => ?_)
      simp [results, Try.results65, go_sem, rsat]
      try go_simp
      refine hK _ ?_
      clear hK K
      rw [HP.out]
      exact ⟨rfl, (by repeat (first | (with_reducible exact Ext.refl _) | (with_reducible assumption) | (with_reducible refine Ext.alloc ?_ _) | (with_reducible refine Ext.drew ?_) | (with_reducible refine Ext.drewN ?_ _) | (with_reducible refine Ext.setCell ?_ (by simp; try omega) _) | (with_reducible refine Ext.setRow ?_ (by simp; try omega) _)))⟩
    · obtain ⟨k, hk⟩ : ∃ k, 10 - i = k + 1 := ⟨9 - i, by omega⟩
      rw [hk] at hg
      by_cases hil : bs.length ≤ i
      · rw [List.drop_eq_nil_of_le hil] at hg
        have HP := Lib.hid (numP_bad hg (by decide))
        clear hg hS hB
        go_wp2_with fail
        first | refine fin_ret rfl (fun K hK => ?_) | refine fin_norm rfl (fun K hK => ?_)
        simp [results, Try.results65, go_sem, rsat]
        try go_simp
        refine hK _ ?_
        clear hK K
        rw [HP.out]
        exact ⟨rfl, (by repeat (first | (with_reducible exact Ext.refl _) | (with_reducible assumption) | (with_reducible refine Ext.alloc ?_ _) | (with_reducible refine Ext.drew ?_) | (with_reducible refine Ext.drewN ?_ _) | (with_reducible refine Ext.setCell ?_ (by simp; try omega) _) | (with_reducible refine Ext.setRow ?_ (by simp; try omega) _)))⟩
      · have hilt : i < bs.length := by omega
        rw [List.drop_eq_getElem_cons hilt] at hg
        obtain ⟨q, off, rfl, hqw, hcell⟩ := hS.lt (by omega) (by decide)
        have e0 : w.cell? ⟨q, off + i, none⟩ = some (.int .u8 bs[i]) := by
          rw [hcell i (by omega)]
          unfold bc
          rw [List.getElem?_map, List.getElem?_eq_getElem hilt]
          rfl
        have hbi := hb bs[i] (List.getElem_mem _)
        generalize bs[i] = b at e0 hbi hg
        generalize hcs : bs.drop (i + 1) = cs at hg
        have hcl : cs.length = bs.length - (i + 1) := by rw [← hcs, List.length_drop]
        have hcd : cs = bs.drop (i + 1) := hcs.symm
        have HCD := Lib.hid hcd
        clear hcs hcd hcell hS
        have hB2 := hB (by omega)
        have ea : IntKind.u64.wrap (b % 128) = b % 128 := by rw [IntKind.wrap_u64]; omega
        have hbC : b % 128 = ((b.toNat % 128 : Nat) : Int) := by omega
        have hC : b.toNat % 128 < 128 := Nat.mod_lt _ (by decide)
        have hg2 : numG (k + 1) i acc (b :: cs) = if i = 9 ∧ 1 < b.toNat % 128 then (0, cs, 4) else if 128 ≤ b.toNat then numG k (i + 1) (acc + b.toNat % 128 * 128 ^ i) cs else if b.toNat % 128 = 0 ∧ 0 < i then (0, cs, 4) else (acc + b.toNat % 128 * 128 ^ i, cs, 0) := rfl
        rw [hg2] at hg
        clear hg2
        by_cases ha : i = 9 ∧ 1 < b.toNat % 128
        · rw [if_pos ha] at hg
          have HP := Lib.hid (numP_bad hg (by decide))
          obtain ⟨rfl, ha⟩ := ha
          clear hg hB hB2 hacc
          go_wp2_with fail
          first | refine fin_ret rfl (fun K hK => ?_) | refine fin_norm rfl (fun K hK => ?_)
          simp [results, Try.results65, go_sem, rsat]
          try go_simp
          refine hK _ ?_
          clear hK K
          rw [HP.out]
          exact ⟨rfl, (by repeat (first | (with_reducible exact Ext.refl _) | (with_reducible assumption) | (with_reducible refine Ext.alloc ?_ _) | (with_reducible refine Ext.drew ?_) | (with_reducible refine Ext.drewN ?_ _) | (with_reducible refine Ext.setCell ?_ (by simp; try omega) _) | (with_reducible refine Ext.setRow ?_ (by simp; try omega) _)))⟩
        · rw [if_neg ha] at hg
          have h9 : i = 9 → b.toNat % 128 ≤ 1 := fun h => by
            rcases Nat.lt_or_ge 1 (b.toNat % 128) with h1 | h1
            · exact absurd ⟨h, h1⟩ ha
            · exact h1
          have hacc2 := acc_lt hacc hC
          have hZl : acc + b.toNat % 128 * 128 ^ i < 18446744073709551616 := by
            obtain rfl | rfl | rfl | rfl | rfl | rfl | rfl | rfl | rfl | rfl : i = 0 ∨ i = 1 ∨ i = 2 ∨ i = 3 ∨ i = 4 ∨ i = 5 ∨ i = 6 ∨ i = 7 ∨ i = 8 ∨ i = 9 := by omega
            all_goals simp only [Nat.reducePow] at hacc ⊢
            all_goals omega
          have hBl : B < 18446744073709551616 ∧ 0 ≤ B := by
            rw [hB2]
            obtain rfl | rfl | rfl | rfl | rfl | rfl | rfl | rfl | rfl | rfl : i = 0 ∨ i = 1 ∨ i = 2 ∨ i = 3 ∨ i = 4 ∨ i = 5 ∨ i = 6 ∨ i = 7 ∨ i = 8 ∨ i = 9 := by omega
            all_goals simp only [Nat.reducePow]
            all_goals omega
          have hB3 : i + 1 ≤ 9 → IntKind.u64.wrap (B * 128) = ((128 ^ (i + 1) : Nat) : Int) := fun h => by
            rw [hB2, IntKind.wrap_u64]
            obtain rfl | rfl | rfl | rfl | rfl | rfl | rfl | rfl | rfl : i = 0 ∨ i = 1 ∨ i = 2 ∨ i = 3 ∨ i = 4 ∨ i = 5 ∨ i = 6 ∨ i = 7 ∨ i = 8 := by omega
            all_goals simp only [Nat.reducePow, Nat.reduceAdd]
            all_goals omega
          obtain ⟨Y, hY⟩ : ∃ Y : Int, Y = (b % 128) * B := ⟨_, rfl⟩
          have hYn : Y = ((b.toNat % 128 * 128 ^ i : Nat) : Int) := by rw [hY, hbC, hB2, Int.natCast_mul]
          obtain ⟨Z, hZ⟩ : ∃ Z : Nat, Z = acc + b.toNat % 128 * 128 ^ i := ⟨_, rfl⟩
          rw [← hZ] at hacc2 hg hZl
          have hZY : (Z : Int) = acc + Y := by rw [hZ, hYn]; omega
          have hY0 : 0 ≤ Y ∧ Y < 18446744073709551616 := by rw [hYn]; omega
          have es : IntKind.u64.wrap (b % 128 * B) = Y := by rw [← hY, IntKind.wrap_u64]; omega
          have eor : IntKind.u64.wrap ((acc : Int) + Y) = (Z : Int) := by rw [← hZY, IntKind.wrap_u64]; omega
          have eZ : (acc : Int) + Y = (Z : Int) := hZY.symm
          have eY : b % 128 * B = Y := hY.symm
          have b9 : (((i : Int) == 9) = true ∧ decide (1 < b % 128) = false) ∨ ((i : Int) == 9) = false := by
            by_cases i9 : i = 9
            · exact .inl ⟨by rw [i9]; rfl, decide_eq_false (by have := h9 i9; omega)⟩
            · exact .inr (beq_eq_false_iff_ne.2 (by omega))
          have HZY := Lib.hid hZY
          clear hY hYn hZ hZY hB hB2 ha h9
          by_cases hb2 : 128 ≤ b.toNat
          · rw [if_pos hb2] at hg
            have hb3 : 128 ≤ b := by omega
            clear hbC
            rcases b9 with ⟨b9, b8⟩ | b9
            all_goals
              go_wp2_with fail
              go_roundw
              case rel => exact ⟨i + 1, Z, _, by first | rfl | go_num, rfl, by go_num, by omega, hacc2, fun h => by have := hB3 h; first | exact this | (rw [← this]; go_num), by rw [hg, show 10 - (i + 1) = k by omega, ← HCD.out], by first | rfl | trivial⟩
              case measure => simp [intOf]; omega
          · rw [if_neg hb2] at hg
            have hb3 : b < 128 := by omega
            by_cases hz : b.toNat % 128 = 0 ∧ 0 < i
            · rw [if_pos hz] at hg
              have HP := Lib.hid (numP_bad hg (by decide))
              obtain ⟨hz1, hz2⟩ := hz
              have z1 : (b % 128 == 0) = true := by simp; omega
              clear hbC hz1 hg
              rcases b9 with ⟨b9, b8⟩ | b9
              all_goals
                go_wp2_with fail
                first | refine fin_ret rfl (fun K hK => ?_) | refine fin_norm rfl (fun K hK => ?_)
                simp [results, Try.results65, go_sem, rsat]
                try go_simp
                refine hK _ ?_
                clear hK K
                rw [HP.out]
                exact ⟨rfl, (by repeat (first | (with_reducible exact Ext.refl _) | (with_reducible assumption) | (with_reducible refine Ext.alloc ?_ _) | (with_reducible refine Ext.drew ?_) | (with_reducible refine Ext.drewN ?_ _) | (with_reducible refine Ext.setCell ?_ (by simp; try omega) _) | (with_reducible refine Ext.setRow ?_ (by simp; try omega) _)))⟩
            · rw [if_neg hz] at hg
              have HP0 := numP_ok hg
              have z1 : (b % 128 == 0) = false ∨ ((b % 128 == 0) = true ∧ (i : Int) ≤ 0) := by
                by_cases h1 : b.toNat % 128 = 0
                · exact .inr ⟨by simp; omega, by omega⟩
                · exact .inl (beq_eq_false_iff_ne.2 (by omega))
              have esz : ((bs.length : Int) - (cs.length : Int)) = (i : Int) + 1 := by omega
              rw [esz] at HP0
              have HP := Lib.hid HP0
              clear HP0
              clear hz hbC hcl esz hg
              rcases b9 with ⟨b9, b8⟩ | b9 <;> rcases z1 with z1 | ⟨z1, z2⟩
              all_goals
                go_wp2_with fail
                first | refine fin_ret rfl (fun K hK => ?_) | refine fin_norm rfl (fun K hK => ?_)
                simp [results, Try.results65, go_sem, rsat]
                try go_simp
                refine hK _ ?_
                clear hK K
                rw [HP.out]
                exact ⟨rfl, (by repeat (first | (with_reducible exact Ext.refl _) | (with_reducible assumption) | (with_reducible refine Ext.alloc ?_ _) | (with_reducible refine Ext.drew ?_) | (with_reducible refine Ext.drewN ?_ _) | (with_reducible refine Ext.setCell ?_ (by simp; try omega) _) | (with_reducible refine Ext.setRow ?_ (by simp; try omega) _)))⟩
end Go.Proofs.Ytfbpmngdamaobaa
