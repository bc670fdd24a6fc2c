/- What a reader reads, 3 (octets): Num. Condition: at most 10^9 bytes. -/
import Derived.Test.YtfbpmngdamaobaaO6
import Derived.WalkMore
namespace Go.Proofs.Ytfbpmngdamaobaa
open Go.RowKit
attribute [local go_sem] Later.cell QUpon_value QUpon_enter MUpon_value run_eql_slice_nil
/-- From group i on (k = 10 - i are left), acc has been gathered. -/
def numG : Nat → Nat → Nat → List Int → Nat × List Int × Int
  | 0, _, _, bs => (0, bs, 4)
  | _ + 1, _, _, [] => (0, [], 3)
  | k + 1, i, acc, b :: bs =>
    if i = 9 ∧ 1 < b.toNat % 128 then (0, bs, 4)
    else if 128 ≤ b.toNat then numG k (i + 1) (acc + b.toNat % 128 * 128 ^ i) bs
    else if b.toNat % 128 = 0 ∧ 0 < i then (0, bs, 4)
    else (acc + b.toNat % 128 * 128 ^ i, bs, 0)
def numR (bs : List Int) (f : Int) : Nat × List Int × Int := if f ≠ 0 then (0, bs, f) else numG 10 0 0 bs
theorem andnot128 : ∀ x : Fin 256, bits BinOp.andNot IntKind.u8 ((x.val : Nat) : Int) 128 = ((x.val % 128 : Nat) : Int) := by decide +kernel
theorem andnot_more {x : Int} (h : 0 ≤ x ∧ x < 256) : bits BinOp.andNot IntKind.u8 x 128 = ((x.toNat % 128 : Nat) : Int) := by
  have h1 := andnot128 ⟨x.toNat, by omega⟩
  simp only at h1
  rw [← h1]
  congr 1
  omega
theorem shl7 {c i : Nat} (hc : c < 128) (hi : i ≤ 9) (h9 : i = 9 → c ≤ 1) : IntKind.u64.wrap ((c : Int) * 2 ^ (7 * (i : Int)).toNat) = ((c * 128 ^ i : Nat) : Int) := by
  rw [IntKind.wrap_u64, show (7 * (i : Int)).toNat = 7 * i by omega]
  obtain rfl | rfl | rfl | rfl | rfl | rfl | rfl | rfl | rfl | rfl : i = 0 ∨ i = 1 ∨ i = 2 ∨ i = 3 ∨ i = 4 ∨ i = 5 ∨ i = 6 ∨ i = 7 ∨ i = 8 ∨ i = 9 := by omega
  all_goals simp only [Nat.reduceMul, Int.reducePow, Nat.reducePow]
  all_goals omega
theorem or_grp {acc c i : Nat} (hacc : acc < 128 ^ i) (hc : c < 128) (hi : i ≤ 9) (h9 : i = 9 → c ≤ 1) : bits BinOp.or IntKind.u64 (acc : Int) ((c * 128 ^ i : Nat) : Int) = ((acc + c * 128 ^ i : Nat) : Int) := by
  have hp : 128 ^ i = 2 ^ (7 * i) := by rw [Nat.pow_mul]
  have hb : c * 128 ^ i < 18446744073709551616 := by
    obtain rfl | rfl | rfl | rfl | rfl | rfl | rfl | rfl | rfl | rfl : i = 0 ∨ i = 1 ∨ i = 2 ∨ i = 3 ∨ i = 4 ∨ i = 5 ∨ i = 6 ∨ i = 7 ∨ i = 8 ∨ i = 9 := by omega
    all_goals simp only [Nat.reducePow]
    all_goals omega
  have hj := or_join (7 * i) (c * 128 ^ i) acc (by omega) hb (by rw [hp]; exact Nat.mul_mod_left _ _) (by rw [← hp]; exact hacc)
  have hcomm : bits BinOp.or IntKind.u64 (acc : Int) ((c * 128 ^ i : Nat) : Int) = bits BinOp.or IntKind.u64 ((c * 128 ^ i : Nat) : Int) (acc : Int) := by simp [bits, Nat.or_comm]
  rw [hcomm, hj, Nat.add_comm]
theorem acc_lt {acc c i : Nat} (hacc : acc < 128 ^ i) (hc : c < 128) : acc + c * 128 ^ i < 128 ^ (i + 1) := by
  have : c * 128 ^ i ≤ 127 * 128 ^ i := Nat.mul_le_mul_right _ (by omega)
  rw [Nat.pow_succ]
  omega
set_option maxHeartbeats 4000000 in
set_option maxRecDepth 100000 in
theorem rdnum_c (g : Nat) (A : Option Addr) (bs : List Int) (f : Int) (w : World) (h : Rdr w g A bs f) :
    Calls Try.prog 64 #[.pointer (some ⟨g, 0, none⟩)] w fun e w' => e = .returned (.int .u64 ((numR bs f).1 : Nat)) ∧ ∃ A', Reads w g A (numR bs f).2.1 (numR bs f).2.2 w' A' := by
  by_cases hf : f = 0
  · subst hf
    rw [show numR bs 0 = numG 10 0 0 bs from if_neg (by simp)]
    go_enter Try.func64, Try.ntmps64
    go_wp2_with fail
    go_step3
    go_wp2_with fail
    go_step3
    go_wp2_with fail
    go_loopw [2, 4] (fun n j wr => ∃ (i acc : Nat) (cs : List Int) (A1 : Option Addr), n = .int .u64 acc ∧ j = .int .i64 i ∧ i ≤ 10 ∧ acc < 128 ^ i ∧ numG 10 0 0 bs = numG (10 - i) i acc cs ∧ Reads w g A cs 0 wr A1) (fun _ j _ => 10 - (intOf j).toNat)
    case atStart => exact ⟨0, 0, bs, A, rfl, rfl, by omega, by decide, rfl, Reads.refl h⟩
    case round =>
      obtain ⟨i, acc, cs, A1, rfl, rfl, hi, hacc, hg, hr⟩ := hrel
      by_cases h10 : i = 10
      · subst h10
        go_wp2_with fail
        refine (bad_c g A1 cs 0 _ hr.rd).mono ?_
        rintro e w1 ⟨rfl, hr1⟩
        go_wp2_with fail
        try rw [Exit.noGoto_ret]
        first | refine fin_ret rfl (fun K hK => ?_) | refine fin_norm rfl (fun K hK => ?_)
        simp [results, Try.results64, go_sem, rsat]
        try go_simp
        refine hK _ ?_
        clear hK K
        rw [hg]
        exact ⟨rfl, A1, hr.trans hr1⟩
      · obtain ⟨k, hk⟩ : ∃ k, 10 - i = k + 1 := ⟨9 - i, by omega⟩
        rw [hk] at hg
        cases cs with
        | nil =>
          go_wp2_with fail
          refine (take_short g A1 [] 1 (by decide) _ hr.rd).mono ?_
          rintro e w1 ⟨rfl, hr1⟩
          go_wp2_with fail
          try rw [Exit.noGoto_ret]
          first | refine fin_ret rfl (fun K hK => ?_) | refine fin_norm rfl (fun K hK => ?_)
          simp [results, Try.results64, go_sem, rsat]
          try go_simp
          refine hK _ ?_
          clear hK K
          rw [hg]
          exact ⟨rfl, A1, hr.trans hr1⟩
        | cons b cs =>
          have hb := hr.rd.by_ b (by simp)
          go_wp2_with fail
          refine (take_ok g A1 (b :: cs) 1 (by simp) _ hr.rd).mono ?_
          rintro e w1 ⟨c, rfl, ⟨A2, hr1⟩, hR⟩
          rw [show (b :: cs).drop 1 = cs from rfl] at hr1
          have hr2 := hr.trans hr1
          obtain ⟨q, off, cur, rfl, hq, hsz, hxs⟩ := hR.at_ (by have := hR.le; omega)
          have e0 : w1.cell? ⟨q, off, none⟩ = some (.int .u8 b) := hR.cell rfl (j := 0) (by omega)
          have ea := andnot_more hb
          have hC : b.toNat % 128 < 128 := Nat.mod_lt _ (by decide)
          have hg2 : numG (k + 1) i acc (b :: cs) = if i = 9 ∧ 1 < b.toNat % 128 then (0, cs, 4) else if 128 ≤ b.toNat then numG k (i + 1) (acc + b.toNat % 128 * 128 ^ i) cs else if b.toNat % 128 = 0 ∧ 0 < i then (0, cs, 4) else (acc + b.toNat % 128 * 128 ^ i, cs, 0) := rfl
          rw [hg2] at hg
          clear hg2
          by_cases ha : i = 9 ∧ 1 < b.toNat % 128
          · rw [if_pos ha] at hg
            obtain ⟨rfl, ha⟩ := ha
            generalize hCC : b.toNat % 128 = C at ea ha hC
            clear hCC
            go_wp2_with fail
            refine (bad_c g A2 cs 0 _ hr2.rd).mono ?_
            rintro e w2 ⟨rfl, hr3⟩
            go_wp2_with fail
            try rw [Exit.noGoto_ret]
            first | refine fin_ret rfl (fun K hK => ?_) | refine fin_norm rfl (fun K hK => ?_)
            simp [results, Try.results64, go_sem, rsat]
            try go_simp
            refine hK _ ?_
            clear hK K
            rw [hg]
            exact ⟨rfl, A2, hr2.trans hr3⟩
          · rw [if_neg ha] at hg
            have h9 : i = 9 → b.toNat % 128 ≤ 1 := fun h => by
              rcases Nat.lt_or_ge 1 (b.toNat % 128) with h1 | h1
              · exact absurd ⟨h, h1⟩ ha
              · exact h1
            have hacc2 := acc_lt hacc hC
            have es := shl7 hC (by omega) h9
            have eor := or_grp hacc hC (by omega) h9
            obtain ⟨Y, hY⟩ : ∃ Y : Int, Y = ((b.toNat % 128 * 128 ^ i : Nat) : Int) := ⟨_, rfl⟩
            obtain ⟨Z, hZ⟩ : ∃ Z : Nat, Z = acc + b.toNat % 128 * 128 ^ i := ⟨_, rfl⟩
            rw [← hY] at es eor
            rw [← hZ] at eor hacc2 hg
            have e9 : ¬ (i = 9 ∧ 1 < b.toNat % 128) := ha
            have hCb : b.toNat % 128 = b.toNat - 128 ∨ b.toNat % 128 = b.toNat := by omega
            generalize hCC : b.toNat % 128 = C at ea hC es h9 hg e9
            have hY0 : Y < 18446744073709551616 ∧ 0 ≤ Y := by
              rw [← es, IntKind.wrap_u64]; omega
            have HY := Lib.hid hY
            have HZ := Lib.hid hZ
            have HC := Lib.hid hCC
            clear hY hZ hCC hCb ha
            have ew : IntKind.u64.wrap ((C : Nat) : Int) = ((C : Nat) : Int) := by rw [IntKind.wrap_u64]; omega
            have b9 : (((i : Int) == 9) = true ∧ decide (1 < (C : Int)) = false) ∨ ((i : Int) == 9) = false := by
              by_cases i9 : i = 9
              · exact .inl ⟨by rw [i9]; rfl, decide_eq_false (by have := h9 i9; omega)⟩
              · exact .inr (beq_eq_false_iff_ne.2 (by omega))
            clear h9 e9 hxs hsz hq
            by_cases hb2 : 128 ≤ b.toNat
            · rw [if_pos hb2] at hg
              have hb3 : 128 ≤ b := by omega
              rcases b9 with ⟨b9, b8⟩ | b9
              all_goals
                go_wp2_with fail
                go_roundw
                case rel => exact ⟨i + 1, Z, cs, A2, rfl, by go_num, by omega, hacc2, by rw [hg]; congr 1; omega, hr2⟩
                case measure => simp [intOf]; omega
            · rw [if_neg hb2] at hg
              have hb3 : b < 128 := by omega
              by_cases hz : C = 0 ∧ 0 < i
              · rw [if_pos hz] at hg
                obtain ⟨hz1, hz2⟩ := hz
                have z1 : ((C : Int) == 0) = true := by rw [hz1]; rfl
                rcases b9 with ⟨b9, b8⟩ | b9
                all_goals
                  go_wp2_with fail
                  refine (bad_c g A2 cs 0 _ hr2.rd).mono ?_
                  rintro e w2 ⟨rfl, hr3⟩
                  go_wp2_with fail
                  try rw [Exit.noGoto_ret]
                  first | refine fin_ret rfl (fun K hK => ?_) | refine fin_norm rfl (fun K hK => ?_)
                  simp [results, Try.results64, go_sem, rsat]
                  try go_simp
                  refine hK _ ?_
                  clear hK K
                  rw [hg]
                  exact ⟨rfl, A2, hr2.trans hr3⟩
              · rw [if_neg hz] at hg
                have z1 : ((C : Int) == 0) = false ∨ (((C : Int) == 0) = true ∧ (i : Int) ≤ 0) := by
                  by_cases h1 : C = 0
                  · exact .inr ⟨by rw [h1]; rfl, by omega⟩
                  · exact .inl (beq_eq_false_iff_ne.2 (by omega))
                clear hz
                rcases b9 with ⟨b9, b8⟩ | b9 <;> rcases z1 with z1 | ⟨z1, z2⟩
                all_goals
                  go_wp2_with fail
                  try rw [Exit.noGoto_ret]
                  first | refine fin_ret rfl (fun K hK => ?_) | refine fin_norm rfl (fun K hK => ?_)
                  simp [results, Try.results64, go_sem, rsat]
                  try go_simp
                  refine hK _ ?_
                  clear hK K
                  rw [hg]
                  exact ⟨rfl, A2, hr2⟩
  · rw [show numR bs f = (0, bs, f) from if_pos hf]
    go_enter Try.func64, Try.ntmps64
    go_wp2_with fail
    go_step3
    go_wp2_with fail
    go_step3
    go_wp2_with fail
    go_loopw [2, 4] (fun n j wr => n = .int .u64 0 ∧ j = .int .i64 0 ∧ wr = w) (fun _ _ _ => 0)
    case atStart => exact ⟨rfl, rfl, rfl⟩
    case round =>
      obtain ⟨rfl, rfl, rfl⟩ := hrel
      go_wp2_with fail
      refine (take_bad g A bs f hf 1 _ h).mono ?_
      rintro e w1 ⟨rfl, hx1⟩
      go_wp2_with fail
      try rw [Exit.noGoto_ret]
      first | refine fin_ret rfl (fun K hK => ?_) | refine fin_norm rfl (fun K hK => ?_)
      simp [results, Try.results64, go_sem, rsat]
      try go_simp
      refine hK _ ?_
      clear hK K
      exact ⟨rfl, A, (Reads.refl h).extR hx1⟩
end Go.Proofs.Ytfbpmngdamaobaa
