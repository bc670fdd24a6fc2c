/- Laws MessageStreams, MessageBack. No condition. -/
import Derived.Test.YtndcmjpacailjaaM12
import Derived.Test.YtndcmjpacailjaaM4
namespace Go.Proofs.Ytndcmjpacailjaa
open Go.RowKit
attribute [local go_sem] Later.cell QUpon_value QUpon_enter MUpon_value run_eql_slice_nil Same.cell
attribute [local go_sem ↓ high] loadMsg_is storeMsg_is
attribute [local go_sem] run_loadMsg run_loadMsg_at run_storeMsg one_int one_bool one_slice one_ptr one_str setRow_new setRow_past cell_ca frozen_ca cellsAt_alloc_at cellsAt_alloc_past cellsAt_drew cellsAt_later cellsAt_setCell cellsAt_set_same cellsAt_setRow_same cellsAt_setRow_far subAt_alloc subAt_drew subAt_later subAt_setCell subAt_setRow ltn_2 ltn_3 ltn_4 ltn_5
theorem strM_len {l : List Mg} (hl : l.length ≤ 60) : (strM l).1.length ≤ 3960 := by
  unfold strM
  split
  · rename_i h
    have h1 := stream_len (l := l.map formB) (fun p hp => by
      obtain ⟨m, hm, rfl⟩ := List.mem_map.1 hp
      have := form_len ((right_iff m).1 (List.all_eq_true.1 h m hm))
      omega)
    rw [List.length_map] at h1
    show (stream (l.map formB)).length ≤ 3960
    omega
  · exact Nat.zero_le _
theorem strM_byt (l : List Mg) : Byt (strM l).1 := by
  unfold strM
  split
  · rename_i h
    exact stream_byt (fun p hp => by
      obtain ⟨m, hm, rfl⟩ := List.mem_map.1 hp
      exact form_byt ((right_iff m).1 (List.all_eq_true.1 h m hm)))
  · intro x hx; cases hx
theorem bs_blk {b : Bs} {w : World} (h : b.At w) : 0 < b.xs.length → ∀ k ∈ ablk b.A, k < w.heap.size := fun h0 k hk => by
  obtain ⟨p, off, hA, hp, _⟩ := h.src.lt h0 (by decide)
  rw [hA] at hk
  simp [ablk] at hk
  omega
set_option maxHeartbeats 2000000 in
set_option maxRecDepth 100000 in
theorem messagestreams_c (x : Mgs) (y : Bs) (w : World) (hx : x.At w) (hy : y.At w) :
    Calls Try.prog 5 #[x.v, y.v] w fun e w' => e = .returned (.bool true) ∧ Ext w w' := by
  have HA := Lib.hid alive_c6
  have hbk := bs_blk hy
  obtain ⟨A, c, l⟩ := x
  obtain ⟨hL, hok⟩ := hx
  obtain ⟨B, d, bs⟩ := y
  obtain ⟨hle, hmx, hS, hby⟩ := hy
  simp only [Mgs.v, Bs.v] at *
  have hll : l.length ≤ 9223372036854775807 := by have := hL.le; have := hL.max; unfold maxLen at this; omega
  have hm2 := hmx
  unfold maxLen at hm2
  by_cases k1 : 60 < l.length
  · have ki : (60 : Int) < (l.length : Int) := by omega
    clear hL hS
    go_enter Try.func5, Try.ntmps5
    go_wp2_with fail
    refine (HA.out _).mono ?_
    rintro e w1 ⟨rfl, hx1⟩
    go_wp2_with fail
    first | refine fin_ret rfl (fun K hK => ?_) | refine fin_norm rfl (fun K hK => ?_)
    simp [results, Try.results5, go_sem, rsat]
    try go_simp
    refine hK _ ?_
    clear hK K
    exact ⟨rfl, hx1⟩
  have ki : ¬ (60 : Int) < (l.length : Int) := by omega
  by_cases k2 : 3000 < bs.length
  · have kj : (3000 : Int) < (bs.length : Int) := by omega
    clear hL hS
    go_enter Try.func5, Try.ntmps5
    go_wp2_with fail
    refine (HA.out _).mono ?_
    rintro e w1 ⟨rfl, hx1⟩
    go_wp2_with fail
    first | refine fin_ret rfl (fun K hK => ?_) | refine fin_norm rfl (fun K hK => ?_)
    simp [results, Try.results5, go_sem, rsat]
    try go_simp
    refine hK _ ?_
    clear hK K
    exact ⟨rfl, hx1⟩
  have kj : ¬ (3000 : Int) < (bs.length : Int) := by omega
  have C1 := stream_c A c l (by omega) w hL hok
  unfold StrIs at C1
  have C2 : ∀ W, Ext w W → Calls Try.prog 17 #[.slice A l.length c] W fun e w' => StrIs l W e w' := fun W hW => rstream_c A c l (by omega) W (hL.ext hW) hok
  unfold StrIs at C2
  have C3 : ∀ W, Ext w W → Calls Try.prog 18 #[.slice B bs.length d] W fun e w' => AllM6 bs W e w' := fun W hW => mall_c B d bs hby (by omega) hle hmx W (hS.ext hW) (fun h0 k hk => Nat.lt_of_lt_of_le (hbk h0 k hk) hW.size)
  have C4 : ∀ W, Ext w W → Calls Try.prog 19 #[.slice B bs.length d] W fun e w' => AllM6 bs W e w' := fun W hW => rall6_c B d bs hby (by omega) hle hmx W (hS.ext hW) (fun h0 k hk => Nat.lt_of_lt_of_le (hbk h0 k hk) hW.size)
  have hsb := strM_byt l
  generalize strM l = sm at C1 C2 hsb
  obtain ⟨ss, sf⟩ := sm
  unfold AllM6 at C3 C4
  generalize allM bs = am at C3 C4
  obtain ⟨ms, mf⟩ := am
  simp only at C1 C2 C3 C4 hsb
  have HC1 := Lib.hid C1
  have HC2 := Lib.hid C2
  have HC3 := Lib.hid C3
  have HC4 := Lib.hid C4
  have hsf : (sf == sf) = true := by simp
  have hmf : (mf == mf) = true := by simp
  clear C1 C2 C3 C4 hL hS hbk
  go_enter Try.func5, Try.ntmps5
  go_wp2_with fail
  refine HC1.out.mono ?_
  rintro e w1 ⟨hx1, v1, rfl, A1, c1, rfl, R1, F1⟩
  go_wp2_with fail
  refine (HC2.out _ hx1).mono ?_
  rintro e w2 ⟨hx2, v2, rfl, A2, c2, rfl, R2, F2⟩
  have x2 := hx1.trans hx2
  go_wp2_with fail
  refine (HC3.out _ x2).mono ?_
  rintro e w3 ⟨hx3, A3, c3, rfl, O3⟩
  have x3 := x2.trans hx3
  go_wp2_with fail
  refine (HC4.out _ x3).mono ?_
  rintro e w4 ⟨hx4, A4, c4, rfl, O4⟩
  have x4 := x3.trans hx4
  have S1 := R1.src.ext (hx2.trans (hx3.trans hx4))
  have S2 := R2.src.ext (hx3.trans hx4)
  have L3 := (O3.ext hx4).lies
  have L4 := O4.lies
  go_wp2_with fail
  refine (same_c A1 A2 ss.length ss.length c1 c2 ss ss w4 S1 S2 hsb hsb).mono ?_
  rintro e w5 ⟨rfl, hx5⟩
  rw [decide_eq_true rfl]
  go_wp2_with fail
  refine (mlists_c A3 A4 c3 c4 ms w5 (L3.ext hx5) (L4.ext hx5)).mono ?_
  rintro e w6 ⟨rfl, hx6⟩
  go_wp2_with fail
  refine (HA.out _).mono ?_
  rintro e w7 ⟨rfl, hx7⟩
  go_wp2_with fail
  first | refine fin_ret rfl (fun K hK => ?_) | refine fin_norm rfl (fun K hK => ?_)
  simp [results, Try.results5, go_sem, rsat]
  try go_simp
  refine hK _ ?_
  clear hK K
  exact ⟨rfl, x4.trans (hx5.trans (hx6.trans hx7))⟩
theorem encF_eq (m : Mg) : encF m = if rightB m then 0 else 1 := rfl
set_option maxHeartbeats 4000000 in
set_option maxRecDepth 100000 in
theorem messageback_c (x : Mgs) (y : Bs) (w : World) (hx : x.At w) (hy : y.At w) :
    Calls Try.prog 6 #[x.v, y.v] w fun e w' => e = .returned (.bool true) ∧ Ext w w' := by
  have HA := Lib.hid alive_c6
  have hbk := bs_blk hy
  obtain ⟨A, c, l⟩ := x
  obtain ⟨hL, hok⟩ := hx
  obtain ⟨B, d, bs⟩ := y
  obtain ⟨hle, hmx, hS, hby⟩ := hy
  simp only [Mgs.v, Bs.v] at *
  have hll : l.length ≤ 9223372036854775807 := by have := hL.le; have := hL.max; unfold maxLen at this; omega
  have hm2 := hmx
  unfold maxLen at hm2
  by_cases k1 : 60 < l.length
  · have ki : (60 : Int) < (l.length : Int) := by omega
    clear hL hS
    go_enter Try.func6, Try.ntmps6
    go_wp2_with fail
    refine (HA.out _).mono ?_
    rintro e w1 ⟨rfl, hx1⟩
    go_wp2_with fail
    first | refine fin_ret rfl (fun K hK => ?_) | refine fin_norm rfl (fun K hK => ?_)
    simp [results, Try.results6, go_sem, rsat]
    try go_simp
    refine hK _ ?_
    clear hK K
    exact ⟨rfl, hx1⟩
  have ki : ¬ (60 : Int) < (l.length : Int) := by omega
  by_cases k2 : 200 < bs.length
  · have kj : (200 : Int) < (bs.length : Int) := by omega
    clear hL hS
    go_enter Try.func6, Try.ntmps6
    go_wp2_with fail
    refine (HA.out _).mono ?_
    rintro e w1 ⟨rfl, hx1⟩
    go_wp2_with fail
    first | refine fin_ret rfl (fun K hK => ?_) | refine fin_norm rfl (fun K hK => ?_)
    simp [results, Try.results6, go_sem, rsat]
    try go_simp
    refine hK _ ?_
    clear hK K
    exact ⟨rfl, hx1⟩
  have kj : ¬ (200 : Int) < (bs.length : Int) := by omega
  have HL := Lib.hid hL
  have HS := Lib.hid hS
  have HOK := Lib.hid hok
  clear hL hS
  go_enter Try.func6, Try.ntmps6
  go_wp2_with fail
  go_loopw [5] (fun i wr => ∃ k : Nat, i = .int .i64 k ∧ k ≤ l.length ∧ (l.take k).all rightB = true ∧ Ext w wr) (fun i _ => l.length - (intOf i).toNat)
  case atStart => exact ⟨0, rfl, by omega, rfl, Ext.refl _⟩
  case round =>
    obtain ⟨k, rfl, hk, hall, hx⟩ := hrel
    by_cases hlt : k < l.length
    · obtain ⟨b, off, rfl, hb, hs, _⟩ := HL.out.msg k hlt
      have hs1 := (subAt_ext hx hb).trans hs
      have hbr : b < wr.heap.size := Nat.lt_of_lt_of_le hb hx.size
      obtain ⟨hyy, _⟩ := strM_app hlt hall
      have hmk := hok l[k] (List.getElem_mem _)
      generalize l[k] = m at hs1 hmk hyy
      have C1 := enc_c m hmk
      unfold Enc encF encL at C1
      have C2 := right_c m
      have hki : (k : Int) < (l.length : Int) := by omega
      clear hs
      cases hr : rightB m with
      | false =>
        rw [hr] at C2
        simp only [hr, Bool.false_eq_true, if_false] at C1
        have HC1 := Lib.hid C1
        have HC2 := Lib.hid C2
        clear C1 C2 hyy hr hall
        go_wp2_with fail
        refine (HC1.out _).mono ?_
        rintro e w1 ⟨hx1, v1, rfl, A1, c1, rfl, R1, F1⟩
        have s1 := (subAt_ext (hx.trans hx1) hb).trans ((subAt_ext hx hb).symm.trans hs1)
        have hb1 : b < w1.heap.size := Nat.lt_of_lt_of_le hbr hx1.size
        go_wp2_with fail
        refine (HC2.out _).mono ?_
        rintro e w2 ⟨rfl, hx2⟩
        go_wp2_with fail
        refine (HA.out _).mono ?_
        rintro e w3 ⟨rfl, hx3⟩
        go_wp2_with fail
        first | refine fin_ret rfl (fun K hK => ?_) | refine fin_norm rfl (fun K hK => ?_)
        simp [results, Try.results6, go_sem, rsat]
        try go_simp
        refine hK _ ?_
        clear hK K
        exact ⟨rfl, hx.trans (hx1.trans (hx2.trans hx3))⟩
      | true =>
        have hF := (right_iff m).1 hr
        have h64 : (formB m).length ≤ 64 := by have := form_len hF; omega
        have h64i : ¬ (64 : Int) < ((formB m).length : Int) := by omega
        rw [hr] at C2
        simp only [hr, if_true] at C1
        have HY := Lib.hid (hyy hr)
        have HC1 := Lib.hid C1
        have HC2 := Lib.hid C2
        clear C1 C2 hyy hr hall hF
        go_wp2_with fail
        refine (HC1.out _).mono ?_
        rintro e w1 ⟨hx1, v1, rfl, A1, c1, rfl, R1, F1⟩
        have s1 := (subAt_ext (hx.trans hx1) hb).trans ((subAt_ext hx hb).symm.trans hs1)
        have hb1 : b < w1.heap.size := Nat.lt_of_lt_of_le hbr hx1.size
        go_wp2_with fail
        refine (HC2.out _).mono ?_
        rintro e w2 ⟨rfl, hx2⟩
        go_wp2_with fail
        go_roundw
        case rel => exact ⟨k + 1, by go_num, by omega, HY.out.1, hx.trans (hx1.trans hx2)⟩
        case measure => simp [intOf]; omega
    · obtain rfl : k = l.length := by omega
      rw [List.take_length] at hall
      have hlb := strM_byt l
      have hln := strM_len (l := l) (by omega)
      have C1 := stream_c A c l (by omega) wr (HL.out.ext hx) hok
      unfold StrIs at C1
      have hsm : strM l = (stream (l.map formB), 0) := by unfold strM; rw [if_pos hall]
      have hba := all_back hok hall
      rw [hsm] at C1 hlb hln
      simp only at C1 hlb hln
      generalize stream (l.map formB) = ss at C1 hlb hln hba
      have HBA := Lib.hid hba
      have HC1 := Lib.hid C1
      clear hall hsm C1 hba
      go_wp2_with fail
      refine HC1.out.mono ?_
      rintro e w1 ⟨hx1, v1, rfl, A1, c1, rfl, R1, F1⟩
      have C2 := mall_c A1 c1 ss hlb (by omega) R1.le R1.max w1 R1.src (fun _ k hk => (F1 k hk).2)
      unfold AllM6 at C2
      rw [HBA.out] at C2
      simp only at C2
      have HC2 := Lib.hid C2
      clear C2
      go_wp2_with fail
      refine HC2.out.mono ?_
      rintro e w2 ⟨hx2, A2, c2, rfl, O2⟩
      have x2 := hx.trans (hx1.trans hx2)
      go_wp2_with fail
      refine (mlists_c A2 A c2 c l w2 O2.lies (HL.out.ext x2)).mono ?_
      rintro e w3 ⟨rfl, hx3⟩
      have x3 := x2.trans hx3
      have C3 := mdec_c B d bs hby (by omega) w3 (HS.out.ext x3)
      have HC3 := Lib.hid C3
      clear C3
      go_wp2_with fail
      refine HC3.out.mono ?_
      rintro e w4 ⟨hx4, m, f, rfl, hmf⟩
      have x4 := x3.trans hx4
      by_cases hf : f = 0
      · subst hf
        obtain ⟨q1, q2, q3⟩ := dec_inv hby hmf
        have C4 := enc_c m q3
        unfold Enc encF encL at C4
        rw [q2] at C4
        simp only [if_true, q1] at C4
        have HC4 := Lib.hid C4
        clear C4 q1 q2 q3 hmf
        go_wp2_with fail
        refine (HC4.out _).mono ?_
        rintro e w5 ⟨hx5, v5, rfl, A5, c5, rfl, R5, F5⟩
        have x5 : Ext w w5 := (x4.alloc _).trans hx5
        go_wp2_with fail
        refine (same_c A5 B bs.length bs.length c5 d bs bs w5 R5.src (HS.out.ext x5) hby hby).mono ?_
        rintro e w6 ⟨rfl, hx6⟩
        rw [decide_eq_true rfl]
        go_wp2_with fail
        refine (HA.out _).mono ?_
        rintro e w7 ⟨rfl, hx7⟩
        go_wp2_with fail
        first | refine fin_ret rfl (fun K hK => ?_) | refine fin_norm rfl (fun K hK => ?_)
        simp [results, Try.results6, go_sem, rsat]
        try go_simp
        refine hK _ ?_
        clear hK K
        exact ⟨rfl, x5.trans (hx6.trans hx7)⟩
      · have hz := dec_bad hmf hf
        subst hz
        have hfb : (f == 0) = false := beq_eq_false_iff_ne.2 hf
        have hfb2 : (f != 0) = true := bne_iff_ne.2 hf
        clear hmf hf
        simp only [zeroM]
        go_wp2_with fail
        refine (HA.out _).mono ?_
        rintro e w5 ⟨rfl, hx5⟩
        go_wp2_with fail
        first | refine fin_ret rfl (fun K hK => ?_) | refine fin_norm rfl (fun K hK => ?_)
        simp [results, Try.results6, go_sem, rsat]
        try go_simp
        refine hK _ ?_
        clear hK K
        exact ⟨rfl, (x4.alloc _).trans hx5⟩
end Go.Proofs.Ytndcmjpacailjaa
