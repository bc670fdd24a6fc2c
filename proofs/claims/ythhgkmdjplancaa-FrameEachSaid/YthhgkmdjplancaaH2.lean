/- Frames (layer 4): the document's Take; law FrameTakes. No condition. -/
import Derived.Test.YthhgkmdjplancaaH1
namespace Go.Proofs.Ythhgkmdjplancaa
open Go.RowKit
attribute [local go_sem] Later.cell QUpon_value QUpon_enter MUpon_value run_eql_slice_nil
attribute [local go_sem ↓ high] loadPrt_is storePrt_is
attribute [local go_sem] run_loadPrt run_loadPrt_at run_storePrt one_int one_bool one_slice one_ptr one_str setRow_new setRow_past cell_ca frozen_ca cellsAt_alloc_at cellsAt_alloc_past cellsAt_drew cellsAt_later cellsAt_setCell cellsAt_set_same cellsAt_setRow_same cellsAt_setRow_far subAt_alloc subAt_drew subAt_later subAt_setCell subAt_setRow ltn_2 ltn_3 ltn_4 ltn_5
theorem Src.cut {w : World} {b off n i k : Nat} {bs : List Int} (h : Src w 1 (some ⟨b, off, none⟩) n (bc bs)) (hi : i + k ≤ n) : Src w 1 (some ⟨b, off + i, none⟩) k (bc ((bs.drop i).take k)) := by
  have hl := h.len
  rw [bc_len, Nat.mul_one] at hl
  refine ⟨by rw [bc_len, List.length_take, List.length_drop]; omega, fun h0 => ⟨_, rfl, fun j u hj => ?_⟩⟩
  obtain ⟨ad, hA, hc⟩ := h.at_ (by omega)
  injection hA with hA
  subst hA
  have hjl := (List.getElem?_eq_some_iff.1 hj).1
  rw [bc_len, List.length_take, List.length_drop] at hjl
  unfold bc at hj
  rw [List.getElem?_map, List.getElem?_take_of_lt (by omega), List.getElem?_drop, ← List.getElem?_map] at hj
  have := hc (i + j) u hj
  rw [Addr.add_lit] at this ⊢
  rw [Nat.add_assoc]
  exact this
set_option maxHeartbeats 1000000 in
set_option maxRecDepth 100000 in
theorem rftake_c (A : Option Addr) (c : Nat) (bs : List Int) (hb : Byt bs) (hl : bs.length ≤ 1000000000) (hc : bs.length ≤ c) (hm : c ≤ maxLen) (w : World) (hS : Src w 1 A bs.length (bc bs)) :
    Calls Try.prog 11 #[.slice A bs.length c] w fun e w' => Ext w w' ∧ ∃ v, e = .returned (.tuple #[v, .int .i64 (takeN bs), .int .i64 (takeF bs)]) ∧ Bts w' v (takeL bs) := by
  unfold takeL takeN takeF
  have C1 := readuint_c A c bs 2 (by decide) hb hl
  by_cases h2 : bs.length < 2
  · simp only [h2, if_true]
    have er : uintP bs 2 = (0, 0, 3) := if_pos h2
    rw [er] at C1
    go_enter Try.func11, Try.ntmps11
    go_wp2_with fail
    refine (C1 w hS).mono ?_
    rintro e w1 ⟨rfl, hx1⟩
    go_wp2_with fail
    first | refine fin_ret rfl (fun K hK => ?_) | refine fin_norm rfl (fun K hK => ?_)
    simp [results, Try.results11, go_sem, rsat]
    try go_simp
    refine hK _ ?_
    clear hK K
    exact ⟨(by repeat (first | (with_reducible exact Ext.refl _) | (with_reducible assumption) | (with_reducible refine Ext.alloc ?_ _) | (with_reducible refine Ext.drew ?_) | (with_reducible refine Ext.drewN ?_ _) | (with_reducible refine Ext.setCell ?_ (by simp; try omega) _) | (with_reducible refine Ext.setRow ?_ (by simp; try omega) _))), _, rfl, Bts.nil _⟩
  simp only [h2, if_false]
  have er : uintP bs 2 = (valN (bs.take 2), 2, 0) := if_neg h2
  rw [er] at C1
  have hv : valN (bs.take 2) < 65536 := valN_bytes (fun x hx => hb x (List.mem_of_mem_take hx)) 2 (by rw [List.length_take]; omega)
  generalize valN (bs.take 2) = n at C1 hv ⊢
  have ew : IntKind.i64.wrap (n : Int) = (n : Int) := by rw [IntWalk.i64_left, wrap64_in ⟨by omega, by omega⟩]
  have HC1 := Lib.hid C1
  clear C1 er
  by_cases h64 : 64 < n
  · simp only [h64, if_true]
    go_enter Try.func11, Try.ntmps11
    go_wp2_with fail
    refine (HC1.out w hS).mono ?_
    rintro e w1 ⟨rfl, hx1⟩
    go_wp2_with fail
    first | refine fin_ret rfl (fun K hK => ?_) | refine fin_norm rfl (fun K hK => ?_)
    simp [results, Try.results11, go_sem, rsat]
    try go_simp
    refine hK _ ?_
    clear hK K
    exact ⟨(by repeat (first | (with_reducible exact Ext.refl _) | (with_reducible assumption) | (with_reducible refine Ext.alloc ?_ _) | (with_reducible refine Ext.drew ?_) | (with_reducible refine Ext.drewN ?_ _) | (with_reducible refine Ext.setCell ?_ (by simp; try omega) _) | (with_reducible refine Ext.setRow ?_ (by simp; try omega) _))), _, rfl, Bts.nil _⟩
  simp only [h64, if_false]
  by_cases hs : bs.length < 2 + n
  · simp only [hs, if_true]
    go_enter Try.func11, Try.ntmps11
    go_wp2_with fail
    refine (HC1.out w hS).mono ?_
    rintro e w1 ⟨rfl, hx1⟩
    go_wp2_with fail
    first | refine fin_ret rfl (fun K hK => ?_) | refine fin_norm rfl (fun K hK => ?_)
    simp [results, Try.results11, go_sem, rsat]
    try go_simp
    refine hK _ ?_
    clear hK K
    exact ⟨(by repeat (first | (with_reducible exact Ext.refl _) | (with_reducible assumption) | (with_reducible refine Ext.alloc ?_ _) | (with_reducible refine Ext.drew ?_) | (with_reducible refine Ext.drewN ?_ _) | (with_reducible refine Ext.setCell ?_ (by simp; try omega) _) | (with_reducible refine Ext.setRow ?_ (by simp; try omega) _))), _, rfl, Bts.nil _⟩
  simp only [hs, if_false]
  obtain ⟨b, off, rfl, hbw, _⟩ := hS.lt (by omega) (by decide)
  unfold maxLen at hm
  have hcut := hS.cut (i := 2) (k := n) (by omega)
  have hll : ((bs.drop 2).take n).length = n := by rw [List.length_take, List.length_drop]; omega
  by_cases hcn : c - 2 = 0
  ·
    go_enter Try.func11, Try.ntmps11
    go_wp2_with fail
    refine (HC1.out w hS).mono ?_
    rintro e w1 ⟨rfl, hx1⟩
    go_wp2_with fail
    all_goals first | (exfalso; omega) | skip
    first | refine fin_ret rfl (fun K hK => ?_) | refine fin_norm rfl (fun K hK => ?_)
    simp [results, Try.results11, go_sem, rsat]
    try go_simp
    refine hK _ ?_
    clear hK K
    have hn0 : n = 0 := by omega
    subst hn0
    exact ⟨(by repeat (first | (with_reducible exact Ext.refl _) | (with_reducible assumption) | (with_reducible refine Ext.alloc ?_ _) | (with_reducible refine Ext.drew ?_) | (with_reducible refine Ext.drewN ?_ _) | (with_reducible refine Ext.setCell ?_ (by simp; try omega) _) | (with_reducible refine Ext.setRow ?_ (by simp; try omega) _))), _, rfl, ⟨_, _, rfl, ⟨by rw [List.take_zero]; rfl, fun h => absurd h (by simp)⟩⟩⟩
  ·
    go_enter Try.func11, Try.ntmps11
    go_wp2_with fail
    refine (HC1.out w hS).mono ?_
    rintro e w1 ⟨rfl, hx1⟩
    have hcut1 := hcut.ext hx1
    go_wp2_with fail
    all_goals first | (exfalso; omega) | skip
    first | refine fin_ret rfl (fun K hK => ?_) | refine fin_norm rfl (fun K hK => ?_)
    simp [results, Try.results11, go_sem, rsat]
    try go_simp
    refine hK _ ?_
    clear hK K
    exact ⟨(by repeat (first | (with_reducible exact Ext.refl _) | (with_reducible assumption) | (with_reducible refine Ext.alloc ?_ _) | (with_reducible refine Ext.drew ?_) | (with_reducible refine Ext.drewN ?_ _) | (with_reducible refine Ext.setCell ?_ (by simp; try omega) _) | (with_reducible refine Ext.setRow ?_ (by simp; try omega) _))), _, rfl, ⟨some ⟨b, off + 2, none⟩, c - 2, by rw [hll], by rw [hll]; exact hcut1.ext ((Ext.refl _).alloc _)⟩⟩
theorem alive_c4 (w : World) : Calls Try.prog 7 #[] w fun e w' => e = .returned (.bool true) ∧ Ext w w' := by
  have hb7 : Byt [7] := by unfold Byt; decide
  have hb3 : Byt [0, 1, 7] := by unfold Byt; decide
  have eb : Ending.returned (.bool true) = Ending.returned (.bool true) := rfl
  clear eb
  go_enter Try.func7, Try.ntmps7
  go_wp2_with fail
  refine (fput_c (some ⟨w.heap.size, 0, none⟩) 1 [7] hb7 (by decide) (w.alloc (.cells #[.int .u8 7] 5)) (Src.at (At.new _ _ _) rfl)).mono ?_
  rintro e w1 ⟨hx1, v, rfl, o1⟩
  rw [show putL [7] = [0, 1, 7] by decide] at o1
  obtain ⟨A, c, rfl, R, F⟩ := o1
  rw [show putF [7] = 0 by decide]
  have C2 := ftake_c A c [0, 1, 7] hb3 (by decide) w1 R.src
  rw [show takeL [0, 1, 7] = [7] by decide, show takeN [0, 1, 7] = 3 by decide, show takeF [0, 1, 7] = 0 by decide] at C2
  obtain ⟨b, off, cur, rfl, _⟩ := R.at_ (by have := R.le; simp at this; omega)
  have e1 : w1.cell? ⟨b, off + 1, none⟩ = some (.int .u8 1) := R.cell rfl (j := 1) (by decide)
  have s1 := cell_lt e1
  simp only at s1
  clear R F
  simp only [List.length_cons, List.length_nil] at C2 ⊢
  go_wp2_with fail
  refine C2.mono ?_
  rintro e w2 ⟨hx2, v, rfl, A2, c2, rfl, R2, F2⟩
  obtain ⟨b2, off2, cur2, rfl, _⟩ := R2.at_ (by have := R2.le; simp at this; omega)
  have e2 : w2.cell? ⟨b2, off2, none⟩ = some (.int .u8 7) := R2.cell rfl (j := 0) (by decide)
  have e3 : w2.cell? ⟨b, off + 1, none⟩ = some (.int .u8 1) := (hx2.facts.1 _ _ s1).trans e1
  clear R2 F2
  simp only [List.length_cons, List.length_nil]
  go_wp2_with fail
  first | refine fin_ret rfl (fun K hK => ?_) | refine fin_norm rfl (fun K hK => ?_)
  simp [results, Try.results7, go_sem, rsat]
  try go_simp
  refine hK _ ?_
  clear hK K
  exact ⟨rfl, (((Ext.refl w).alloc _).trans hx1).trans hx2⟩
set_option maxHeartbeats 1000000 in
set_option maxRecDepth 100000 in
theorem frametakes_c (A B : Option Addr) (c d : Nat) (ps bs : List Int) (hp : Byt ps) (hb : Byt bs) (hd : bs.length ≤ d) (hdm : d ≤ maxLen) (hpl : ps.length ≤ maxLen) (w : World) (hA : Src w 1 A ps.length (bc ps)) (hB : Src w 1 B bs.length (bc bs)) :
    Calls Try.prog 3 #[.slice A ps.length c, .slice B bs.length d] w fun e w' => e = .returned (.bool true) ∧ Ext w w' := by
  unfold maxLen at hpl
  have hbm : bs.length ≤ 2 ^ 63 - 1 := by unfold maxLen at hdm; omega
  by_cases h1 : 200 < ps.length
  ·
    go_enter Try.func3, Try.ntmps3
    go_wp2_with fail
    refine (alive_c4 _).mono ?_
    rintro e w1 ⟨rfl, hx1⟩
    go_wp2_with fail
    first | refine fin_ret rfl (fun K hK => ?_) | refine fin_norm rfl (fun K hK => ?_)
    simp [results, Try.results3, go_sem, rsat]
    try go_simp
    refine hK _ ?_
    clear hK K
    exact ⟨rfl, hx1⟩
  by_cases h2 : 400 < bs.length
  ·
    go_enter Try.func3, Try.ntmps3
    go_wp2_with fail
    refine (alive_c4 _).mono ?_
    rintro e w1 ⟨rfl, hx1⟩
    go_wp2_with fail
    first | refine fin_ret rfl (fun K hK => ?_) | refine fin_norm rfl (fun K hK => ?_)
    simp [results, Try.results3, go_sem, rsat]
    try go_simp
    refine hK _ ?_
    clear hK K
    exact ⟨rfl, hx1⟩
  have C1 := fput_c A c ps hp (by omega) w hA
  have C2 := fun w1 hx => rfput_c A c ps hp (by omega) w1 (hA.ext hx)
  have C3 := fun w1 hx => ftake_c B d bs hb (by omega) w1 (hB.ext hx)
  have C4 := fun w1 hx => rftake_c B d bs hb (by omega) hd hdm w1 (hB.ext hx)
  unfold PutIs at C1 C2
  have b1 : Byt (putL ps) := by
    unfold putL
    split
    · exact frB_byt hp
    · intro x hx; cases hx
  have b2 := takeL_byt hb
  generalize putL ps = L1 at C1 C2 b1
  generalize putF ps = f1 at C1 C2
  generalize takeL bs = L2 at C3 C4 b2
  generalize takeN bs = n2 at C3 C4
  generalize takeF bs = f2 at C3 C4
  have HC1 := Lib.hid C1
  have HC2 := Lib.hid C2
  have HC3 := Lib.hid C3
  have HC4 := Lib.hid C4
  clear C1 C2 C3 C4 hA hB
  have e1 : (f1 == f1) = true := by simp
  have e2 : (f2 == f2) = true := by simp
  have e3 : (n2 == n2) = true := by simp
  go_enter Try.func3, Try.ntmps3
  go_wp2_with fail
  refine HC1.out.mono ?_
  rintro e w1 ⟨hx1, v1, rfl, o1⟩
  go_wp2_with fail
  refine (HC2.out w1 hx1).mono ?_
  rintro e w2 ⟨hx2, v2, rfl, o2⟩
  have x2 := hx1.trans hx2
  go_wp2_with fail
  refine (HC3.out w2 x2).mono ?_
  rintro e w3 ⟨hx3, v3, rfl, o3⟩
  have x3 := x2.trans hx3
  go_wp2_with fail
  refine (HC4.out w3 x3).mono ?_
  rintro e w4 ⟨hx4, v4, rfl, o4⟩
  have x4 := x3.trans hx4
  obtain ⟨A1, c1, rfl, S1⟩ := ((o1.bts.ext hx2).ext hx3).ext hx4
  obtain ⟨A2, c2, rfl, S2⟩ := (o2.bts.ext hx3).ext hx4
  obtain ⟨A3, c3, rfl, S3⟩ := o3.bts.ext hx4
  obtain ⟨A4, c4, rfl, S4⟩ := o4
  clear o1 o2 o3
  go_wp2_with fail
  refine (same_c A1 A2 _ _ c1 c2 L1 L1 w4 S1 S2 b1 b1).mono ?_
  rintro e w5 ⟨rfl, hx5⟩
  go_wp2_with fail
  refine (same_c A3 A4 _ _ c3 c4 L2 L2 w5 (S3.ext hx5) (S4.ext hx5) b2 b2).mono ?_
  rintro e w6 ⟨rfl, hx6⟩
  go_wp2_with fail
  refine (alive_c4 _).mono ?_
  rintro e w7 ⟨rfl, hx7⟩
  go_wp2_with fail
  first | refine fin_ret rfl (fun K hK => ?_) | refine fin_norm rfl (fun K hK => ?_)
  simp [results, Try.results3, go_sem, rsat]
  try go_simp
  refine hK _ ?_
  clear hK K
  exact ⟨rfl, ((x4.trans hx5).trans hx6).trans hx7⟩
end Go.Proofs.Ythhgkmdjplancaa
