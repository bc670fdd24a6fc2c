/- Frames (layer 4): Put, Take, by the program and by the document. Condition: at most 10^9 bytes. -/
import Derived.Test.YthophidcgkjdeaaR1
import Derived.Test.YthophidcgkjdeaaL03
namespace Go.Proofs.Ythophidcgkjdeaa
open Go.RowKit
attribute [local go_sem] Later.cell QUpon_value QUpon_enter MUpon_value run_eql_slice_nil

attribute [local go_sem] one_int one_bool one_slice one_ptr one_str setRow_new setRow_past cell_ca frozen_ca cellsAt_alloc_at cellsAt_alloc_past cellsAt_drew cellsAt_later cellsAt_setCell cellsAt_set_same cellsAt_setRow_same cellsAt_setRow_far subAt_alloc subAt_drew subAt_later subAt_setCell subAt_setRow ltn_2 ltn_3 ltn_4 ltn_5
/-- A slice that reads as these bytes. -/
def Bts (w : World) (v : Value) (bs : List Int) : Prop := ∃ A c, v = .slice A bs.length c ∧ Src w 1 A bs.length (bc bs)
theorem Bts.ext {w w' : World} {v : Value} {bs : List Int} (h : Bts w v bs) (hx : Ext w w') : Bts w' v bs := by
  obtain ⟨A, c, rfl, hS⟩ := h
  exact ⟨A, c, rfl, hS.ext hx⟩
theorem Own.bts {w0 w : World} {v : Value} {bs : List Int} (h : Own w0 w v bs) : Bts w v bs := by
  obtain ⟨A, c, rfl, hR, _⟩ := h
  exact ⟨A, c, rfl, hR.src⟩
theorem Bts.nil (w : World) : Bts w (.slice none 0 0) [] := ⟨none, 0, rfl, ⟨rfl, fun h => absurd h (by decide)⟩⟩
def frB (bs : List Int) : List Int := uintB bs.length 2 ++ bs
def putL (bs : List Int) : List Int := if bs.length ≤ 64 then frB bs else []
def putF (bs : List Int) : Int := if bs.length ≤ 64 then 0 else 9
theorem frB_byt {bs : List Int} (h : Byt bs) : Byt (frB bs) := (uintB_byt _ _).app h
theorem frB_len (bs : List Int) : (frB bs).length = 2 + bs.length := by unfold frB; rw [List.length_append, uintB_len]
def PutIs (bs : List Int) (w : World) (e : Ending) (w' : World) : Prop := Ext w w' ∧ ∃ v, e = .returned (.tuple #[v, .int .i64 (putF bs)]) ∧ Own w w' v (putL bs)
set_option maxHeartbeats 1000000 in
set_option maxRecDepth 100000 in
theorem fput_c (A : Option Addr) (c : Nat) (bs : List Int) (hb : Byt bs) (hl : bs.length ≤ 1000000000) (w : World) (hS : Src w 1 A bs.length (bc bs)) :
    Calls Try.prog 37 #[.slice A bs.length c] w fun e w' => PutIs bs w e w' := by
  unfold PutIs putF putL
  by_cases hn : bs.length ≤ 64
  · simp only [hn, if_true]
    have ew : IntKind.u64.wrap ((bs.length : Nat) : Int) = ((bs.length : Nat) : Int) := by rw [IntKind.wrap_u64]; omega
    go_enter Try.func37, Try.ntmps37
    go_wp2_with fail
    refine (uint_c w.heap.size none [] bs.length 2 (by omega) (by decide) _ (Wr.new (At.new _ _ _)) (by decide)).mono ?_
    rintro e w1 ⟨rfl, A1, P1⟩
    rw [List.nil_append] at P1
    have x1 : Ext w w1 := P1.ext0 ((Ext.refl w).alloc _) (Nat.le_refl _)
    have l1 := uintB_len bs.length 2
    go_wp2_with fail
    refine (raw_c w.heap.size A1 _ A bs c w1 P1.wr (hS.ext x1) hb (by omega)).mono ?_
    rintro e w2 ⟨rfl, A2, P2⟩
    have Q2 := P1.trans P2
    have x2 : Ext w w2 := Q2.ext0 ((Ext.refl w).alloc _) (Nat.le_refl _)
    go_wp2_with fail
    refine (bytes_c w.heap.size A2 _ _ Q2.wr (by rw [List.length_append]; omega)).mono ?_
    rintro e w3 ⟨hx3, v, rfl, ho⟩
    go_wp2_with fail
    first | refine fin_ret rfl (fun K hK => ?_) | refine fin_norm rfl (fun K hK => ?_)
    simp [results, Try.results37, go_sem, rsat]
    try go_simp
    refine hK _ ?_
    clear hK K
    exact ⟨x2.trans hx3, v, rfl, ho.base x2⟩
  · simp only [hn, if_false]
    go_enter Try.func37, Try.ntmps37
    go_wp2_with fail
    first | refine fin_ret rfl (fun K hK => ?_) | refine fin_norm rfl (fun K hK => ?_)
    simp [results, Try.results37, go_sem, rsat]
    try go_simp
    refine hK _ ?_
    clear hK K
    exact ⟨(by repeat (first | (with_reducible exact Ext.refl _) | (with_reducible assumption) | (with_reducible refine Ext.alloc ?_ _) | (with_reducible refine Ext.drew ?_) | (with_reducible refine Ext.drewN ?_ _) | (with_reducible refine Ext.setCell ?_ (by simp; try omega) _) | (with_reducible refine Ext.setRow ?_ (by simp; try omega) _))), _, rfl, Own.nil _ _⟩
set_option maxHeartbeats 1000000 in
set_option maxRecDepth 100000 in
theorem rfput_c (A : Option Addr) (c : Nat) (bs : List Int) (hb : Byt bs) (hl : bs.length ≤ 1000000000) (w : World) (hS : Src w 1 A bs.length (bc bs)) :
    Calls Try.prog 24 #[.slice A bs.length c] w fun e w' => PutIs bs w e w' := by
  unfold PutIs putF putL
  by_cases hn : bs.length ≤ 64
  · simp only [hn, if_true]
    have ew : IntKind.u64.wrap ((bs.length : Nat) : Int) = ((bs.length : Nat) : Int) := by rw [IntKind.wrap_u64]; omega
    have l1 := uintB_len bs.length 2
    go_enter Try.func24, Try.ntmps24
    go_wp2_with fail
    refine (ruint_c bs.length 2 (by omega) (by decide) _).mono ?_
    rintro e w1 ⟨hx1, v, rfl, A1, c1, rfl, hR1, hf1⟩
    rw [l1] at hR1
    simp only [l1]
    go_wp2_with (at_builtin; refine wpList_rowcat rfl _ _ 39 5 1 1 (.int .u8 0) rfl Try.underlying39 u8Info rfl (by decide) _ A1 2 c1 (bc (uintB bs.length 2)) rfl hR1 _ _ _ _ rfl (hS.ext hx1) (bc_one _) (by unfold maxLen; omega) (by omega) ?_)
    intro A' c' w2 hR2 hC2 hf2
    obtain ⟨o2, x2⟩ := Own.app (bs := uintB bs.length 2) (ns := bs) hx1 hf1 (Ext.refl _) hC2 (by rw [l1]; exact hR2) hf2
    rw [l1] at o2
    go_wp2_with fail
    first | refine fin_ret rfl (fun K hK => ?_) | refine fin_norm rfl (fun K hK => ?_)
    simp [results, Try.results24, go_sem, rsat]
    try go_simp
    refine hK _ ?_
    clear hK K
    exact ⟨x2, _, rfl, o2⟩
  · simp only [hn, if_false]
    go_enter Try.func24, Try.ntmps24
    go_wp2_with fail
    first | refine fin_ret rfl (fun K hK => ?_) | refine fin_norm rfl (fun K hK => ?_)
    simp [results, Try.results24, go_sem, rsat]
    try go_simp
    refine hK _ ?_
    clear hK K
    exact ⟨(by repeat (first | (with_reducible exact Ext.refl _) | (with_reducible assumption) | (with_reducible refine Ext.alloc ?_ _) | (with_reducible refine Ext.drew ?_) | (with_reducible refine Ext.drewN ?_ _) | (with_reducible refine Ext.setCell ?_ (by simp; try omega) _) | (with_reducible refine Ext.setRow ?_ (by simp; try omega) _))), _, rfl, Own.nil _ _⟩
/-- What Take tells. -/
def takeL (bs : List Int) : List Int := if bs.length < 2 then [] else if 64 < valN (bs.take 2) then [] else if bs.length < 2 + valN (bs.take 2) then [] else (bs.drop 2).take (valN (bs.take 2))
def takeN (bs : List Int) : Int := if bs.length < 2 then 0 else if 64 < valN (bs.take 2) then 0 else if bs.length < 2 + valN (bs.take 2) then 0 else 2 + valN (bs.take 2)
def takeF (bs : List Int) : Int := if bs.length < 2 then 3 else if 64 < valN (bs.take 2) then 4 else if bs.length < 2 + valN (bs.take 2) then 3 else 0
theorem takeL_byt {bs : List Int} (h : Byt bs) : Byt (takeL bs) := by
  unfold takeL
  split
  · intro x hx; cases hx
  split
  · intro x hx; cases hx
  split
  · intro x hx; cases hx
  · exact fun x hx => h x (List.mem_of_mem_drop (List.mem_of_mem_take hx))
theorem Reads.ext0 {w0 w w1 : World} {g : Nat} {A A1 : Option Addr} {bs : List Int} {f : Int} (h : Reads w g A bs f w1 A1) (hx : Ext w0 w) (hg : w0.heap.size ≤ g) : Ext w0 w1 :=
  (Chg.step (Chg.of_ext hx []) h.chg (fun i hi => by simp at hi; right; omega)).ext (by simp)
set_option maxHeartbeats 1000000 in
set_option maxRecDepth 100000 in
theorem ftake_c (A : Option Addr) (c : Nat) (bs : List Int) (hb : Byt bs) (hl : bs.length ≤ 1000000000) (w : World) (hS : Src w 1 A bs.length (bc bs)) :
    Calls Try.prog 31 #[.slice A bs.length c] w fun e w' => Ext w w' ∧ ∃ v, e = .returned (.tuple #[v, .int .i64 (takeN bs), .int .i64 (takeF bs)]) ∧ Own w w' v (takeL bs) := by
  unfold takeL takeN takeF
  by_cases h2 : bs.length < 2
  · simp only [h2, if_true]
    have er : uintR bs 0 2 = (0, bs, 3) := by unfold uintR; rw [if_neg (by simp), if_pos h2]
    go_enter Try.func31, Try.ntmps31
    go_wp2_with fail
    refine (newreader_c A bs c w hS hb hl).mono ?_
    rintro e w1 ⟨hx1, g, A1, rfl, r1, hg, hA⟩
    have C2 := rduint_c g A1 bs 0 2 (by decide) w1 r1
    rw [er] at C2
    go_wp2_with fail
    refine C2.mono ?_
    rintro e w2 ⟨rfl, A2, R2⟩
    have x2 := R2.ext0 hx1 hg
    go_wp2_with fail
    refine (fault_c g A2 bs 3 w2 R2.rd).mono ?_
    rintro e w3 ⟨rfl, hx3⟩
    go_wp2_with fail
    first | refine fin_ret rfl (fun K hK => ?_) | refine fin_norm rfl (fun K hK => ?_)
    simp [results, Try.results31, go_sem, rsat]
    try go_simp
    refine hK _ ?_
    clear hK K
    exact ⟨x2.trans hx3, _, rfl, Own.nil _ _⟩
  simp only [h2, if_false]
  have er : uintR bs 0 2 = (valN (bs.take 2), bs.drop 2, 0) := by unfold uintR; rw [if_neg (by simp), if_neg h2]
  have hv : valN (bs.take 2) < 65536 := valN_bytes (fun x hx => hb x (List.mem_of_mem_take hx)) 2 (by rw [List.length_take]; omega)
  generalize valN (bs.take 2) = n at er hv ⊢
  have ew : IntKind.i64.wrap (n : Int) = (n : Int) := by rw [IntWalk.i64_left, wrap64_in ⟨by omega, by omega⟩]
  have hld : (bs.drop 2).length = bs.length - 2 := List.length_drop
  generalize bs.drop 2 = ds at er hld ⊢
  have C1 := newreader_c A bs c w hS hb hl
  have C2 := fun g A1 w1 r1 => rduint_c g A1 bs 0 2 (by decide) w1 r1
  rw [er] at C2
  have HC2 := Lib.hid C2
  clear C2 er hS
  by_cases h64 : 64 < n
  · simp only [h64, if_true]
    go_enter Try.func31, Try.ntmps31
    go_wp2_with fail
    refine C1.mono ?_
    rintro e w1 ⟨hx1, g, A1, rfl, r1, hg, hA⟩
    go_wp2_with fail
    refine (HC2.out _ _ _ r1).mono ?_
    rintro e w2 ⟨rfl, A2, R2⟩
    have x2 := R2.ext0 hx1 hg
    go_wp2_with fail
    refine (fault_c g A2 ds 0 w2 R2.rd).mono ?_
    rintro e w3 ⟨rfl, hx3⟩
    go_wp2_with fail
    first | refine fin_ret rfl (fun K hK => ?_) | refine fin_norm rfl (fun K hK => ?_)
    simp [results, Try.results31, go_sem, rsat]
    try go_simp
    refine hK _ ?_
    clear hK K
    exact ⟨x2.trans hx3, _, rfl, Own.nil _ _⟩
  simp only [h64, if_false]
  by_cases hs : bs.length < 2 + n
  · simp only [hs, if_true]
    go_enter Try.func31, Try.ntmps31
    go_wp2_with fail
    refine C1.mono ?_
    rintro e w1 ⟨hx1, g, A1, rfl, r1, hg, hA⟩
    go_wp2_with fail
    refine (HC2.out _ _ _ r1).mono ?_
    rintro e w2 ⟨rfl, A2, R2⟩
    have x2 := R2.ext0 hx1 hg
    go_wp2_with fail
    refine (fault_c g A2 ds 0 w2 R2.rd).mono ?_
    rintro e w3 ⟨rfl, hx3⟩
    go_wp2_with fail
    refine (left_c g A2 ds 0 w3 (R2.rd.ext hx3)).mono ?_
    rintro e w4 ⟨rfl, hx4⟩
    have hlt : (ds.length : Int) < n := by omega
    go_wp2_with fail
    first | refine fin_ret rfl (fun K hK => ?_) | refine fin_norm rfl (fun K hK => ?_)
    simp [results, Try.results31, go_sem, rsat]
    try go_simp
    refine hK _ ?_
    clear hK K
    exact ⟨(x2.trans hx3).trans hx4, _, rfl, Own.nil _ _⟩
  · simp only [hs, if_false]
    have ra : rawR ds 0 n = (ds.take n, ds.drop n, 0) := by unfold rawR; rw [if_neg (by simp), if_neg (by omega)]
    go_enter Try.func31, Try.ntmps31
    go_wp2_with fail
    refine C1.mono ?_
    rintro e w1 ⟨hx1, g, A1, rfl, r1, hg, hA⟩
    go_wp2_with fail
    refine (HC2.out _ _ _ r1).mono ?_
    rintro e w2 ⟨rfl, A2, R2⟩
    have x2 := R2.ext0 hx1 hg
    go_wp2_with fail
    refine (fault_c g A2 ds 0 w2 R2.rd).mono ?_
    rintro e w3 ⟨rfl, hx3⟩
    go_wp2_with fail
    refine (left_c g A2 ds 0 w3 (R2.rd.ext hx3)).mono ?_
    rintro e w4 ⟨rfl, hx4⟩
    have x4 := (x2.trans hx3).trans hx4
    have C5 := rdraw_c g A2 ds 0 n w4 ((R2.rd.ext hx3).ext hx4) (by omega)
    rw [ra] at C5
    have hlt : ¬ (ds.length : Int) < n := by omega
    go_wp2_with fail
    refine C5.mono ?_
    rintro e w5 ⟨⟨v, rfl, ho⟩, A5, R5⟩
    go_wp2_with fail
    first | refine fin_ret rfl (fun K hK => ?_) | refine fin_norm rfl (fun K hK => ?_)
    simp [results, Try.results31, go_sem, rsat]
    try go_simp
    refine hK _ ?_
    clear hK K
    exact ⟨R5.ext0 x4 hg, v, rfl, ho.base x4⟩
end Go.Proofs.Ythophidcgkjdeaa
