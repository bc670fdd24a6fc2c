/- The walks of package config: all, over numbers that the caller laid. No condition. -/
import Derived.Test.YtfbpmngdamaobaaSy
namespace Go.Proofs.Ytfbpmngdamaobaa
open Go.RowKit
attribute [local go_sem] Later.cell QUpon_value QUpon_enter MUpon_value
attribute [local go_sem] cell_ca frozen_ca cellsAt_alloc_at cellsAt_alloc_past cellsAt_drew cellsAt_later cellsAt_setCell ltn_2 ltn_3 ltn_4 ltn_5

def badB (lo hi n : Int) : Bool := decide (n < lo) || decide (hi < n)
def nums (xs : List Int) : Array Value := (xs.map (Value.int .i64)).toArray
theorem nums_get (xs : List Int) (i : Nat) (h : i < xs.length) : (nums xs)[i]? = some (.int .i64 (xs[i]?.getD 0)) := by
  simp [nums, h]
theorem all1_c (n lo hi : Int) (p q : Nat) (w : World) (hp : At w p 2 #[.int .i64 lo]) (hq : At w q 2 #[.int .i64 hi]) : Calls Try.prog 61 #[.int .i64 n, .pointer (some ⟨p, 0, none⟩), .pointer (some ⟨q, 0, none⟩)] w fun e w' => e = .returned (.bool (badB lo hi n)) ∧ Ext w w' := by
  have c_hp_0 := hp.cell 0
  have f_hp_0 := hp.frozen 0
  simp only [List.getElem?_toArray, List.getElem?_cons_zero, List.getElem?_cons_succ] at c_hp_0
  have s_hp := hp.lt
  have c_hq_0 := hq.cell 0
  have f_hq_0 := hq.frozen 0
  simp only [List.getElem?_toArray, List.getElem?_cons_zero, List.getElem?_cons_succ] at c_hq_0
  have s_hq := hq.lt
  unfold badB
  by_cases h : n < lo
  · rw [decide_eq_true h]
    go_enter Try.func61, Try.ntmps61
    go_wp2_with fail
    first | refine fin_ret rfl (fun K hK => ?_) | refine fin_norm rfl (fun K hK => ?_)
    simp [results, Try.results61, go_sem, rsat]
    try go_simp
    refine hK _ ?_
    clear hK K
    exact ⟨rfl, (by repeat (first | (with_reducible exact Ext.refl _) | (with_reducible assumption) | (with_reducible refine Ext.alloc ?_ _) | (with_reducible refine Ext.drew ?_) | (with_reducible refine Ext.drewN ?_ _) | (with_reducible refine Ext.setCell ?_ (by simp; try omega) _) | (with_reducible refine Ext.setRow ?_ (by simp; try omega) _)))⟩
  · rw [decide_eq_false h]
    go_enter Try.func61, Try.ntmps61
    go_wp2_with fail
    first | refine fin_ret rfl (fun K hK => ?_) | refine fin_norm rfl (fun K hK => ?_)
    simp [results, Try.results61, go_sem, rsat]
    try go_simp
    refine hK _ ?_
    clear hK K
    exact ⟨rfl, (by repeat (first | (with_reducible exact Ext.refl _) | (with_reducible assumption) | (with_reducible refine Ext.alloc ?_ _) | (with_reducible refine Ext.drew ?_) | (with_reducible refine Ext.drewN ?_ _) | (with_reducible refine Ext.setCell ?_ (by simp; try omega) _) | (with_reducible refine Ext.setRow ?_ (by simp; try omega) _)))⟩
set_option maxRecDepth 100000 in
set_option maxHeartbeats 800000 in
theorem index_c (xs : List Int) (lo hi : Int) (g p q c : Nat) (hl : xs.length ≤ 1000) (w : World) (hg : At w g 2 (nums xs)) (hp : At w p 2 #[.int .i64 lo]) (hq : At w q 2 #[.int .i64 hi]) :
    Calls Try.prog 66 #[.slice (some ⟨g, 0, none⟩) xs.length c, .func (.func 61) #[] #[.pointer (some ⟨p, 0, none⟩), .pointer (some ⟨q, 0, none⟩)]] w fun e w' =>
      ∃ i : Int, e = .returned (.int .i64 i) ∧ (decide (0 ≤ i) = xs.any (badB lo hi)) ∧ Ext w w' := by
  go_enter Try.func66, Try.ntmps66
  go_wp2_with fail
  go_loopw [8] (fun i wr => ∃ k : Nat, i = .int .i64 k ∧ k ≤ xs.length ∧ Ext w wr ∧ Hid ((xs.take k).any (badB lo hi) = false)) (fun i _ => xs.length - (intOf i).toNat)
  case atStart => exact ⟨0, rfl, by omega, (by repeat (first | (with_reducible exact Ext.refl _) | (with_reducible assumption) | (with_reducible refine Ext.alloc ?_ _) | (with_reducible refine Ext.drew ?_) | (with_reducible refine Ext.drewN ?_ _) | (with_reducible refine Ext.setCell ?_ (by simp; try omega) _) | (with_reducible refine Ext.setRow ?_ (by simp; try omega) _))), Lib.hid (by simp)⟩
  case round =>
    obtain ⟨k, rfl, hk, hx, hb⟩ := hrel
    have hg1 := hg.ext hx
    have hp1 := hp.ext hx
    have hq1 := hq.ext hx
    by_cases hlt : k < xs.length
    · have hc := (hg1.cell k).trans (nums_get xs k hlt)
      obtain ⟨n, hn⟩ : ∃ n, n = xs[k]?.getD 0 := ⟨_, rfl⟩
      rw [← hn] at hc
      have hnx : xs.take (k + 1) = xs.take k ++ [n] := by
        rw [List.take_succ_eq_append_getElem hlt, hn]
        simp [hlt]
      have hmem : n ∈ xs := by rw [hn]; simp [hlt]
      have HN := Lib.hid hnx
      clear hn hnx
      go_wp2_with fail
      refine (all1_c n lo hi p q _ hp1 hq1).mono ?_
      rintro e w1 ⟨rfl, hx1⟩
      cases hB : badB lo hi n
      · have HB := Lib.hid hB
        clear hB
        go_wp2_with fail
        go_roundw
        case rel => exact ⟨k + 1, by go_num, by omega, hx.trans hx1, Lib.hid (by rw [HN.out, List.any_append, hb.out]; simp [HB.out])⟩
        case measure => simp [intOf]; omega
      · have HB := Lib.hid hB
        clear hB
        go_wp2_with fail
        first | refine fin_ret rfl (fun K hK => ?_) | refine fin_norm rfl (fun K hK => ?_)
        simp [results, Try.results66, go_sem, rsat]
        try go_simp
        refine hK _ ?_
        clear hK K
        refine ⟨_, rfl, ?_, hx.trans hx1⟩
        rw [decide_eq_true (by omega)]
        exact (List.any_eq_true.2 ⟨n, hmem, HB.out⟩).symm
    · obtain rfl : k = xs.length := by omega
      go_wp2_with fail
      first | refine fin_ret rfl (fun K hK => ?_) | refine fin_norm rfl (fun K hK => ?_)
      simp [results, Try.results66, go_sem, rsat]
      try go_simp
      refine hK _ ?_
      clear hK K
      refine ⟨_, rfl, ?_, hx⟩
      have := hb.out
      rw [List.take_length] at this
      rw [this]
      rfl
set_option maxRecDepth 100000 in
theorem contains_c (xs : List Int) (lo hi : Int) (g p q c : Nat) (hl : xs.length ≤ 1000) (w : World) (hg : At w g 2 (nums xs)) (hp : At w p 2 #[.int .i64 lo]) (hq : At w q 2 #[.int .i64 hi]) :
    Calls Try.prog 60 #[.slice (some ⟨g, 0, none⟩) xs.length c, .func (.func 61) #[] #[.pointer (some ⟨p, 0, none⟩), .pointer (some ⟨q, 0, none⟩)]] w fun e w' =>
      e = .returned (.bool (xs.any (badB lo hi))) ∧ Ext w w' := by
  go_enter Try.func60, Try.ntmps60
  go_wp2_with fail
  refine (index_c xs lo hi g p q c hl _ hg hp hq).mono ?_
  rintro e w1 ⟨i, rfl, h, hx⟩
  have H := Lib.hid h
  clear h
  go_wp2_with fail
  first | refine fin_ret rfl (fun K hK => ?_) | refine fin_norm rfl (fun K hK => ?_)
  simp [results, Try.results60, go_sem, rsat]
  try go_simp
  refine hK _ ?_
  clear hK K
  exact ⟨by rw [H.out], hx⟩
def allB (lo hi : Int) (xs : List Int) : Bool := !xs.any (badB lo hi)
set_option maxRecDepth 100000 in
theorem all_c (xs : List Int) (lo hi : Int) (g c : Nat) (hl : xs.length ≤ 1000) (w : World) (hg : At w g 2 (nums xs)) :
    Calls Try.prog 23 #[.int .i64 lo, .int .i64 hi, .slice (some ⟨g, 0, none⟩) xs.length c] w fun e w' => e = .returned (.bool (allB lo hi xs)) ∧ Ext w w' := by
  unfold allB
  go_enter Try.func23, Try.ntmps23
  go_wp2_with fail
  refine (contains_c xs lo hi g w.heap.size (w.heap.size + 1) c hl _ ((hg.alloc _).alloc _) (by repeat (first | (with_reducible exact At.new _ _ _) | ((with_reducible refine At.new' _ _ _ _ ?_); simp; done) | (with_reducible assumption) | (with_reducible refine At.drew ?_) | (with_reducible refine At.alloc ?_ _) | (with_reducible apply At.upd) | (with_reducible apply At.setRow) | (with_reducible refine At.rowFar ?_ (by first | (simp; done) | (simp; omega) | omega) _) | ((with_reducible refine At.far ?_ (by first | (simp; done) | (simp; omega) | omega) _)) | (with_reducible rfl) | (simp; done))) (by repeat (first | (with_reducible exact At.new _ _ _) | ((with_reducible refine At.new' _ _ _ _ ?_); simp; done) | (with_reducible assumption) | (with_reducible refine At.drew ?_) | (with_reducible refine At.alloc ?_ _) | (with_reducible apply At.upd) | (with_reducible apply At.setRow) | (with_reducible refine At.rowFar ?_ (by first | (simp; done) | (simp; omega) | omega) _) | ((with_reducible refine At.far ?_ (by first | (simp; done) | (simp; omega) | omega) _)) | (with_reducible rfl) | (simp; done)))).mono ?_
  rintro e w1 ⟨rfl, hx⟩
  go_wp2_with fail
  first | refine fin_ret rfl (fun K hK => ?_) | refine fin_norm rfl (fun K hK => ?_)
  simp [results, Try.results23, go_sem, rsat]
  try go_simp
  refine hK _ ?_
  clear hK K
  exact ⟨rfl, Ext.trans (by repeat (first | (with_reducible exact Ext.refl _) | (with_reducible assumption) | (with_reducible refine Ext.alloc ?_ _) | (with_reducible refine Ext.drew ?_) | (with_reducible refine Ext.drewN ?_ _) | (with_reducible refine Ext.setCell ?_ (by simp; try omega) _) | (with_reducible refine Ext.setRow ?_ (by simp; try omega) _))) hx⟩
end Go.Proofs.Ytfbpmngdamaobaa
