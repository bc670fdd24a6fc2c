/- Laws of layer 3: what is put, read, and told of one thing. No condition. -/
import Derived.Test.YtliccefjdieclaaQ1
import Derived.Test.YtliccefjdieclaaH1
namespace Go.Proofs.Ytliccefjdieclaa
open Go.RowKit
attribute [local go_sem] Later.cell QUpon_value QUpon_enter MUpon_value run_eql_slice_nil
attribute [local go_sem ↓ high] loadPt_is storePt_is loadPrt_is storePrt_is
attribute [local go_sem] run_loadPt run_loadPt_at run_storePt run_loadPrt run_loadPrt_at run_storePrt one_int one_bool one_slice one_ptr one_str setRow_new setRow_past cell_ca frozen_ca cellsAt_alloc_at cellsAt_alloc_past cellsAt_drew cellsAt_later cellsAt_setCell cellsAt_set_same cellsAt_setRow_same cellsAt_setRow_far subAt_alloc subAt_drew subAt_later subAt_setCell subAt_setRow ltn_2 ltn_3 ltn_4 ltn_5
def formP (k z : Int) (n : Nat) (s : Int) (xs : List Int) : List Int := if k = 1 then (if 1 ≤ z ∧ z ≤ 8 then uintB n z.toNat else []) else if k = 2 then intB s else if k = 3 then numB n else if k = 4 then xs else []
theorem formP_byt {k z : Int} {n : Nat} {s : Int} {xs : List Int} (h : Byt xs) : Byt (formP k z n s xs) := by
  unfold formP
  split
  · split
    · exact uintB_byt _ _
    · intro x hx; cases hx
  split
  · exact uintB_byt _ _
  split
  · exact numB_byt _
  split
  · exact h
  · intro x hx; cases hx
theorem formP_len {k z : Int} {n : Nat} {s : Int} {xs : List Int} (hn : n < 18446744073709551616) : (formP k z n s xs).length ≤ 10 + xs.length := by
  unfold formP
  split
  · split
    · rw [uintB_len]; omega
    · simp
  split
  · unfold intB; rw [uintB_len]; omega
  split
  · have := numB_len64 hn; omega
  split
  · omega
  · simp
theorem ruint_out (n size : Int) (hs : size < 1 ∨ 8 < size) (w : World) : Calls Try.prog 23 #[.int .u64 n, .int .i64 size] w fun e w' => e = .returned (.slice none 0 0) ∧ Ext w w' := by
  by_cases h : size < 1
  ·
    go_enter Try.func23, Try.ntmps23
    go_wp2_with fail
    first | refine fin_ret rfl (fun K hK => ?_) | refine fin_norm rfl (fun K hK => ?_)
    simp [results, Try.results23, go_sem, rsat]
    try go_simp
    refine hK _ ?_
    clear hK K
    exact ⟨rfl, (by repeat (first | (with_reducible exact Ext.refl _) | (with_reducible assumption) | (with_reducible refine Ext.alloc ?_ _) | (with_reducible refine Ext.drew ?_) | (with_reducible refine Ext.drewN ?_ _) | (with_reducible refine Ext.setCell ?_ (by simp; try omega) _) | (with_reducible refine Ext.setRow ?_ (by simp; try omega) _)))⟩
  · have h2 : 8 < size := by omega
    go_enter Try.func23, Try.ntmps23
    go_wp2_with fail
    first | refine fin_ret rfl (fun K hK => ?_) | refine fin_norm rfl (fun K hK => ?_)
    simp [results, Try.results23, go_sem, rsat]
    try go_simp
    refine hK _ ?_
    clear hK K
    exact ⟨rfl, (by repeat (first | (with_reducible exact Ext.refl _) | (with_reducible assumption) | (with_reducible refine Ext.alloc ?_ _) | (with_reducible refine Ext.drew ?_) | (with_reducible refine Ext.drewN ?_ _) | (with_reducible refine Ext.setCell ?_ (by simp; try omega) _) | (with_reducible refine Ext.setRow ?_ (by simp; try omega) _)))⟩
theorem beqI {x y : Int} (h : ¬ x = y) : (x == y) = false := beq_eq_false_iff_ne.2 h
set_option maxHeartbeats 1000000 in
set_option maxRecDepth 100000 in
theorem formp_c (k z : Int) (n : Nat) (s : Int) (A : Option Addr) (c : Nat) (xs : List Int) (hn : n < 18446744073709551616) (hs : I64 s) (w : World) (hS : Src w 1 A xs.length (bc xs)) :
    Calls Try.prog 13 #[.agg #[.int .i64 k, .int .i64 z, .int .u64 (n : Int), .int .i64 s, .slice A xs.length c]] w fun e w' => Ext w w' ∧ ∃ v, e = .returned v ∧ Bts w' v (formP k z n s xs) := by
  unfold formP
  by_cases h1 : k = 1
  · subst h1
    rw [if_pos rfl]
    by_cases hz : 1 ≤ z ∧ z ≤ 8
    · rw [if_pos hz]
      obtain ⟨m, rfl⟩ : ∃ m : Nat, z = (m : Int) := ⟨z.toNat, by omega⟩
      rw [Int.toNat_natCast]
      go_enter Try.func13, Try.ntmps13
      go_wp2_with fail
      refine (ruint_c n m hn (by omega) _).mono ?_
      rintro e w1 ⟨hx1, v, rfl, ho⟩
      go_wp2_with fail
      first | refine fin_ret rfl (fun K hK => ?_) | refine fin_norm rfl (fun K hK => ?_)
      simp [results, Try.results13, go_sem, rsat]
      try go_simp
      refine hK _ ?_
      clear hK K
      exact ⟨((Ext.refl w).alloc _).trans hx1, v, rfl, ho.bts⟩
    · rw [if_neg hz]
      go_enter Try.func13, Try.ntmps13
      go_wp2_with fail
      refine (ruint_out n z (by omega) _).mono ?_
      rintro e w1 ⟨rfl, hx1⟩
      go_wp2_with fail
      first | refine fin_ret rfl (fun K hK => ?_) | refine fin_norm rfl (fun K hK => ?_)
      simp [results, Try.results13, go_sem, rsat]
      try go_simp
      refine hK _ ?_
      clear hK K
      exact ⟨((Ext.refl w).alloc _).trans hx1, _, rfl, Bts.nil _⟩
  rw [if_neg h1]
  have e1 := beqI h1
  by_cases h2 : k = 2
  · subst h2
    rw [if_pos rfl]
    go_enter Try.func13, Try.ntmps13
    go_wp2_with fail
    refine (rint_c s hs _).mono ?_
    rintro e w1 ⟨hx1, v, rfl, ho⟩
    go_wp2_with fail
    first | refine fin_ret rfl (fun K hK => ?_) | refine fin_norm rfl (fun K hK => ?_)
    simp [results, Try.results13, go_sem, rsat]
    try go_simp
    refine hK _ ?_
    clear hK K
    exact ⟨((Ext.refl w).alloc _).trans hx1, v, rfl, ho.bts⟩
  rw [if_neg h2]
  have e2 := beqI h2
  by_cases h3 : k = 3
  · subst h3
    rw [if_pos rfl]
    go_enter Try.func13, Try.ntmps13
    go_wp2_with fail
    refine (rnum_c n hn _).mono ?_
    rintro e w1 ⟨hx1, v, rfl, ho⟩
    go_wp2_with fail
    first | refine fin_ret rfl (fun K hK => ?_) | refine fin_norm rfl (fun K hK => ?_)
    simp [results, Try.results13, go_sem, rsat]
    try go_simp
    refine hK _ ?_
    clear hK K
    exact ⟨((Ext.refl w).alloc _).trans hx1, v, rfl, ho.bts⟩
  rw [if_neg h3]
  have e3 := beqI h3
  by_cases h4 : k = 4
  · subst h4
    rw [if_pos rfl]
    go_enter Try.func13, Try.ntmps13
    go_wp2_with fail
    first | refine fin_ret rfl (fun K hK => ?_) | refine fin_norm rfl (fun K hK => ?_)
    simp [results, Try.results13, go_sem, rsat]
    try go_simp
    refine hK _ ?_
    clear hK K
    exact ⟨(by repeat (first | (with_reducible exact Ext.refl _) | (with_reducible assumption) | (with_reducible refine Ext.alloc ?_ _) | (with_reducible refine Ext.drew ?_) | (with_reducible refine Ext.drewN ?_ _) | (with_reducible refine Ext.setCell ?_ (by simp; try omega) _) | (with_reducible refine Ext.setRow ?_ (by simp; try omega) _))), _, rfl, A, c, rfl, hS.ext ((Ext.refl w).alloc _)⟩
  · rw [if_neg h4]
    have e4 := beqI h4
    go_enter Try.func13, Try.ntmps13
    go_wp2_with fail
    first | refine fin_ret rfl (fun K hK => ?_) | refine fin_norm rfl (fun K hK => ?_)
    simp [results, Try.results13, go_sem, rsat]
    try go_simp
    refine hK _ ?_
    clear hK K
    exact ⟨(by repeat (first | (with_reducible exact Ext.refl _) | (with_reducible assumption) | (with_reducible refine Ext.alloc ?_ _) | (with_reducible refine Ext.drew ?_) | (with_reducible refine Ext.drewN ?_ _) | (with_reducible refine Ext.setCell ?_ (by simp; try omega) _) | (with_reducible refine Ext.setRow ?_ (by simp; try omega) _))), _, rfl, Bts.nil _⟩
set_option maxHeartbeats 1000000 in
set_option maxRecDepth 100000 in
theorem putp_c (g : Nat) (B : Option Addr) (bs : List Int) (k z : Int) (n : Nat) (s : Int) (A : Option Addr) (c : Nat) (xs : List Int) (hn : n < 18446744073709551616) (hs : I64 s) (hb : Byt xs) (w : World) (hW : Wr w g B bs) (hS : Src w 1 A xs.length (bc xs)) (hl : bs.length + xs.length ≤ 1000000000) :
    Calls Try.prog 14 #[.pointer (some ⟨g, 0, none⟩), .agg #[.int .i64 k, .int .i64 z, .int .u64 (n : Int), .int .i64 s, .slice A xs.length c]] w fun e w' => e = .returned (.pointer (some ⟨g, 0, none⟩)) ∧ ∃ B', Puts w g B (bs ++ formP k z n s xs) w' B' := by
  unfold formP
  have x0 : ∀ o, Ext w (w.alloc o) := fun o => (Ext.refl w).alloc o
  by_cases h1 : k = 1
  · subst h1
    rw [if_pos rfl]
    by_cases hz : 1 ≤ z ∧ z ≤ 8
    · rw [if_pos hz]
      obtain ⟨m, rfl⟩ : ∃ m : Nat, z = (m : Int) := ⟨z.toNat, by omega⟩
      rw [Int.toNat_natCast]
      go_enter Try.func14, Try.ntmps14
      go_wp2_with fail
      refine (uint_c g B bs n m hn (by omega) _ (hW.ext (x0 _)) (by omega)).mono ?_
      rintro e w1 ⟨rfl, B1, hP⟩
      go_wp2_with fail
      first | refine fin_ret rfl (fun K hK => ?_) | refine fin_norm rfl (fun K hK => ?_)
      simp [results, Try.results14, go_sem, rsat]
      try go_simp
      refine hK _ ?_
      clear hK K
      exact ⟨rfl, B1, hP.extL (x0 _)⟩
    · rw [if_neg hz]
      go_enter Try.func14, Try.ntmps14
      go_wp2_with fail
      refine (uint_out g n z (by omega) _).mono ?_
      rintro e w1 ⟨rfl, hx1⟩
      go_wp2_with fail
      first | refine fin_ret rfl (fun K hK => ?_) | refine fin_norm rfl (fun K hK => ?_)
      simp [results, Try.results14, go_sem, rsat]
      try go_simp
      refine hK _ ?_
      clear hK K
      rw [List.append_nil]
      exact ⟨rfl, B, (Puts.refl hW).extR ((x0 _).trans hx1)⟩
  rw [if_neg h1]
  have e1 := beqI h1
  by_cases h2 : k = 2
  · subst h2
    rw [if_pos rfl]
    go_enter Try.func14, Try.ntmps14
    go_wp2_with fail
    refine (int_c g B bs s hs _ (hW.ext (x0 _)) (by omega)).mono ?_
    rintro e w1 ⟨rfl, B1, hP⟩
    go_wp2_with fail
    first | refine fin_ret rfl (fun K hK => ?_) | refine fin_norm rfl (fun K hK => ?_)
    simp [results, Try.results14, go_sem, rsat]
    try go_simp
    refine hK _ ?_
    clear hK K
    exact ⟨rfl, B1, hP.extL (x0 _)⟩
  rw [if_neg h2]
  have e2 := beqI h2
  by_cases h3 : k = 3
  · subst h3
    rw [if_pos rfl]
    go_enter Try.func14, Try.ntmps14
    go_wp2_with fail
    refine (num_c g B bs n hn _ (hW.ext (x0 _)) (by omega)).mono ?_
    rintro e w1 ⟨rfl, B1, hP⟩
    go_wp2_with fail
    first | refine fin_ret rfl (fun K hK => ?_) | refine fin_norm rfl (fun K hK => ?_)
    simp [results, Try.results14, go_sem, rsat]
    try go_simp
    refine hK _ ?_
    clear hK K
    exact ⟨rfl, B1, hP.extL (x0 _)⟩
  rw [if_neg h3]
  have e3 := beqI h3
  by_cases h4 : k = 4
  · subst h4
    rw [if_pos rfl]
    go_enter Try.func14, Try.ntmps14
    go_wp2_with fail
    refine (raw_c g B bs A xs c _ (hW.ext (x0 _)) (hS.ext (x0 _)) hb (by omega)).mono ?_
    rintro e w1 ⟨rfl, B1, hP⟩
    go_wp2_with fail
    first | refine fin_ret rfl (fun K hK => ?_) | refine fin_norm rfl (fun K hK => ?_)
    simp [results, Try.results14, go_sem, rsat]
    try go_simp
    refine hK _ ?_
    clear hK K
    exact ⟨rfl, B1, hP.extL (x0 _)⟩
  · rw [if_neg h4]
    have e4 := beqI h4
    go_enter Try.func14, Try.ntmps14
    go_wp2_with fail
    first | refine fin_ret rfl (fun K hK => ?_) | refine fin_norm rfl (fun K hK => ?_)
    simp [results, Try.results14, go_sem, rsat]
    try go_simp
    refine hK _ ?_
    clear hK K
    rw [List.append_nil]
    exact ⟨rfl, B, (Puts.refl hW).extR (x0 _)⟩
set_option maxHeartbeats 1000000 in
set_option maxRecDepth 100000 in
theorem putp_nil (k z n s : Int) (A : Option Addr) (m c : Nat) (w : World) :
    Calls Try.prog 14 #[.pointer none, .agg #[.int .i64 k, .int .i64 z, .int .u64 n, .int .i64 s, .slice A m c]] w fun e w' => e = .returned (.pointer none) ∧ Ext w w' := by
  by_cases h1 : k = 1
  · subst h1
    go_enter Try.func14, Try.ntmps14
    go_wp2_with fail
    refine (uint_nil _ _ _).mono ?_
    rintro e w1 ⟨rfl, hxw1⟩
    have xw1 : Ext w w1 := Ext.trans (by repeat (first | (with_reducible exact Ext.refl _) | (with_reducible assumption) | (with_reducible refine Ext.alloc ?_ _) | (with_reducible refine Ext.drew ?_) | (with_reducible refine Ext.drewN ?_ _) | (with_reducible refine Ext.setCell ?_ (by simp; try omega) _) | (with_reducible refine Ext.setRow ?_ (by simp; try omega) _))) hxw1
    have lw1 := xw1.size
    go_wp2_with fail
    first | refine fin_ret rfl (fun K hK => ?_) | refine fin_norm rfl (fun K hK => ?_)
    simp [results, Try.results14, go_sem, rsat]
    try go_simp
    refine hK _ ?_
    clear hK K
    exact ⟨rfl, (by repeat (first | (with_reducible exact Ext.refl _) | (with_reducible assumption) | (with_reducible refine Ext.alloc ?_ _) | (with_reducible refine Ext.drew ?_) | (with_reducible refine Ext.drewN ?_ _) | (with_reducible refine Ext.setCell ?_ (by simp; try omega) _) | (with_reducible refine Ext.setRow ?_ (by simp; try omega) _)))⟩
  have e1 := beqI h1
  by_cases h2 : k = 2
  · subst h2
    go_enter Try.func14, Try.ntmps14
    go_wp2_with fail
    refine (int_nil _ _).mono ?_
    rintro e w1 ⟨rfl, hxw1⟩
    have xw1 : Ext w w1 := Ext.trans (by repeat (first | (with_reducible exact Ext.refl _) | (with_reducible assumption) | (with_reducible refine Ext.alloc ?_ _) | (with_reducible refine Ext.drew ?_) | (with_reducible refine Ext.drewN ?_ _) | (with_reducible refine Ext.setCell ?_ (by simp; try omega) _) | (with_reducible refine Ext.setRow ?_ (by simp; try omega) _))) hxw1
    have lw1 := xw1.size
    go_wp2_with fail
    first | refine fin_ret rfl (fun K hK => ?_) | refine fin_norm rfl (fun K hK => ?_)
    simp [results, Try.results14, go_sem, rsat]
    try go_simp
    refine hK _ ?_
    clear hK K
    exact ⟨rfl, (by repeat (first | (with_reducible exact Ext.refl _) | (with_reducible assumption) | (with_reducible refine Ext.alloc ?_ _) | (with_reducible refine Ext.drew ?_) | (with_reducible refine Ext.drewN ?_ _) | (with_reducible refine Ext.setCell ?_ (by simp; try omega) _) | (with_reducible refine Ext.setRow ?_ (by simp; try omega) _)))⟩
  have e2 := beqI h2
  by_cases h3 : k = 3
  · subst h3
    go_enter Try.func14, Try.ntmps14
    go_wp2_with fail
    refine (num_nil _ _).mono ?_
    rintro e w1 ⟨rfl, hxw1⟩
    have xw1 : Ext w w1 := Ext.trans (by repeat (first | (with_reducible exact Ext.refl _) | (with_reducible assumption) | (with_reducible refine Ext.alloc ?_ _) | (with_reducible refine Ext.drew ?_) | (with_reducible refine Ext.drewN ?_ _) | (with_reducible refine Ext.setCell ?_ (by simp; try omega) _) | (with_reducible refine Ext.setRow ?_ (by simp; try omega) _))) hxw1
    have lw1 := xw1.size
    go_wp2_with fail
    first | refine fin_ret rfl (fun K hK => ?_) | refine fin_norm rfl (fun K hK => ?_)
    simp [results, Try.results14, go_sem, rsat]
    try go_simp
    refine hK _ ?_
    clear hK K
    exact ⟨rfl, (by repeat (first | (with_reducible exact Ext.refl _) | (with_reducible assumption) | (with_reducible refine Ext.alloc ?_ _) | (with_reducible refine Ext.drew ?_) | (with_reducible refine Ext.drewN ?_ _) | (with_reducible refine Ext.setCell ?_ (by simp; try omega) _) | (with_reducible refine Ext.setRow ?_ (by simp; try omega) _)))⟩
  have e3 := beqI h3
  by_cases h4 : k = 4
  · subst h4
    go_enter Try.func14, Try.ntmps14
    go_wp2_with fail
    refine (raw_nil _ _).mono ?_
    rintro e w1 ⟨rfl, hxw1⟩
    have xw1 : Ext w w1 := Ext.trans (by repeat (first | (with_reducible exact Ext.refl _) | (with_reducible assumption) | (with_reducible refine Ext.alloc ?_ _) | (with_reducible refine Ext.drew ?_) | (with_reducible refine Ext.drewN ?_ _) | (with_reducible refine Ext.setCell ?_ (by simp; try omega) _) | (with_reducible refine Ext.setRow ?_ (by simp; try omega) _))) hxw1
    have lw1 := xw1.size
    go_wp2_with fail
    first | refine fin_ret rfl (fun K hK => ?_) | refine fin_norm rfl (fun K hK => ?_)
    simp [results, Try.results14, go_sem, rsat]
    try go_simp
    refine hK _ ?_
    clear hK K
    exact ⟨rfl, (by repeat (first | (with_reducible exact Ext.refl _) | (with_reducible assumption) | (with_reducible refine Ext.alloc ?_ _) | (with_reducible refine Ext.drew ?_) | (with_reducible refine Ext.drewN ?_ _) | (with_reducible refine Ext.setCell ?_ (by simp; try omega) _) | (with_reducible refine Ext.setRow ?_ (by simp; try omega) _)))⟩
  · have e4 := beqI h4
    go_enter Try.func14, Try.ntmps14
    go_wp2_with fail
    first | refine fin_ret rfl (fun K hK => ?_) | refine fin_norm rfl (fun K hK => ?_)
    simp [results, Try.results14, go_sem, rsat]
    try go_simp
    refine hK _ ?_
    clear hK K
    exact ⟨rfl, (by repeat (first | (with_reducible exact Ext.refl _) | (with_reducible assumption) | (with_reducible refine Ext.alloc ?_ _) | (with_reducible refine Ext.drew ?_) | (with_reducible refine Ext.drewN ?_ _) | (with_reducible refine Ext.setCell ?_ (by simp; try omega) _) | (with_reducible refine Ext.setRow ?_ (by simp; try omega) _)))⟩
/-- What a reader tells of one thing. -/
def gotR (k z : Int) (bs : List Int) (f : Int) : Nat × Int × List Int × List Int × Int :=
  if k = 1 then (if 1 ≤ z ∧ z ≤ 8 then ((uintR bs f z.toNat).1, 0, [], (uintR bs f z.toNat).2.1, (uintR bs f z.toNat).2.2) else (0, 0, [], bs, f))
  else if k = 2 then (0, backN (uintR bs f 8).1, [], (uintR bs f 8).2.1, (uintR bs f 8).2.2)
  else if k = 3 then ((numR bs f).1, 0, [], (numR bs f).2.1, (numR bs f).2.2)
  else if k = 4 then (if z < 0 then (0, 0, [], bs, f) else (0, 0, (rawR bs f z.toNat).1, (rawR bs f z.toNat).2.1, (rawR bs f z.toNat).2.2))
  else (0, 0, [], bs, f)
theorem Reads.extL {w w0 w1 : World} {g : Nat} {A A1 : Option Addr} {bs : List Int} {f : Int} (hx : Ext w w0) (h : Reads w0 g A bs f w1 A1) : Reads w g A bs f w1 A1 := ⟨h.rd, h.blk, (Chg.of_ext hx _).trans h.chg⟩
theorem Reads.setRow {w w1 : World} {g : Nat} {A A1 : Option Addr} {bs bs0 : List Int} {f f0 : Int} (h : Reads w g A bs f w1 A1) (h0 : Rdr w g A bs0 f0) (hg : g < w.heap.size) {p : Nat} (hp : w.heap.size ≤ p) (cs : Array Value) : Reads w g A bs f (w1.setRow p cs) A1 :=
  ⟨h.rd.chg ((Chg.refl w1 [p]).setRow (.inl (by simp)) cs) (by simp; omega) (fun k hk => by rw [h.blk] at hk; have := (h0.alt k hk).1; simp; omega), h.blk, h.chg.setRow (.inr hp) cs⟩
set_option maxHeartbeats 1000000 in
set_option maxRecDepth 100000 in
theorem gotp_c (g : Nat) (A : Option Addr) (bs : List Int) (f : Int) (k z n s : Int) (B : Option Addr) (m c : Nat) (hz : I64 z) (w : World) (h : Rdr w g A bs f) (hl : bs.length ≤ 1000000000) :
    Calls Try.prog 17 #[.pointer (some ⟨g, 0, none⟩), .agg #[.int .i64 k, .int .i64 z, .int .u64 n, .int .i64 s, .slice B m c]] w fun e w' => (∃ v, e = .returned (.agg #[.int .u64 ((gotR k z bs f).1 : Nat), .int .i64 (gotR k z bs f).2.1, v, .int .i64 0, .int .i64 0]) ∧ Bts w' v (gotR k z bs f).2.2.1) ∧ ∃ A', Reads w g A (gotR k z bs f).2.2.2.1 (gotR k z bs f).2.2.2.2 w' A' := by
  unfold gotR
  obtain ⟨w0, hw0⟩ : ∃ w0 : World, w0 = (w.alloc (.cells #[.int .i64 k, .int .i64 z, .int .u64 n, .int .i64 s, .slice B m c] 37)).alloc (.cells #[.int .u64 0, .int .i64 0, .slice none 0 0, .int .i64 0, .int .i64 0] 43) := ⟨_, rfl⟩
  have x0 : Ext w w0 := by rw [hw0]; exact (by repeat (first | (with_reducible exact Ext.refl _) | (with_reducible assumption) | (with_reducible refine Ext.alloc ?_ _) | (with_reducible refine Ext.drew ?_) | (with_reducible refine Ext.drewN ?_ _) | (with_reducible refine Ext.setCell ?_ (by simp; try omega) _) | (with_reducible refine Ext.setRow ?_ (by simp; try omega) _)))
  have h0 := h.ext x0
  have HR : At w0 (w.heap.size + 1) 43 #[.int .u64 0, .int .i64 0, .slice none 0 0, .int .i64 0, .int .i64 0] := by rw [hw0]; exact (by repeat (first | (with_reducible exact At.new _ _ _) | ((with_reducible refine At.new' _ _ _ _ ?_); simp; done) | (with_reducible assumption) | (with_reducible refine At.drew ?_) | (with_reducible refine At.alloc ?_ _) | (with_reducible apply At.upd) | (with_reducible apply At.setRow) | (with_reducible refine At.rowFar ?_ (by first | (simp; done) | (simp; omega) | omega) _) | ((with_reducible refine At.far ?_ (by first | (simp; done) | (simp; omega) | omega) _)) | (with_reducible rfl) | (simp; done)))
  have hg : g < w.heap.size := by obtain ⟨_, _, c, hA, _⟩ := h; exact hA.lt
  have HW0 := Lib.hid hw0
  clear hw0
  by_cases h1 : k = 1
  · subst h1
    simp only [if_true]
    by_cases hzz : 1 ≤ z ∧ z ≤ 8
    · simp only [hzz, and_self, if_true]
      obtain ⟨t, rfl⟩ : ∃ t : Nat, z = (t : Int) := ⟨z.toNat, by omega⟩
      rw [Int.toNat_natCast]
      have C := rduint_c g A bs f t (by omega) w0 h0
      go_enter Try.func17, Try.ntmps17
      go_wp2_with fail
      rw [← HW0.out]
      refine C.mono ?_
      rintro e w1 ⟨rfl, A1, hR⟩
      have HR1 := hR.chg.at HR (by simp; omega)
      have s1 := HR1.lt
      have e1 := cellsAt_at HR1
      have x1 := hR.extL x0
      go_wp2_with fail
      first | refine fin_ret rfl (fun K hK => ?_) | refine fin_norm rfl (fun K hK => ?_)
      simp [results, Try.results17, go_sem, rsat]
      try go_simp
      refine hK _ ?_
      clear hK K
      exact ⟨⟨_, rfl, Bts.nil _⟩, A1, x1.setRow h hg (by omega) _⟩
    · simp only [hzz, if_false]
      have C := ruint_bad g z (by omega) w0
      go_enter Try.func17, Try.ntmps17
      go_wp2_with fail
      rw [← HW0.out]
      refine C.mono ?_
      rintro e w1 ⟨rfl, hx1⟩
      have HR1 := HR.ext hx1
      have s1 := HR1.lt
      have e1 := cellsAt_at HR1
      have x1 := (Reads.refl h).extR (x0.trans hx1)
      go_wp2_with fail
      first | refine fin_ret rfl (fun K hK => ?_) | refine fin_norm rfl (fun K hK => ?_)
      simp [results, Try.results17, go_sem, rsat]
      try go_simp
      refine hK _ ?_
      clear hK K
      exact ⟨⟨_, rfl, Bts.nil _⟩, A, x1.setRow h hg (by omega) _⟩
  have e1 := beqI h1
  simp only [h1, if_false]
  by_cases h2 : k = 2
  · subst h2
    simp only [if_true]
    have C := rdint_c g A bs f w0 h0
    go_enter Try.func17, Try.ntmps17
    go_wp2_with fail
    rw [← HW0.out]
    refine C.mono ?_
    rintro e w1 ⟨rfl, A1, hR⟩
    have HR1 := hR.chg.at HR (by simp; omega)
    have s1 := HR1.lt
    have e1 := cellsAt_at HR1
    have x1 := hR.extL x0
    go_wp2_with fail
    first | refine fin_ret rfl (fun K hK => ?_) | refine fin_norm rfl (fun K hK => ?_)
    simp [results, Try.results17, go_sem, rsat]
    try go_simp
    refine hK _ ?_
    clear hK K
    exact ⟨⟨_, rfl, Bts.nil _⟩, A1, x1.setRow h hg (by omega) _⟩
  have e2 := beqI h2
  simp only [h2, if_false]
  by_cases h3 : k = 3
  · subst h3
    simp only [if_true]
    have C := rdnum_c g A bs f w0 h0
    go_enter Try.func17, Try.ntmps17
    go_wp2_with fail
    rw [← HW0.out]
    refine C.mono ?_
    rintro e w1 ⟨rfl, A1, hR⟩
    have HR1 := hR.chg.at HR (by simp; omega)
    have s1 := HR1.lt
    have e1 := cellsAt_at HR1
    have x1 := hR.extL x0
    go_wp2_with fail
    first | refine fin_ret rfl (fun K hK => ?_) | refine fin_norm rfl (fun K hK => ?_)
    simp [results, Try.results17, go_sem, rsat]
    try go_simp
    refine hK _ ?_
    clear hK K
    exact ⟨⟨_, rfl, Bts.nil _⟩, A1, x1.setRow h hg (by omega) _⟩
  have e3 := beqI h3
  simp only [h3, if_false]
  by_cases h4 : k = 4
  · subst h4
    simp only [if_true]
    by_cases hzz : z < 0
    · simp only [hzz, if_true]
      have C := rdraw_neg (some ⟨g, 0, none⟩) z hzz w0
      go_enter Try.func17, Try.ntmps17
      go_wp2_with fail
      rw [← HW0.out]
      refine C.mono ?_
      rintro e w1 ⟨rfl, hx1⟩
      have HR1 := HR.ext hx1
      have s1 := HR1.lt
      have e1 := cellsAt_at HR1
      have x1 := (Reads.refl h).extR (x0.trans hx1)
      go_wp2_with fail
      first | refine fin_ret rfl (fun K hK => ?_) | refine fin_norm rfl (fun K hK => ?_)
      simp [results, Try.results17, go_sem, rsat]
      try go_simp
      refine hK _ ?_
      clear hK K
      exact ⟨⟨_, rfl, Bts.nil _⟩, A, x1.setRow h hg (by omega) _⟩
    · simp only [hzz, if_false]
      obtain ⟨t, rfl⟩ : ∃ t : Nat, z = (t : Int) := ⟨z.toNat, by omega⟩
      rw [Int.toNat_natCast]
      have C := rdraw_c g A bs f t w0 h0 hl
      go_enter Try.func17, Try.ntmps17
      go_wp2_with fail
      rw [← HW0.out]
      refine C.mono ?_
      rintro e w1 ⟨⟨v, rfl, Ar, cr, rfl, Rr, Fr⟩, A1, hR⟩
      have HR1 := hR.chg.at HR (by simp; omega)
      have s1 := HR1.lt
      have e1 := cellsAt_at HR1
      have x1 := hR.extL x0
      have s0 := HR.lt
      go_wp2_with fail
      first | refine fin_ret rfl (fun K hK => ?_) | refine fin_norm rfl (fun K hK => ?_)
      simp [results, Try.results17, go_sem, rsat]
      try go_simp
      refine hK _ ?_
      clear hK K
      exact ⟨⟨_, rfl, (Own.chg (⟨Ar, cr, rfl, Rr, Fr⟩ : Own w0 w1 _ _) ((Chg.refl w1 [w.heap.size + 1]).setRow (.inl (by simp)) _) (fun k hk => by simp at hk; omega)).bts⟩, A1, x1.setRow h hg (by omega) _⟩
  have e4 := beqI h4
  simp only [h4, if_false]
  clear HR HW0
  go_enter Try.func17, Try.ntmps17
  go_wp2_with fail
  first | refine fin_ret rfl (fun K hK => ?_) | refine fin_norm rfl (fun K hK => ?_)
  simp [results, Try.results17, go_sem, rsat]
  try go_simp
  refine hK _ ?_
  clear hK K
  exact ⟨⟨_, rfl, Bts.nil _⟩, A, (Reads.refl h).extR (by repeat (first | (with_reducible exact Ext.refl _) | (with_reducible assumption) | (with_reducible refine Ext.alloc ?_ _) | (with_reducible refine Ext.drew ?_) | (with_reducible refine Ext.drewN ?_ _) | (with_reducible refine Ext.setCell ?_ (by simp; try omega) _) | (with_reducible refine Ext.setRow ?_ (by simp; try omega) _)))⟩
set_option maxHeartbeats 1000000 in
set_option maxRecDepth 100000 in
theorem gotp_nil (k z n s : Int) (B : Option Addr) (m c : Nat) (w : World) :
    Calls Try.prog 17 #[.pointer none, .agg #[.int .i64 k, .int .i64 z, .int .u64 n, .int .i64 s, .slice B m c]] w fun e w' => Ext w w' ∧ ∃ v, e = .returned (.agg #[.int .u64 0, .int .i64 0, v, .int .i64 0, .int .i64 0]) ∧ Bts w' v [] := by
  by_cases h1 : k = 1
  · subst h1
    go_enter Try.func17, Try.ntmps17
    go_wp2_with fail
    refine (rduint_nil _ _).mono ?_
    rintro e w1 ⟨rfl, hxw1⟩
    have R_w1 := At.ext (g := w.heap.size + 1) (t := 43) (cs := #[.int .u64 0, .int .i64 0, .slice none 0 0, .int .i64 0, .int .i64 0]) (by repeat (first | (with_reducible exact At.new _ _ _) | ((with_reducible refine At.new' _ _ _ _ ?_); simp; done) | (with_reducible assumption) | (with_reducible refine At.drew ?_) | (with_reducible refine At.alloc ?_ _) | (with_reducible apply At.upd) | (with_reducible apply At.setRow) | (with_reducible refine At.rowFar ?_ (by first | (simp; done) | (simp; omega) | omega) _) | ((with_reducible refine At.far ?_ (by first | (simp; done) | (simp; omega) | omega) _)) | (with_reducible rfl) | (simp; done))) hxw1
    have xw1 : Ext w w1 := Ext.trans (by repeat (first | (with_reducible exact Ext.refl _) | (with_reducible assumption) | (with_reducible refine Ext.alloc ?_ _) | (with_reducible refine Ext.drew ?_) | (with_reducible refine Ext.drewN ?_ _) | (with_reducible refine Ext.setCell ?_ (by simp; try omega) _) | (with_reducible refine Ext.setRow ?_ (by simp; try omega) _))) hxw1
    clear hxw1
    have s_R_w1 := R_w1.lt
    have e_R_w1 := cellsAt_at R_w1
    go_wp2_with fail
    first | refine fin_ret rfl (fun K hK => ?_) | refine fin_norm rfl (fun K hK => ?_)
    simp [results, Try.results17, go_sem, rsat]
    try go_simp
    refine hK _ ?_
    clear hK K
    exact ⟨(by repeat (first | (with_reducible exact Ext.refl _) | (with_reducible assumption) | (with_reducible refine Ext.alloc ?_ _) | (with_reducible refine Ext.drew ?_) | (with_reducible refine Ext.drewN ?_ _) | (with_reducible refine Ext.setCell ?_ (by simp; try omega) _) | (with_reducible refine Ext.setRow ?_ (by simp; try omega) _))), _, rfl, Bts.nil _⟩
  have e1 := beqI h1
  by_cases h2 : k = 2
  · subst h2
    go_enter Try.func17, Try.ntmps17
    go_wp2_with fail
    refine (rdint_nil _).mono ?_
    rintro e w1 ⟨rfl, hxw1⟩
    have R_w1 := At.ext (g := w.heap.size + 1) (t := 43) (cs := #[.int .u64 0, .int .i64 0, .slice none 0 0, .int .i64 0, .int .i64 0]) (by repeat (first | (with_reducible exact At.new _ _ _) | ((with_reducible refine At.new' _ _ _ _ ?_); simp; done) | (with_reducible assumption) | (with_reducible refine At.drew ?_) | (with_reducible refine At.alloc ?_ _) | (with_reducible apply At.upd) | (with_reducible apply At.setRow) | (with_reducible refine At.rowFar ?_ (by first | (simp; done) | (simp; omega) | omega) _) | ((with_reducible refine At.far ?_ (by first | (simp; done) | (simp; omega) | omega) _)) | (with_reducible rfl) | (simp; done))) hxw1
    have xw1 : Ext w w1 := Ext.trans (by repeat (first | (with_reducible exact Ext.refl _) | (with_reducible assumption) | (with_reducible refine Ext.alloc ?_ _) | (with_reducible refine Ext.drew ?_) | (with_reducible refine Ext.drewN ?_ _) | (with_reducible refine Ext.setCell ?_ (by simp; try omega) _) | (with_reducible refine Ext.setRow ?_ (by simp; try omega) _))) hxw1
    clear hxw1
    have s_R_w1 := R_w1.lt
    have e_R_w1 := cellsAt_at R_w1
    go_wp2_with fail
    first | refine fin_ret rfl (fun K hK => ?_) | refine fin_norm rfl (fun K hK => ?_)
    simp [results, Try.results17, go_sem, rsat]
    try go_simp
    refine hK _ ?_
    clear hK K
    exact ⟨(by repeat (first | (with_reducible exact Ext.refl _) | (with_reducible assumption) | (with_reducible refine Ext.alloc ?_ _) | (with_reducible refine Ext.drew ?_) | (with_reducible refine Ext.drewN ?_ _) | (with_reducible refine Ext.setCell ?_ (by simp; try omega) _) | (with_reducible refine Ext.setRow ?_ (by simp; try omega) _))), _, rfl, Bts.nil _⟩
  have e2 := beqI h2
  by_cases h3 : k = 3
  · subst h3
    go_enter Try.func17, Try.ntmps17
    go_wp2_with fail
    refine (rdnum_nil _).mono ?_
    rintro e w1 ⟨rfl, hxw1⟩
    have R_w1 := At.ext (g := w.heap.size + 1) (t := 43) (cs := #[.int .u64 0, .int .i64 0, .slice none 0 0, .int .i64 0, .int .i64 0]) (by repeat (first | (with_reducible exact At.new _ _ _) | ((with_reducible refine At.new' _ _ _ _ ?_); simp; done) | (with_reducible assumption) | (with_reducible refine At.drew ?_) | (with_reducible refine At.alloc ?_ _) | (with_reducible apply At.upd) | (with_reducible apply At.setRow) | (with_reducible refine At.rowFar ?_ (by first | (simp; done) | (simp; omega) | omega) _) | ((with_reducible refine At.far ?_ (by first | (simp; done) | (simp; omega) | omega) _)) | (with_reducible rfl) | (simp; done))) hxw1
    have xw1 : Ext w w1 := Ext.trans (by repeat (first | (with_reducible exact Ext.refl _) | (with_reducible assumption) | (with_reducible refine Ext.alloc ?_ _) | (with_reducible refine Ext.drew ?_) | (with_reducible refine Ext.drewN ?_ _) | (with_reducible refine Ext.setCell ?_ (by simp; try omega) _) | (with_reducible refine Ext.setRow ?_ (by simp; try omega) _))) hxw1
    clear hxw1
    have s_R_w1 := R_w1.lt
    have e_R_w1 := cellsAt_at R_w1
    go_wp2_with fail
    first | refine fin_ret rfl (fun K hK => ?_) | refine fin_norm rfl (fun K hK => ?_)
    simp [results, Try.results17, go_sem, rsat]
    try go_simp
    refine hK _ ?_
    clear hK K
    exact ⟨(by repeat (first | (with_reducible exact Ext.refl _) | (with_reducible assumption) | (with_reducible refine Ext.alloc ?_ _) | (with_reducible refine Ext.drew ?_) | (with_reducible refine Ext.drewN ?_ _) | (with_reducible refine Ext.setCell ?_ (by simp; try omega) _) | (with_reducible refine Ext.setRow ?_ (by simp; try omega) _))), _, rfl, Bts.nil _⟩
  have e3 := beqI h3
  by_cases h4 : k = 4
  · subst h4
    go_enter Try.func17, Try.ntmps17
    go_wp2_with fail
    obtain ⟨w0, hw0⟩ : ∃ w0 : World, w0 = (w.alloc (.cells #[.int .i64 4, .int .i64 z, .int .u64 n, .int .i64 s, .slice B m c] 37)).alloc (.cells #[.int .u64 0, .int .i64 0, .slice none 0 0, .int .i64 0, .int .i64 0] 43) := ⟨_, rfl⟩
    have x0 : Ext w w0 := by rw [hw0]; exact (by repeat (first | (with_reducible exact Ext.refl _) | (with_reducible assumption) | (with_reducible refine Ext.alloc ?_ _) | (with_reducible refine Ext.drew ?_) | (with_reducible refine Ext.drewN ?_ _) | (with_reducible refine Ext.setCell ?_ (by simp; try omega) _) | (with_reducible refine Ext.setRow ?_ (by simp; try omega) _)))
    have HR : At w0 (w.heap.size + 1) 43 #[.int .u64 0, .int .i64 0, .slice none 0 0, .int .i64 0, .int .i64 0] := by rw [hw0]; exact (by repeat (first | (with_reducible exact At.new _ _ _) | ((with_reducible refine At.new' _ _ _ _ ?_); simp; done) | (with_reducible assumption) | (with_reducible refine At.drew ?_) | (with_reducible refine At.alloc ?_ _) | (with_reducible apply At.upd) | (with_reducible apply At.setRow) | (with_reducible refine At.rowFar ?_ (by first | (simp; done) | (simp; omega) | omega) _) | ((with_reducible refine At.far ?_ (by first | (simp; done) | (simp; omega) | omega) _)) | (with_reducible rfl) | (simp; done)))
    rw [← hw0]
    clear hw0
    refine (rdraw_nil z _).mono ?_
    rintro e w1 ⟨hx1, v, rfl, Ar, cr, rfl, Rr, Fr⟩
    have HR1 := HR.ext hx1
    have s0 := HR.lt
    have s1 := HR1.lt
    have e1 := cellsAt_at HR1
    go_wp2_with fail
    first | refine fin_ret rfl (fun K hK => ?_) | refine fin_norm rfl (fun K hK => ?_)
    simp [results, Try.results17, go_sem, rsat]
    try go_simp
    refine hK _ ?_
    clear hK K
    exact ⟨(x0.trans hx1).setRow (by omega) _, _, rfl, (Own.chg (⟨Ar, cr, rfl, Rr, Fr⟩ : Own w0 w1 _ _) ((Chg.refl w1 [w.heap.size + 1]).setRow (.inl (by simp)) _) (fun k hk => by simp at hk; omega)).bts⟩
  have e4 := beqI h4
  go_enter Try.func17, Try.ntmps17
  go_wp2_with fail
  first | refine fin_ret rfl (fun K hK => ?_) | refine fin_norm rfl (fun K hK => ?_)
  simp [results, Try.results17, go_sem, rsat]
  try go_simp
  refine hK _ ?_
  clear hK K
  exact ⟨(by repeat (first | (with_reducible exact Ext.refl _) | (with_reducible assumption) | (with_reducible refine Ext.alloc ?_ _) | (with_reducible refine Ext.drew ?_) | (with_reducible refine Ext.drewN ?_ _) | (with_reducible refine Ext.setCell ?_ (by simp; try omega) _) | (with_reducible refine Ext.setRow ?_ (by simp; try omega) _))), _, rfl, Bts.nil _⟩
end Go.Proofs.Ytliccefjdieclaa
