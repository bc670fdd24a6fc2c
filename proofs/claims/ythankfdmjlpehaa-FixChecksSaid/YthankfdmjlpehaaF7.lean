/- The walks of the laws of layer 2. No condition. -/
import Derived.Test.YthankfdmjlpehaaF6
namespace Go.Proofs.Ythankfdmjlpehaa
open Go.RowKit
attribute [local go_sem] Later.cell QUpon_value QUpon_enter MUpon_value

theorem alive_lo : lowT 1000 500 7 = .tuple #[.int .i64 952, .bool true] := by rfl
theorem alive_hi : uppT 1000 500 7 = .tuple #[.int .i64 1050, .bool true] := by rfl
theorem alive_c (w : World) : Calls Try.prog 11 #[] w fun e w' => e = .returned (.bool true) ∧ Ext w w' := by
  have C1 := lower_c 1000 500 7 ⟨by decide, by decide⟩ ⟨by decide, by decide⟩ ⟨by decide, by decide⟩
  have C2 := upper_c 1000 500 7 ⟨by decide, by decide⟩ ⟨by decide, by decide⟩ ⟨by decide, by decide⟩
  rw [alive_lo] at C1
  rw [alive_hi] at C2
  have HC1 := Lib.hid C1
  have HC2 := Lib.hid C2
  clear C1 C2
  go_enter Try.func11, Try.ntmps11
  go_wp2_with fail
  refine (HC1.out _).mono ?_
  rintro e w1 ⟨rfl, hxw1⟩
  have xw1 : Ext w w1 := Ext.trans (by repeat (first | exact Ext.refl _ | assumption | refine Ext.alloc ?_ _ | refine Ext.drew ?_ | refine Ext.drewN ?_ _ | refine Ext.setCell ?_ (by simp; try omega) _)) hxw1
  go_wp2_with fail
  refine (HC2.out _).mono ?_
  rintro e w2 ⟨rfl, hxw2⟩
  have xw2 : Ext w w2 := Ext.trans (by repeat (first | exact Ext.refl _ | assumption | refine Ext.alloc ?_ _ | refine Ext.drew ?_ | refine Ext.drewN ?_ _ | refine Ext.setCell ?_ (by simp; try omega) _)) hxw2
  go_wp2
  refine fin_ret rfl (fun K hK => ?_)
  simp [results, Try.results11, go_sem, rsat]
  try go_simp
  refine hK _ ?_
  clear hK K
  exact ⟨rfl, (by repeat (first | exact Ext.refl _ | assumption | refine Ext.alloc ?_ _ | refine Ext.drew ?_ | refine Ext.drewN ?_ _ | refine Ext.setCell ?_ (by simp; try omega) _))⟩
set_option maxRecDepth 100000 in
theorem fixdivs_c (a b d : Int) (up : Bool) (ha : I64 a) (hb : I64 b) (hd : I64 d) (w : World) : Calls Try.prog 3 #[.int .i64 a, .int .i64 b, .int .i64 d, .bool up] w fun e w' => e = .returned (.bool true) ∧ Ext w w' := by
  have C1 := md_c a b d up ha hb hd
  have C2 := rmd_c a b d up ha hb hd
  obtain ⟨y, c, hy⟩ := mdI_open a b d up
  rw [hy] at C1 C2
  have HC1 := Lib.hid C1
  have HC2 := Lib.hid C2
  clear C1 C2 hy
  cases c
  all_goals
    go_enter Try.func3, Try.ntmps3
    go_wp2_with fail
    refine (HC1.out _).mono ?_
    rintro e w1 ⟨rfl, hxw1⟩
    have xw1 : Ext w w1 := Ext.trans (by repeat (first | exact Ext.refl _ | assumption | refine Ext.alloc ?_ _ | refine Ext.drew ?_ | refine Ext.drewN ?_ _ | refine Ext.setCell ?_ (by simp; try omega) _)) hxw1
    go_wp2_with fail
    refine (HC2.out _).mono ?_
    rintro e w2 ⟨rfl, hxw2⟩
    have xw2 : Ext w w2 := Ext.trans (by repeat (first | exact Ext.refl _ | assumption | refine Ext.alloc ?_ _ | refine Ext.drew ?_ | refine Ext.drewN ?_ _ | refine Ext.setCell ?_ (by simp; try omega) _)) hxw2
    go_wp2_with fail
    refine (alive_c _).mono ?_
    rintro e w3 ⟨rfl, hxw3⟩
    have xw3 : Ext w w3 := Ext.trans (by repeat (first | exact Ext.refl _ | assumption | refine Ext.alloc ?_ _ | refine Ext.drew ?_ | refine Ext.drewN ?_ _ | refine Ext.setCell ?_ (by simp; try omega) _)) hxw3
    go_wp2
    refine fin_ret rfl (fun K hK => ?_)
    simp [results, Try.results3, go_sem, rsat]
    try go_simp
    refine hK _ ?_
    clear hK K
    exact ⟨rfl, (by repeat (first | exact Ext.refl _ | assumption | refine Ext.alloc ?_ _ | refine Ext.drew ?_ | refine Ext.drewN ?_ _ | refine Ext.setCell ?_ (by simp; try omega) _))⟩
set_option maxRecDepth 100000 in
theorem fixgrids_c (p g : Int) (hp : I64 p) (hg : I64 g) (w : World) : Calls Try.prog 4 #[.int .i64 p, .int .i64 g] w fun e w' => e = .returned (.bool true) ∧ Ext w w' := by
  have C1 := up_c p g hp hg
  have C2 := rup_c p g hp hg
  obtain ⟨y, c, hy⟩ := upI_open p g
  rw [hy] at C1 C2
  have HC1 := Lib.hid C1
  have HC2 := Lib.hid C2
  clear C1 C2 hy
  cases c
  all_goals
    go_enter Try.func4, Try.ntmps4
    go_wp2_with fail
    refine (HC1.out _).mono ?_
    rintro e w1 ⟨rfl, hxw1⟩
    have xw1 : Ext w w1 := Ext.trans (by repeat (first | exact Ext.refl _ | assumption | refine Ext.alloc ?_ _ | refine Ext.drew ?_ | refine Ext.drewN ?_ _ | refine Ext.setCell ?_ (by simp; try omega) _)) hxw1
    go_wp2_with fail
    refine (HC2.out _).mono ?_
    rintro e w2 ⟨rfl, hxw2⟩
    have xw2 : Ext w w2 := Ext.trans (by repeat (first | exact Ext.refl _ | assumption | refine Ext.alloc ?_ _ | refine Ext.drew ?_ | refine Ext.drewN ?_ _ | refine Ext.setCell ?_ (by simp; try omega) _)) hxw2
    go_wp2_with fail
    refine (down_c p g hp hg _).mono ?_
    rintro e w3 ⟨rfl, hxw3⟩
    have xw3 : Ext w w3 := Ext.trans (by repeat (first | exact Ext.refl _ | assumption | refine Ext.alloc ?_ _ | refine Ext.drew ?_ | refine Ext.drewN ?_ _ | refine Ext.setCell ?_ (by simp; try omega) _)) hxw3
    go_wp2_with fail
    refine (rdown_c p g hp hg _).mono ?_
    rintro e w4 ⟨rfl, hxw4⟩
    have xw4 : Ext w w4 := Ext.trans (by repeat (first | exact Ext.refl _ | assumption | refine Ext.alloc ?_ _ | refine Ext.drew ?_ | refine Ext.drewN ?_ _ | refine Ext.setCell ?_ (by simp; try omega) _)) hxw4
    go_wp2_with fail
    refine (alive_c _).mono ?_
    rintro e w5 ⟨rfl, hxw5⟩
    have xw5 : Ext w w5 := Ext.trans (by repeat (first | exact Ext.refl _ | assumption | refine Ext.alloc ?_ _ | refine Ext.drew ?_ | refine Ext.drewN ?_ _ | refine Ext.setCell ?_ (by simp; try omega) _)) hxw5
    go_wp2
    refine fin_ret rfl (fun K hK => ?_)
    simp [results, Try.results4, go_sem, rsat]
    try go_simp
    refine hK _ ?_
    clear hK K
    exact ⟨rfl, (by repeat (first | exact Ext.refl _ | assumption | refine Ext.alloc ?_ _ | refine Ext.drew ?_ | refine Ext.drewN ?_ _ | refine Ext.setCell ?_ (by simp; try omega) _))⟩
theorem lowT_open (r b g : Int) : ∃ y c, lowT r b g = .tuple #[.int .i64 y, .bool c] := by unfold lowT; split <;> exact ⟨_, _, rfl⟩
theorem uppT_open (r b g : Int) : ∃ y c, uppT r b g = .tuple #[.int .i64 y, .bool c] := by unfold uppT; split <;> exact ⟨_, _, rfl⟩
set_option maxRecDepth 100000 in
theorem fixbands_c (r b g : Int) (hr : I64 r) (hb : I64 b) (hg : I64 g) (w : World) : Calls Try.prog 5 #[.int .i64 r, .int .i64 b, .int .i64 g] w fun e w' => e = .returned (.bool true) ∧ Ext w w' := by
  have C1 := lower_c r b g hr hb hg
  have C2 := rlower_c r b g hr hb hg
  have C3 := upper_c r b g hr hb hg
  have C4 := rupper_c r b g hr hb hg
  obtain ⟨y, c, hy⟩ := lowT_open r b g
  obtain ⟨z, d, hz⟩ := uppT_open r b g
  rw [hy] at C1 C2
  rw [hz] at C3 C4
  have HC1 := Lib.hid C1
  have HC2 := Lib.hid C2
  have HC3 := Lib.hid C3
  have HC4 := Lib.hid C4
  clear C1 C2 C3 C4 hy hz
  cases c <;> cases d
  all_goals
    go_enter Try.func5, Try.ntmps5
    go_wp2_with fail
    refine (HC1.out _).mono ?_
    rintro e w1 ⟨rfl, hxw1⟩
    have xw1 : Ext w w1 := Ext.trans (by repeat (first | exact Ext.refl _ | assumption | refine Ext.alloc ?_ _ | refine Ext.drew ?_ | refine Ext.drewN ?_ _ | refine Ext.setCell ?_ (by simp; try omega) _)) hxw1
    go_wp2_with fail
    refine (HC2.out _).mono ?_
    rintro e w2 ⟨rfl, hxw2⟩
    have xw2 : Ext w w2 := Ext.trans (by repeat (first | exact Ext.refl _ | assumption | refine Ext.alloc ?_ _ | refine Ext.drew ?_ | refine Ext.drewN ?_ _ | refine Ext.setCell ?_ (by simp; try omega) _)) hxw2
    go_wp2_with fail
    refine (HC3.out _).mono ?_
    rintro e w3 ⟨rfl, hxw3⟩
    have xw3 : Ext w w3 := Ext.trans (by repeat (first | exact Ext.refl _ | assumption | refine Ext.alloc ?_ _ | refine Ext.drew ?_ | refine Ext.drewN ?_ _ | refine Ext.setCell ?_ (by simp; try omega) _)) hxw3
    go_wp2_with fail
    refine (HC4.out _).mono ?_
    rintro e w4 ⟨rfl, hxw4⟩
    have xw4 : Ext w w4 := Ext.trans (by repeat (first | exact Ext.refl _ | assumption | refine Ext.alloc ?_ _ | refine Ext.drew ?_ | refine Ext.drewN ?_ _ | refine Ext.setCell ?_ (by simp; try omega) _)) hxw4
    go_wp2_with fail
    refine (alive_c _).mono ?_
    rintro e w5 ⟨rfl, hxw5⟩
    have xw5 : Ext w w5 := Ext.trans (by repeat (first | exact Ext.refl _ | assumption | refine Ext.alloc ?_ _ | refine Ext.drew ?_ | refine Ext.drewN ?_ _ | refine Ext.setCell ?_ (by simp; try omega) _)) hxw5
    go_wp2
    refine fin_ret rfl (fun K hK => ?_)
    simp [results, Try.results5, go_sem, rsat]
    try go_simp
    refine hK _ ?_
    clear hK K
    exact ⟨rfl, (by repeat (first | exact Ext.refl _ | assumption | refine Ext.alloc ?_ _ | refine Ext.drew ?_ | refine Ext.drewN ?_ _ | refine Ext.setCell ?_ (by simp; try omega) _))⟩
set_option maxRecDepth 100000 in
theorem fixsums_c (a b : Int) (ha : I64 a) (hb : I64 b) (w : World) : Calls Try.prog 7 #[.int .i64 a, .int .i64 b] w fun e w' => e = .returned (.bool true) ∧ Ext w w' := by
  have C1 := fadd_c a b ha hb
  have C2 := fsub_c a b ha hb
  have C3 := fmul_c a b ha hb
  have C4 := rfadd_c a b ha hb
  have C5 := rfsub_c a b ha hb
  have C6 := rfmul_c a b ha hb
  obtain ⟨x, c, hx⟩ := chk64_open (a + b)
  obtain ⟨y, d, hy⟩ := chk64_open (a - b)
  obtain ⟨z, f, hz⟩ := chk64_open (a * b)
  rw [hx] at C1 C4
  rw [hy] at C2 C5
  rw [hz] at C3 C6
  have HC1 := Lib.hid C1
  have HC2 := Lib.hid C2
  have HC3 := Lib.hid C3
  have HC4 := Lib.hid C4
  have HC5 := Lib.hid C5
  have HC6 := Lib.hid C6
  clear C1 C2 C3 C4 C5 C6 hx hy hz
  go_enter Try.func7, Try.ntmps7
  go_wp2_with fail
  refine (HC1.out _).mono ?_
  rintro e w1 ⟨rfl, hxw1⟩
  have xw1 : Ext w w1 := Ext.trans (by repeat (first | exact Ext.refl _ | assumption | refine Ext.alloc ?_ _ | refine Ext.drew ?_ | refine Ext.drewN ?_ _ | refine Ext.setCell ?_ (by simp; try omega) _)) hxw1
  go_wp2_with fail
  refine (HC2.out _).mono ?_
  rintro e w2 ⟨rfl, hxw2⟩
  have xw2 : Ext w w2 := Ext.trans (by repeat (first | exact Ext.refl _ | assumption | refine Ext.alloc ?_ _ | refine Ext.drew ?_ | refine Ext.drewN ?_ _ | refine Ext.setCell ?_ (by simp; try omega) _)) hxw2
  go_wp2_with fail
  refine (HC3.out _).mono ?_
  rintro e w3 ⟨rfl, hxw3⟩
  have xw3 : Ext w w3 := Ext.trans (by repeat (first | exact Ext.refl _ | assumption | refine Ext.alloc ?_ _ | refine Ext.drew ?_ | refine Ext.drewN ?_ _ | refine Ext.setCell ?_ (by simp; try omega) _)) hxw3
  go_wp2_with fail
  refine (HC4.out _).mono ?_
  rintro e w4 ⟨rfl, hxw4⟩
  have xw4 : Ext w w4 := Ext.trans (by repeat (first | exact Ext.refl _ | assumption | refine Ext.alloc ?_ _ | refine Ext.drew ?_ | refine Ext.drewN ?_ _ | refine Ext.setCell ?_ (by simp; try omega) _)) hxw4
  go_wp2_with fail
  refine (HC5.out _).mono ?_
  rintro e w5 ⟨rfl, hxw5⟩
  have xw5 : Ext w w5 := Ext.trans (by repeat (first | exact Ext.refl _ | assumption | refine Ext.alloc ?_ _ | refine Ext.drew ?_ | refine Ext.drewN ?_ _ | refine Ext.setCell ?_ (by simp; try omega) _)) hxw5
  go_wp2_with fail
  refine (HC6.out _).mono ?_
  rintro e w6 ⟨rfl, hxw6⟩
  have xw6 : Ext w w6 := Ext.trans (by repeat (first | exact Ext.refl _ | assumption | refine Ext.alloc ?_ _ | refine Ext.drew ?_ | refine Ext.drewN ?_ _ | refine Ext.setCell ?_ (by simp; try omega) _)) hxw6
  go_wp2_with fail
  refine (alive_c _).mono ?_
  rintro e w7 ⟨rfl, hxw7⟩
  have xw7 : Ext w w7 := Ext.trans (by repeat (first | exact Ext.refl _ | assumption | refine Ext.alloc ?_ _ | refine Ext.drew ?_ | refine Ext.drewN ?_ _ | refine Ext.setCell ?_ (by simp; try omega) _)) hxw7
  go_wp2
  refine fin_ret rfl (fun K hK => ?_)
  simp [results, Try.results7, go_sem, rsat]
  try go_simp
  refine hK _ ?_
  clear hK K
  exact ⟨rfl, (by repeat (first | exact Ext.refl _ | assumption | refine Ext.alloc ?_ _ | refine Ext.drew ?_ | refine Ext.drewN ?_ _ | refine Ext.setCell ?_ (by simp; try omega) _))⟩
set_option maxRecDepth 100000 in
theorem fixchecks_c (p q g : Int) (hp : I64 p) (hq : I64 q) (hg : I64 g) (w : World) : Calls Try.prog 8 #[.int .i64 p, .int .i64 q, .int .i64 g] w fun e w' => e = .returned (.bool true) ∧ Ext w w' := by
  have C1 := notional_c p q hp hq
  have C2 := rnotional_c p q hp hq
  obtain ⟨y, c, hy⟩ := notI_open p q
  rw [hy] at C1 C2
  have HC1 := Lib.hid C1
  have HC2 := Lib.hid C2
  clear C1 C2 hy
  go_enter Try.func8, Try.ntmps8
  go_wp2_with fail
  refine (HC1.out _).mono ?_
  rintro e w1 ⟨rfl, hxw1⟩
  have xw1 : Ext w w1 := Ext.trans (by repeat (first | exact Ext.refl _ | assumption | refine Ext.alloc ?_ _ | refine Ext.drew ?_ | refine Ext.drewN ?_ _ | refine Ext.setCell ?_ (by simp; try omega) _)) hxw1
  go_wp2_with fail
  refine (HC2.out _).mono ?_
  rintro e w2 ⟨rfl, hxw2⟩
  have xw2 : Ext w w2 := Ext.trans (by repeat (first | exact Ext.refl _ | assumption | refine Ext.alloc ?_ _ | refine Ext.drew ?_ | refine Ext.drewN ?_ _ | refine Ext.setCell ?_ (by simp; try omega) _)) hxw2
  go_wp2_with fail
  refine (price_c p g hp hg _).mono ?_
  rintro e w3 ⟨rfl, hxw3⟩
  have xw3 : Ext w w3 := Ext.trans (by repeat (first | exact Ext.refl _ | assumption | refine Ext.alloc ?_ _ | refine Ext.drew ?_ | refine Ext.drewN ?_ _ | refine Ext.setCell ?_ (by simp; try omega) _)) hxw3
  go_wp2_with fail
  refine (rprice_c p g hp hg _).mono ?_
  rintro e w4 ⟨rfl, hxw4⟩
  have xw4 : Ext w w4 := Ext.trans (by repeat (first | exact Ext.refl _ | assumption | refine Ext.alloc ?_ _ | refine Ext.drew ?_ | refine Ext.drewN ?_ _ | refine Ext.setCell ?_ (by simp; try omega) _)) hxw4
  go_wp2_with fail
  refine (qty_c q hq _).mono ?_
  rintro e w5 ⟨rfl, hxw5⟩
  have xw5 : Ext w w5 := Ext.trans (by repeat (first | exact Ext.refl _ | assumption | refine Ext.alloc ?_ _ | refine Ext.drew ?_ | refine Ext.drewN ?_ _ | refine Ext.setCell ?_ (by simp; try omega) _)) hxw5
  go_wp2_with fail
  refine (rqty_c q _).mono ?_
  rintro e w6 ⟨rfl, hxw6⟩
  have xw6 : Ext w w6 := Ext.trans (by repeat (first | exact Ext.refl _ | assumption | refine Ext.alloc ?_ _ | refine Ext.drew ?_ | refine Ext.drewN ?_ _ | refine Ext.setCell ?_ (by simp; try omega) _)) hxw6
  go_wp2_with fail
  refine (alive_c _).mono ?_
  rintro e w7 ⟨rfl, hxw7⟩
  have xw7 : Ext w w7 := Ext.trans (by repeat (first | exact Ext.refl _ | assumption | refine Ext.alloc ?_ _ | refine Ext.drew ?_ | refine Ext.drewN ?_ _ | refine Ext.setCell ?_ (by simp; try omega) _)) hxw7
  go_wp2
  refine fin_ret rfl (fun K hK => ?_)
  simp [results, Try.results8, go_sem, rsat]
  try go_simp
  refine hK _ ?_
  clear hK K
  exact ⟨rfl, (by repeat (first | exact Ext.refl _ | assumption | refine Ext.alloc ?_ _ | refine Ext.drew ?_ | refine Ext.drewN ?_ _ | refine Ext.setCell ?_ (by simp; try omega) _))⟩

/-! Bounds on the grid. -/
theorem upN_mul {p g : Int} (h : 0 ≤ p) (hg : 1 ≤ g) : ∃ k, upN p g = k * g := by
  unfold upN
  split
  · rename_i e; exact ⟨p / g, e.symm⟩
  · exact ⟨p / g + 1, by rw [Int.add_mul]; omega⟩
theorem mul_lt_add {k n g : Int} (hg : 1 ≤ g) (h : k * g < n * g + g) : k ≤ n := by
  have e : n * g + g = (n + 1) * g := by rw [Int.add_mul]; omega
  rw [e] at h
  have := Int.lt_of_mul_lt_mul_right h (by omega)
  omega
theorem mul_mono {k n g : Int} (hg : 1 ≤ g) (h : k ≤ n) : k * g ≤ n * g := Int.mul_le_mul_of_nonneg_right h (by omega)
theorem upN_le {p n g : Int} (h : 0 ≤ p) (hg : 1 ≤ g) (hp : p ≤ n * g) : upN p g ≤ n * g := by
  obtain ⟨k, hk⟩ := upN_mul h hg
  have := (upN_bd h hg).2
  rw [hk] at this ⊢
  exact mul_mono hg (mul_lt_add hg (by omega))
theorem upN_mono {p q g : Int} (h : 0 ≤ p) (hg : 1 ≤ g) (hp : p ≤ q) : upN p g ≤ upN q g := by
  obtain ⟨k, hk⟩ := upN_mul (p := q) (by omega) hg
  have := (upN_bd (p := q) (by omega) hg).1
  rw [hk] at this ⊢
  exact upN_le h hg (by omega)
theorem down_ge {p n g : Int} (h : 0 ≤ p) (hg : 1 ≤ g) (hp : n * g ≤ p) : n * g ≤ p / g * g := by
  obtain ⟨h1, h2, h3⟩ := downI_le h hg
  exact mul_mono hg (mul_lt_add hg (by omega))
theorem down_mono {p q g : Int} (h : 0 ≤ p) (hg : 1 ≤ g) (hp : p ≤ q) : p / g * g ≤ q / g * g := mul_mono hg (Int.ediv_le_ediv (by omega) hp)
theorem lo_mono {r b m : Int} (hr : 1 ≤ r) (hb : b ≤ m) : loI r m ≤ loI r b := by
  unfold loI
  have : r * (10000 - m) ≤ r * (10000 - b) := Int.mul_le_mul_of_nonneg_left (by omega) (by omega)
  omega
theorem hi_mono {r b m : Int} (hr : 1 ≤ r) (hb : b ≤ m) : hiI r b ≤ hiI r m := by
  unfold hiI
  have : r * (10000 + b) ≤ r * (10000 + m) := Int.mul_le_mul_of_nonneg_left (by omega) (by omega)
  omega
theorem around_facts (n g b m : Int) (hg : 1 ≤ g) (hg2 : g ≤ 1048576) (hn : 1 ≤ n) (hn2 : n ≤ 1048576) (hb : 0 ≤ b) (hm : b ≤ m) (hm2 : m ≤ 9999) :
    ∃ a u c d : Int, (1 ≤ n * g ∧ n * g ≤ 1099511627776) ∧ lowT (n * g) b g = .tuple #[.int .i64 a, .bool true] ∧ uppT (n * g) b g = .tuple #[.int .i64 u, .bool true] ∧ lowT (n * g) m g = .tuple #[.int .i64 c, .bool true] ∧ uppT (n * g) m g = .tuple #[.int .i64 d, .bool true] ∧
      c ≤ a ∧ a ≤ n * g ∧ n * g ≤ u ∧ u ≤ d ∧ a % g = 0 ∧ u % g = 0 ∧ 0 < c ∧ priceI a g = 0 := by
  have e1 : n * g ≤ n * 1048576 := Int.mul_le_mul_of_nonneg_left hg2 (by omega)
  have e2 : n * 1 ≤ n * g := Int.mul_le_mul_of_nonneg_left hg (by omega)
  have o1 : arOk (n * g) b g := ⟨⟨by omega, by omega⟩, ⟨by omega, by omega⟩, ⟨by omega, by omega⟩⟩
  have o2 : arOk (n * g) m g := ⟨⟨by omega, by omega⟩, ⟨by omega, by omega⟩, ⟨by omega, by omega⟩⟩
  obtain ⟨l1, l2⟩ := loI_bd o1
  obtain ⟨l3, l4⟩ := loI_bd o2
  obtain ⟨u1, u2⟩ := hiI_bd o1
  have u3 := hi_mono (r := n * g) (by omega) hm
  have l5 := lo_mono (r := n * g) (by omega) hm
  have ha := upN_le (p := loI (n * g) b) (by omega) hg l2
  obtain ⟨k, hk⟩ := upN_mul (p := loI (n * g) b) (by omega) hg
  have b1 := upN_bd (p := loI (n * g) b) (by omega) hg
  have b2 := upN_bd (p := loI (n * g) m) (by omega) hg
  refine ⟨_, _, _, _, ⟨by omega, by omega⟩, if_pos o1, if_pos o1, if_pos o2, if_pos o2, upN_mono (by omega) hg l5, ha, down_ge (by omega) hg u1, down_mono (by omega) hg u3, ?_, Int.mul_emod_left _ _, by omega, ?_⟩
  · rw [hk]; exact Int.mul_emod_left _ _
  · unfold priceI
    rw [if_neg (by omega), if_neg (by omega), if_pos]
    rw [hk, Int.mul_ediv_cancel _ (by omega)]
set_option maxRecDepth 100000 in
set_option maxHeartbeats 800000 in
theorem fixaround_in (n g b m : Int) (hg : 1 ≤ g) (hg2 : g ≤ 1048576) (hn : 1 ≤ n) (hn2 : n ≤ 1048576) (hb : 0 ≤ b) (hm : b ≤ m) (hm2 : m ≤ 9999) (w : World) :
    Calls Try.prog 6 #[.int .i64 n, .int .i64 g, .int .i64 b, .int .i64 m] w fun e w' => e = .returned (.bool true) ∧ Ext w w' := by
  obtain ⟨a, u, c, d, ⟨hr1, hr2⟩, h1, h2, h3, h4, f1, f2, f3, f4, f5, f6, f7, f8⟩ := around_facts n g b m hg hg2 hn hn2 hb hm hm2
  have ir : I64 (n * g) := ⟨by omega, by omega⟩
  have ig : I64 g := ⟨by omega, by omega⟩
  have C1 := lower_c (n * g) b g ir ⟨by omega, by omega⟩ ig
  have C2 := upper_c (n * g) b g ir ⟨by omega, by omega⟩ ig
  have C3 := lower_c (n * g) m g ir ⟨by omega, by omega⟩ ig
  have C4 := upper_c (n * g) m g ir ⟨by omega, by omega⟩ ig
  have C5 := price_c a g ⟨by omega, by omega⟩ ig
  rw [h1] at C1
  rw [h2] at C2
  rw [h3] at C3
  rw [h4] at C4
  rw [f8] at C5
  have HC1 := Lib.hid C1
  have HC2 := Lib.hid C2
  have HC3 := Lib.hid C3
  have HC4 := Lib.hid C4
  have HC5 := Lib.hid C5
  have g1 : (a % g == 0) = true := beq_iff_eq.2 f5
  have g2 : (u % g == 0) = true := beq_iff_eq.2 f6
  clear C1 C2 C3 C4 C5 h1 h2 h3 h4 f5 f6 f8 ir ig
  go_enter Try.func6, Try.ntmps6
  go_wp2_with fail
  refine (HC1.out _).mono ?_
  rintro e w1 ⟨rfl, hxw1⟩
  have xw1 : Ext w w1 := Ext.trans (by repeat (first | exact Ext.refl _ | assumption | refine Ext.alloc ?_ _ | refine Ext.drew ?_ | refine Ext.drewN ?_ _ | refine Ext.setCell ?_ (by simp; try omega) _)) hxw1
  go_wp2_with fail
  refine (HC2.out _).mono ?_
  rintro e w2 ⟨rfl, hxw2⟩
  have xw2 : Ext w w2 := Ext.trans (by repeat (first | exact Ext.refl _ | assumption | refine Ext.alloc ?_ _ | refine Ext.drew ?_ | refine Ext.drewN ?_ _ | refine Ext.setCell ?_ (by simp; try omega) _)) hxw2
  go_wp2_with fail
  refine (HC3.out _).mono ?_
  rintro e w3 ⟨rfl, hxw3⟩
  have xw3 : Ext w w3 := Ext.trans (by repeat (first | exact Ext.refl _ | assumption | refine Ext.alloc ?_ _ | refine Ext.drew ?_ | refine Ext.drewN ?_ _ | refine Ext.setCell ?_ (by simp; try omega) _)) hxw3
  go_wp2_with fail
  refine (HC4.out _).mono ?_
  rintro e w4 ⟨rfl, hxw4⟩
  have xw4 : Ext w w4 := Ext.trans (by repeat (first | exact Ext.refl _ | assumption | refine Ext.alloc ?_ _ | refine Ext.drew ?_ | refine Ext.drewN ?_ _ | refine Ext.setCell ?_ (by simp; try omega) _)) hxw4
  go_wp2_with fail
  refine (HC5.out _).mono ?_
  rintro e w5 ⟨rfl, hxw5⟩
  have xw5 : Ext w w5 := Ext.trans (by repeat (first | exact Ext.refl _ | assumption | refine Ext.alloc ?_ _ | refine Ext.drew ?_ | refine Ext.drewN ?_ _ | refine Ext.setCell ?_ (by simp; try omega) _)) hxw5
  go_wp2_with fail
  refine (alive_c _).mono ?_
  rintro e w6 ⟨rfl, hxw6⟩
  have xw6 : Ext w w6 := Ext.trans (by repeat (first | exact Ext.refl _ | assumption | refine Ext.alloc ?_ _ | refine Ext.drew ?_ | refine Ext.drewN ?_ _ | refine Ext.setCell ?_ (by simp; try omega) _)) hxw6
  go_wp2
  refine fin_ret rfl (fun K hK => ?_)
  simp [results, Try.results6, go_sem, rsat]
  try go_simp
  refine hK _ ?_
  clear hK K
  exact ⟨rfl, (by repeat (first | exact Ext.refl _ | assumption | refine Ext.alloc ?_ _ | refine Ext.drew ?_ | refine Ext.drewN ?_ _ | refine Ext.setCell ?_ (by simp; try omega) _))⟩
set_option maxRecDepth 100000 in
set_option maxHeartbeats 800000 in
theorem fixaround_c (n g b m : Int) (w : World) : Calls Try.prog 6 #[.int .i64 n, .int .i64 g, .int .i64 b, .int .i64 m] w fun e w' => e = .returned (.bool true) ∧ Ext w w' := by
  by_cases h1 : g < 1
  ·
    go_enter Try.func6, Try.ntmps6
    go_wp2_with fail
    refine (alive_c _).mono ?_
    rintro e w1 ⟨rfl, hxw1⟩
    have xw1 : Ext w w1 := Ext.trans (by repeat (first | exact Ext.refl _ | assumption | refine Ext.alloc ?_ _ | refine Ext.drew ?_ | refine Ext.drewN ?_ _ | refine Ext.setCell ?_ (by simp; try omega) _)) hxw1
    go_wp2
    refine fin_ret rfl (fun K hK => ?_)
    simp [results, Try.results6, go_sem, rsat]
    try go_simp
    refine hK _ ?_
    clear hK K
    exact ⟨rfl, (by repeat (first | exact Ext.refl _ | assumption | refine Ext.alloc ?_ _ | refine Ext.drew ?_ | refine Ext.drewN ?_ _ | refine Ext.setCell ?_ (by simp; try omega) _))⟩
  by_cases h2 : 1048576 < g
  ·
    go_enter Try.func6, Try.ntmps6
    go_wp2_with fail
    refine (alive_c _).mono ?_
    rintro e w1 ⟨rfl, hxw1⟩
    have xw1 : Ext w w1 := Ext.trans (by repeat (first | exact Ext.refl _ | assumption | refine Ext.alloc ?_ _ | refine Ext.drew ?_ | refine Ext.drewN ?_ _ | refine Ext.setCell ?_ (by simp; try omega) _)) hxw1
    go_wp2
    refine fin_ret rfl (fun K hK => ?_)
    simp [results, Try.results6, go_sem, rsat]
    try go_simp
    refine hK _ ?_
    clear hK K
    exact ⟨rfl, (by repeat (first | exact Ext.refl _ | assumption | refine Ext.alloc ?_ _ | refine Ext.drew ?_ | refine Ext.drewN ?_ _ | refine Ext.setCell ?_ (by simp; try omega) _))⟩
  by_cases h3 : n < 1
  ·
    go_enter Try.func6, Try.ntmps6
    go_wp2_with fail
    refine (alive_c _).mono ?_
    rintro e w1 ⟨rfl, hxw1⟩
    have xw1 : Ext w w1 := Ext.trans (by repeat (first | exact Ext.refl _ | assumption | refine Ext.alloc ?_ _ | refine Ext.drew ?_ | refine Ext.drewN ?_ _ | refine Ext.setCell ?_ (by simp; try omega) _)) hxw1
    go_wp2
    refine fin_ret rfl (fun K hK => ?_)
    simp [results, Try.results6, go_sem, rsat]
    try go_simp
    refine hK _ ?_
    clear hK K
    exact ⟨rfl, (by repeat (first | exact Ext.refl _ | assumption | refine Ext.alloc ?_ _ | refine Ext.drew ?_ | refine Ext.drewN ?_ _ | refine Ext.setCell ?_ (by simp; try omega) _))⟩
  by_cases h4 : 1048576 < n
  ·
    go_enter Try.func6, Try.ntmps6
    go_wp2_with fail
    refine (alive_c _).mono ?_
    rintro e w1 ⟨rfl, hxw1⟩
    have xw1 : Ext w w1 := Ext.trans (by repeat (first | exact Ext.refl _ | assumption | refine Ext.alloc ?_ _ | refine Ext.drew ?_ | refine Ext.drewN ?_ _ | refine Ext.setCell ?_ (by simp; try omega) _)) hxw1
    go_wp2
    refine fin_ret rfl (fun K hK => ?_)
    simp [results, Try.results6, go_sem, rsat]
    try go_simp
    refine hK _ ?_
    clear hK K
    exact ⟨rfl, (by repeat (first | exact Ext.refl _ | assumption | refine Ext.alloc ?_ _ | refine Ext.drew ?_ | refine Ext.drewN ?_ _ | refine Ext.setCell ?_ (by simp; try omega) _))⟩
  by_cases h5 : b < 0
  ·
    go_enter Try.func6, Try.ntmps6
    go_wp2_with fail
    refine (alive_c _).mono ?_
    rintro e w1 ⟨rfl, hxw1⟩
    have xw1 : Ext w w1 := Ext.trans (by repeat (first | exact Ext.refl _ | assumption | refine Ext.alloc ?_ _ | refine Ext.drew ?_ | refine Ext.drewN ?_ _ | refine Ext.setCell ?_ (by simp; try omega) _)) hxw1
    go_wp2
    refine fin_ret rfl (fun K hK => ?_)
    simp [results, Try.results6, go_sem, rsat]
    try go_simp
    refine hK _ ?_
    clear hK K
    exact ⟨rfl, (by repeat (first | exact Ext.refl _ | assumption | refine Ext.alloc ?_ _ | refine Ext.drew ?_ | refine Ext.drewN ?_ _ | refine Ext.setCell ?_ (by simp; try omega) _))⟩
  by_cases h6 : m < b
  ·
    go_enter Try.func6, Try.ntmps6
    go_wp2_with fail
    refine (alive_c _).mono ?_
    rintro e w1 ⟨rfl, hxw1⟩
    have xw1 : Ext w w1 := Ext.trans (by repeat (first | exact Ext.refl _ | assumption | refine Ext.alloc ?_ _ | refine Ext.drew ?_ | refine Ext.drewN ?_ _ | refine Ext.setCell ?_ (by simp; try omega) _)) hxw1
    go_wp2
    refine fin_ret rfl (fun K hK => ?_)
    simp [results, Try.results6, go_sem, rsat]
    try go_simp
    refine hK _ ?_
    clear hK K
    exact ⟨rfl, (by repeat (first | exact Ext.refl _ | assumption | refine Ext.alloc ?_ _ | refine Ext.drew ?_ | refine Ext.drewN ?_ _ | refine Ext.setCell ?_ (by simp; try omega) _))⟩
  by_cases h7 : 9999 < m
  ·
    go_enter Try.func6, Try.ntmps6
    go_wp2_with fail
    refine (alive_c _).mono ?_
    rintro e w1 ⟨rfl, hxw1⟩
    have xw1 : Ext w w1 := Ext.trans (by repeat (first | exact Ext.refl _ | assumption | refine Ext.alloc ?_ _ | refine Ext.drew ?_ | refine Ext.drewN ?_ _ | refine Ext.setCell ?_ (by simp; try omega) _)) hxw1
    go_wp2
    refine fin_ret rfl (fun K hK => ?_)
    simp [results, Try.results6, go_sem, rsat]
    try go_simp
    refine hK _ ?_
    clear hK K
    exact ⟨rfl, (by repeat (first | exact Ext.refl _ | assumption | refine Ext.alloc ?_ _ | refine Ext.drew ?_ | refine Ext.drewN ?_ _ | refine Ext.setCell ?_ (by simp; try omega) _))⟩
  exact fixaround_in n g b m (by omega) (by omega) (by omega) (by omega) (by omega) (by omega) (by omega) w
end Go.Proofs.Ythankfdmjlpehaa
