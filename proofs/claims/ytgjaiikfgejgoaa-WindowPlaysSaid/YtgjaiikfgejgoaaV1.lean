/- Windows (layer 19): what lies in memory, and the small functions. No condition. -/
import Derived.Test.YtgjaiikfgejgoaaRo
import Derived.Test.YtgjaiikfgejgoaaF3
namespace Go.Proofs.Ytgjaiikfgejgoaa
open Go.RowKit
attribute [local go_sem] Later.cell QUpon_value QUpon_enter MUpon_value

def whi (n : Nat) : Int := ((n / 18446744073709551616 : Nat) : Int)
def wlo (n : Nat) : Int := ((n % 18446744073709551616 : Nat) : Int)
theorem whi_u {n : Nat} (h : n < 340282366920938463463374607431768211456) : U64 (whi n) := U64.div h
theorem wlo_u (n : Nat) : U64 (wlo n) := U64.mod n
theorem X_hl (n : Nat) : X (whi n) (wlo n) = n := X_wide n
theorem wide_hl (n : Nat) : wide n = .agg #[.int .u64 (whi n), .int .u64 (wlo n)] := rfl
theorem mul_v (a b : Int) (ha : U64 a) (hb : U64 b) (w : World) : Calls Try.prog 22 #[.int .u64 a, .int .u64 b] w fun e w' => e = .returned (.agg #[.int .u64 (whi (a.toNat * b.toNat)), .int .u64 (wlo (a.toNat * b.toNat))]) ∧ Ext w w' := mul_c a b ha hb w
theorem add_v (m n : Nat) (h : m + n < 340282366920938463463374607431768211456) (w : World) : Calls Try.prog 23 #[.agg #[.int .u64 (whi m), .int .u64 (wlo m)], .agg #[.int .u64 (whi n), .int .u64 (wlo n)]] w fun e w' =>
    e = .returned (.tuple #[.agg #[.int .u64 (whi (m + n)), .int .u64 (wlo (m + n))], .bool true]) ∧ Ext w w' := by
  have C := add_c (whi m) (wlo m) (whi n) (wlo n) (whi_u (by omega)) (wlo_u m) (whi_u (by omega)) (wlo_u n) w
  rw [X_hl, X_hl, Nat.mod_eq_of_lt h, decide_eq_true h] at C
  exact C
theorem sub_v (m n : Nat) (hm : m < 340282366920938463463374607431768211456) (h : n ≤ m) (w : World) : Calls Try.prog 34 #[.agg #[.int .u64 (whi m), .int .u64 (wlo m)], .agg #[.int .u64 (whi n), .int .u64 (wlo n)]] w fun e w' =>
    e = .returned (.tuple #[.agg #[.int .u64 (whi (m - n)), .int .u64 (wlo (m - n))], .bool true]) ∧ Ext w w' := by
  have C := sub_c (whi m) (wlo m) (whi n) (wlo n) (whi_u (by omega)) (wlo_u m) (whi_u (by omega)) (wlo_u n) w
  rw [X_hl, X_hl, decide_eq_true h, show (m + 340282366920938463463374607431768211456 - n) % 340282366920938463463374607431768211456 = m - n by omega] at C
  exact C
theorem div_v (m : Nat) (d : Int) (hm : m < 340282366920938463463374607431768211456) (hd : U64 d) (h0 : 0 < d) (w : World) : Calls Try.prog 25 #[.agg #[.int .u64 (whi m), .int .u64 (wlo m)], .int .u64 d] w fun e w' =>
    e = .returned (.tuple #[.agg #[.int .u64 (whi (m / d.toNat)), .int .u64 (wlo (m / d.toNat))], .int .u64 ((m % d.toNat : Nat) : Int), .bool true]) ∧ Ext w w' := by
  have C := div_c (whi m) (wlo m) d (whi_u hm) (wlo_u m) hd h0 w
  rw [X_hl] at C
  exact C
theorem priceI_iff (p g : Int) : priceI p g = 0 ↔ 1 ≤ g ∧ 1 ≤ p ∧ p ≤ 1099511627776 ∧ p / g * g = p := by
  unfold priceI
  repeat' split
  all_goals omega
theorem qtyI_iff (q : Int) : qtyI q = 0 ↔ 1 ≤ q ∧ q ≤ 4294967296 := by
  unfold qtyI
  split <;> omega
def pricedB (p g : Int) : Bool := decide (priceI p g = 0)
theorem priced_c (p g : Int) (hp : I64 p) (hg : I64 g) (w : World) : Calls Try.prog 19 #[.int .i64 p, .int .i64 g] w fun e w' => e = .returned (.bool (pricedB p g)) ∧ Ext w w' := by
  have C := price_c p g hp hg
  unfold pricedB
  generalize priceI p g = n at C
  by_cases h : n = 0
  · subst h
    go_enter Try.func19, Try.ntmps19
    go_wp2_with fail
    refine (C _).mono ?_
    rintro e w1 ⟨rfl, hxw1⟩
    have xw1 : Ext w w1 := Ext.trans (by repeat (first | (with_reducible exact Ext.refl _) | (with_reducible assumption) | (with_reducible refine Ext.alloc ?_ _) | (with_reducible refine Ext.drew ?_) | (with_reducible refine Ext.drewN ?_ _) | (with_reducible refine Ext.setCell ?_ (by simp; try omega) _) | (with_reducible refine Ext.setRow ?_ (by simp; try omega) _))) hxw1
    have lw1 := xw1.size
    go_wp2_with fail
    first | refine fin_ret rfl (fun K hK => ?_) | refine fin_norm rfl (fun K hK => ?_)
    simp [results, Try.results19, go_sem, rsat]
    try go_simp
    refine hK _ ?_
    clear hK K
    exact ⟨rfl, (by repeat (first | (with_reducible exact Ext.refl _) | (with_reducible assumption) | (with_reducible refine Ext.alloc ?_ _) | (with_reducible refine Ext.drew ?_) | (with_reducible refine Ext.drewN ?_ _) | (with_reducible refine Ext.setCell ?_ (by simp; try omega) _) | (with_reducible refine Ext.setRow ?_ (by simp; try omega) _)))⟩
  · have e1 : (n == 0) = false := beq_eq_false_iff_ne.2 h
    have e2 : decide (n = 0) = false := decide_eq_false h
    rw [e2]
    clear e2 h
    go_enter Try.func19, Try.ntmps19
    go_wp2_with fail
    refine (C _).mono ?_
    rintro e w1 ⟨rfl, hxw1⟩
    have xw1 : Ext w w1 := Ext.trans (by repeat (first | (with_reducible exact Ext.refl _) | (with_reducible assumption) | (with_reducible refine Ext.alloc ?_ _) | (with_reducible refine Ext.drew ?_) | (with_reducible refine Ext.drewN ?_ _) | (with_reducible refine Ext.setCell ?_ (by simp; try omega) _) | (with_reducible refine Ext.setRow ?_ (by simp; try omega) _))) hxw1
    have lw1 := xw1.size
    go_wp2_with fail
    first | refine fin_ret rfl (fun K hK => ?_) | refine fin_norm rfl (fun K hK => ?_)
    simp [results, Try.results19, go_sem, rsat]
    try go_simp
    refine hK _ ?_
    clear hK K
    exact ⟨rfl, (by repeat (first | (with_reducible exact Ext.refl _) | (with_reducible assumption) | (with_reducible refine Ext.alloc ?_ _) | (with_reducible refine Ext.drew ?_) | (with_reducible refine Ext.drewN ?_ _) | (with_reducible refine Ext.setCell ?_ (by simp; try omega) _) | (with_reducible refine Ext.setRow ?_ (by simp; try omega) _)))⟩
/-- Trades: tick, price, quantity. -/
structure Tr where
  t : Int
  p : Int
  q : Int
structure Tr.Ok (x : Tr) : Prop where
  t0 : 0 ≤ x.t
  t1 : x.t ≤ 1152921504606846976
  p0 : 1 ≤ x.p
  p1 : x.p ≤ 1099511627776
  q0 : 1 ≤ x.q
  q1 : x.q ≤ 4294967296
def Tr.w (x : Tr) : Nat := x.p.toNat * x.q.toNat
def worthN : List Tr → Nat
  | [] => 0
  | x :: l => x.w + worthN l
def qtyN : List Tr → Nat
  | [] => 0
  | x :: l => x.q.toNat + qtyN l
def Tr.cells (x : Tr) : List Value := [.int .i64 x.t, .int .i64 x.q, .int .u64 (whi x.w), .int .u64 (wlo x.w)]
def trCells : List Tr → List Value
  | [] => []
  | x :: l => x.cells ++ trCells l
/-- The eight cells of a window. -/
def winCells (span grid ref last : Int) (l : Value) (worth : Nat) (q : Int) : Array Value :=
  #[.int .i64 span, .int .i64 grid, .int .i64 ref, .int .i64 last, l, .int .u64 (whi worth), .int .u64 (wlo worth), .int .i64 q]
def comesB (last t : Int) : Bool := decide (last ≤ t ∧ 0 ≤ t ∧ t ≤ 1152921504606846976)
theorem comes_c (g : Nat) (span grid ref last : Int) (l : Value) (worth : Nat) (q t : Int) (w : World) (h : At w g 55 (winCells span grid ref last l worth q)) :
    Calls Try.prog 20 #[.pointer (some ⟨g, 0, none⟩), .int .i64 t] w fun e w' => e = .returned (.bool (comesB last t)) ∧ Ext w w' := by
  have c3 : w.cell? ⟨g, 3, none⟩ = some (.int .i64 last) := h.cell 3
  clear h
  unfold comesB
  by_cases h1 : last ≤ t
  · by_cases h2 : 0 ≤ t
    · by_cases h3 : t ≤ 1152921504606846976
      · rw [decide_eq_true ⟨h1, h2, h3⟩]
        go_enter Try.func20, Try.ntmps20
        go_wp2_with fail
        first | refine fin_ret rfl (fun K hK => ?_) | refine fin_norm rfl (fun K hK => ?_)
        simp [results, Try.results20, go_sem, rsat]
        try go_simp
        refine hK _ ?_
        clear hK K
        exact ⟨rfl, (by repeat (first | (with_reducible exact Ext.refl _) | (with_reducible assumption) | (with_reducible refine Ext.alloc ?_ _) | (with_reducible refine Ext.drew ?_) | (with_reducible refine Ext.drewN ?_ _) | (with_reducible refine Ext.setCell ?_ (by simp; try omega) _) | (with_reducible refine Ext.setRow ?_ (by simp; try omega) _)))⟩
      · rw [decide_eq_false (by omega)]
        go_enter Try.func20, Try.ntmps20
        go_wp2_with fail
        first | refine fin_ret rfl (fun K hK => ?_) | refine fin_norm rfl (fun K hK => ?_)
        simp [results, Try.results20, go_sem, rsat]
        try go_simp
        refine hK _ ?_
        clear hK K
        exact ⟨rfl, (by repeat (first | (with_reducible exact Ext.refl _) | (with_reducible assumption) | (with_reducible refine Ext.alloc ?_ _) | (with_reducible refine Ext.drew ?_) | (with_reducible refine Ext.drewN ?_ _) | (with_reducible refine Ext.setCell ?_ (by simp; try omega) _) | (with_reducible refine Ext.setRow ?_ (by simp; try omega) _)))⟩
    · rw [decide_eq_false (by omega)]
      go_enter Try.func20, Try.ntmps20
      go_wp2_with fail
      first | refine fin_ret rfl (fun K hK => ?_) | refine fin_norm rfl (fun K hK => ?_)
      simp [results, Try.results20, go_sem, rsat]
      try go_simp
      refine hK _ ?_
      clear hK K
      exact ⟨rfl, (by repeat (first | (with_reducible exact Ext.refl _) | (with_reducible assumption) | (with_reducible refine Ext.alloc ?_ _) | (with_reducible refine Ext.drew ?_) | (with_reducible refine Ext.drewN ?_ _) | (with_reducible refine Ext.setCell ?_ (by simp; try omega) _) | (with_reducible refine Ext.setRow ?_ (by simp; try omega) _)))⟩
  · rw [decide_eq_false (by omega)]
    go_enter Try.func20, Try.ntmps20
    go_wp2_with fail
    first | refine fin_ret rfl (fun K hK => ?_) | refine fin_norm rfl (fun K hK => ?_)
    simp [results, Try.results20, go_sem, rsat]
    try go_simp
    refine hK _ ?_
    clear hK K
    exact ⟨rfl, (by repeat (first | (with_reducible exact Ext.refl _) | (with_reducible assumption) | (with_reducible refine Ext.alloc ?_ _) | (with_reducible refine Ext.drew ?_) | (with_reducible refine Ext.drewN ?_ _) | (with_reducible refine Ext.setCell ?_ (by simp; try omega) _) | (with_reducible refine Ext.setRow ?_ (by simp; try omega) _)))⟩
theorem win0 (span grid ref : Int) : winCells span grid ref 0 (.slice none 0 0) 0 0 = #[.int .i64 span, .int .i64 grid, .int .i64 ref, .int .i64 0, .slice none 0 0, .int .u64 0, .int .u64 0, .int .i64 0] := rfl
def newB (span grid ref : Int) : Bool := decide (1 ≤ span ∧ span ≤ 1099511627776 ∧ grid ≤ 1099511627776) && pricedB ref grid
theorem new_c (span grid ref : Int) (hs : I64 span) (hg : I64 grid) (hr : I64 ref) (w : World) :
    Calls Try.prog 8 #[.int .i64 span, .int .i64 grid, .int .i64 ref] w fun e w' => Ext w w' ∧
      ((newB span grid ref = false ∧ e = .returned (.tuple #[.pointer none, .int .i64 9])) ∨
       (newB span grid ref = true ∧ ∃ g, w.heap.size ≤ g ∧ e = .returned (.tuple #[.pointer (some ⟨g, 0, none⟩), .int .i64 0]) ∧ At w' g 55 (winCells span grid ref 0 (.slice none 0 0) 0 0))) := by
  have C := priced_c ref grid hr hg
  unfold newB
  by_cases h1 : span < 1
  · rw [decide_eq_false (by omega)]
    go_enter Try.func8, Try.ntmps8
    go_wp2_with fail
    first | refine fin_ret rfl (fun K hK => ?_) | refine fin_norm rfl (fun K hK => ?_)
    simp [results, Try.results8, go_sem, rsat]
    try go_simp
    refine hK _ ?_
    clear hK K
    first | exact ⟨(by repeat (first | (with_reducible exact Ext.refl _) | (with_reducible assumption) | (with_reducible refine Ext.alloc ?_ _) | (with_reducible refine Ext.drew ?_) | (with_reducible refine Ext.drewN ?_ _) | (with_reducible refine Ext.setCell ?_ (by simp; try omega) _) | (with_reducible refine Ext.setRow ?_ (by simp; try omega) _))), .inl ⟨rfl, rfl⟩⟩ | exact ⟨(by repeat (first | (with_reducible exact Ext.refl _) | (with_reducible assumption) | (with_reducible refine Ext.alloc ?_ _) | (with_reducible refine Ext.drew ?_) | (with_reducible refine Ext.drewN ?_ _) | (with_reducible refine Ext.setCell ?_ (by simp; try omega) _) | (with_reducible refine Ext.setRow ?_ (by simp; try omega) _))), rfl⟩ | (refine ⟨(by repeat (first | (with_reducible exact Ext.refl _) | (with_reducible assumption) | (with_reducible refine Ext.alloc ?_ _) | (with_reducible refine Ext.drew ?_) | (with_reducible refine Ext.drewN ?_ _) | (with_reducible refine Ext.setCell ?_ (by simp; try omega) _) | (with_reducible refine Ext.setRow ?_ (by simp; try omega) _))), ?_⟩; simp)
  by_cases h2 : 1099511627776 < span
  · rw [decide_eq_false (by omega)]
    go_enter Try.func8, Try.ntmps8
    go_wp2_with fail
    first | refine fin_ret rfl (fun K hK => ?_) | refine fin_norm rfl (fun K hK => ?_)
    simp [results, Try.results8, go_sem, rsat]
    try go_simp
    refine hK _ ?_
    clear hK K
    first | exact ⟨(by repeat (first | (with_reducible exact Ext.refl _) | (with_reducible assumption) | (with_reducible refine Ext.alloc ?_ _) | (with_reducible refine Ext.drew ?_) | (with_reducible refine Ext.drewN ?_ _) | (with_reducible refine Ext.setCell ?_ (by simp; try omega) _) | (with_reducible refine Ext.setRow ?_ (by simp; try omega) _))), .inl ⟨rfl, rfl⟩⟩ | exact ⟨(by repeat (first | (with_reducible exact Ext.refl _) | (with_reducible assumption) | (with_reducible refine Ext.alloc ?_ _) | (with_reducible refine Ext.drew ?_) | (with_reducible refine Ext.drewN ?_ _) | (with_reducible refine Ext.setCell ?_ (by simp; try omega) _) | (with_reducible refine Ext.setRow ?_ (by simp; try omega) _))), rfl⟩ | (refine ⟨(by repeat (first | (with_reducible exact Ext.refl _) | (with_reducible assumption) | (with_reducible refine Ext.alloc ?_ _) | (with_reducible refine Ext.drew ?_) | (with_reducible refine Ext.drewN ?_ _) | (with_reducible refine Ext.setCell ?_ (by simp; try omega) _) | (with_reducible refine Ext.setRow ?_ (by simp; try omega) _))), ?_⟩; simp)
  by_cases h3 : 1099511627776 < grid
  · rw [decide_eq_false (by omega)]
    go_enter Try.func8, Try.ntmps8
    go_wp2_with fail
    first | refine fin_ret rfl (fun K hK => ?_) | refine fin_norm rfl (fun K hK => ?_)
    simp [results, Try.results8, go_sem, rsat]
    try go_simp
    refine hK _ ?_
    clear hK K
    first | exact ⟨(by repeat (first | (with_reducible exact Ext.refl _) | (with_reducible assumption) | (with_reducible refine Ext.alloc ?_ _) | (with_reducible refine Ext.drew ?_) | (with_reducible refine Ext.drewN ?_ _) | (with_reducible refine Ext.setCell ?_ (by simp; try omega) _) | (with_reducible refine Ext.setRow ?_ (by simp; try omega) _))), .inl ⟨rfl, rfl⟩⟩ | exact ⟨(by repeat (first | (with_reducible exact Ext.refl _) | (with_reducible assumption) | (with_reducible refine Ext.alloc ?_ _) | (with_reducible refine Ext.drew ?_) | (with_reducible refine Ext.drewN ?_ _) | (with_reducible refine Ext.setCell ?_ (by simp; try omega) _) | (with_reducible refine Ext.setRow ?_ (by simp; try omega) _))), rfl⟩ | (refine ⟨(by repeat (first | (with_reducible exact Ext.refl _) | (with_reducible assumption) | (with_reducible refine Ext.alloc ?_ _) | (with_reducible refine Ext.drew ?_) | (with_reducible refine Ext.drewN ?_ _) | (with_reducible refine Ext.setCell ?_ (by simp; try omega) _) | (with_reducible refine Ext.setRow ?_ (by simp; try omega) _))), ?_⟩; simp)
  rw [decide_eq_true (by omega), Bool.true_and]
  generalize pricedB ref grid = b at C ⊢
  cases b
  ·
    go_enter Try.func8, Try.ntmps8
    go_wp2_with fail
    refine (C _).mono ?_
    rintro e w1 ⟨rfl, hxw1⟩
    have xw1 : Ext w w1 := Ext.trans (by repeat (first | (with_reducible exact Ext.refl _) | (with_reducible assumption) | (with_reducible refine Ext.alloc ?_ _) | (with_reducible refine Ext.drew ?_) | (with_reducible refine Ext.drewN ?_ _) | (with_reducible refine Ext.setCell ?_ (by simp; try omega) _) | (with_reducible refine Ext.setRow ?_ (by simp; try omega) _))) hxw1
    have lw1 := xw1.size
    go_wp2_with fail
    first | refine fin_ret rfl (fun K hK => ?_) | refine fin_norm rfl (fun K hK => ?_)
    simp [results, Try.results8, go_sem, rsat]
    try go_simp
    refine hK _ ?_
    clear hK K
    first | exact ⟨(by repeat (first | (with_reducible exact Ext.refl _) | (with_reducible assumption) | (with_reducible refine Ext.alloc ?_ _) | (with_reducible refine Ext.drew ?_) | (with_reducible refine Ext.drewN ?_ _) | (with_reducible refine Ext.setCell ?_ (by simp; try omega) _) | (with_reducible refine Ext.setRow ?_ (by simp; try omega) _))), .inl ⟨rfl, rfl⟩⟩ | exact ⟨(by repeat (first | (with_reducible exact Ext.refl _) | (with_reducible assumption) | (with_reducible refine Ext.alloc ?_ _) | (with_reducible refine Ext.drew ?_) | (with_reducible refine Ext.drewN ?_ _) | (with_reducible refine Ext.setCell ?_ (by simp; try omega) _) | (with_reducible refine Ext.setRow ?_ (by simp; try omega) _))), rfl⟩ | (refine ⟨(by repeat (first | (with_reducible exact Ext.refl _) | (with_reducible assumption) | (with_reducible refine Ext.alloc ?_ _) | (with_reducible refine Ext.drew ?_) | (with_reducible refine Ext.drewN ?_ _) | (with_reducible refine Ext.setCell ?_ (by simp; try omega) _) | (with_reducible refine Ext.setRow ?_ (by simp; try omega) _))), ?_⟩; simp)
  ·
    go_enter Try.func8, Try.ntmps8
    go_wp2_with fail
    refine (C _).mono ?_
    rintro e w1 ⟨rfl, hxw1⟩
    have xw1 : Ext w w1 := Ext.trans (by repeat (first | (with_reducible exact Ext.refl _) | (with_reducible assumption) | (with_reducible refine Ext.alloc ?_ _) | (with_reducible refine Ext.drew ?_) | (with_reducible refine Ext.drewN ?_ _) | (with_reducible refine Ext.setCell ?_ (by simp; try omega) _) | (with_reducible refine Ext.setRow ?_ (by simp; try omega) _))) hxw1
    have lw1 := xw1.size
    go_wp2_with fail
    first | refine fin_ret rfl (fun K hK => ?_) | refine fin_norm rfl (fun K hK => ?_)
    simp [results, Try.results8, go_sem, rsat]
    try go_simp
    refine hK _ ?_
    clear hK K
    exact ⟨(by repeat (first | (with_reducible exact Ext.refl _) | (with_reducible assumption) | (with_reducible refine Ext.alloc ?_ _) | (with_reducible refine Ext.drew ?_) | (with_reducible refine Ext.drewN ?_ _) | (with_reducible refine Ext.setCell ?_ (by simp; try omega) _) | (with_reducible refine Ext.setRow ?_ (by simp; try omega) _))), .inr ⟨by first | trivial | rfl, w1.heap.size, lw1, rfl, by rw [win0]; exact (by repeat (first | (with_reducible exact At.new _ _ _) | ((with_reducible refine At.new' _ _ _ _ ?_); simp; done) | (with_reducible assumption) | (with_reducible refine At.drew ?_) | (with_reducible refine At.alloc ?_ _) | (with_reducible apply At.upd) | (with_reducible apply At.setRow) | (with_reducible refine At.rowFar ?_ (by first | (simp; done) | (simp; omega) | omega) _) | ((with_reducible refine At.far ?_ (by first | (simp; done) | (simp; omega) | omega) _)) | (with_reducible rfl) | (simp; done)))⟩⟩
end Go.Proofs.Ytgjaiikfgejgoaa
