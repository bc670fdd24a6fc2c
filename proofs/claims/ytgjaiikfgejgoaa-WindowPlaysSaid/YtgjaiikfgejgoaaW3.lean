/- Wide numbers told by one natural number: Div, Add, Left at such. No condition. -/
import Derived.Test.YtgjaiikfgejgoaaW2
namespace Go.Proofs.Ytgjaiikfgejgoaa
open Go.RowKit

theorem wide_lo (r : Nat) (h : r < 18446744073709551616) : wide r = .agg #[.int .u64 0, .int .u64 r] := by
  unfold wide
  rw [Nat.div_eq_of_lt h, Nat.mod_eq_of_lt h]; rfl
theorem div_wide (n : Nat) (d : Int) (hn : n < 340282366920938463463374607431768211456) (hd : U64 d) (h0 : 0 < d) (w : World) :
    Calls Try.prog 25 #[wide n, .int .u64 d] w fun e w' => e = .returned (.tuple #[wide (n / d.toNat), .int .u64 ((n % d.toNat : Nat) : Int), .bool true]) ∧ Ext w w' := by
  refine (div_c _ _ d (U64.div hn) (U64.mod n) hd h0 w).mono ?_
  rintro e w' ⟨rfl, hx⟩
  refine ⟨?_, hx⟩
  rw [X_wide]
/-- A sum of two numbers that are told by their halves. -/
theorem add_wide (m n s : Nat) (hm : m < 340282366920938463463374607431768211456) (hn : n < 340282366920938463463374607431768211456) (hs : m + n = s) (hl : s < 340282366920938463463374607431768211456) (w : World) :
    Calls Try.prog 23 #[wide m, wide n] w fun e w' => e = .returned (.tuple #[wide s, .bool true]) ∧ Ext w w' := by
  refine (add_c _ _ _ _ (U64.div hm) (U64.mod m) (U64.div hn) (U64.mod n) w).mono ?_
  rintro e w' ⟨rfl, hx⟩
  refine ⟨?_, hx⟩
  rw [X_wide, X_wide, hs, Nat.mod_eq_of_lt hl, decide_eq_true hl]
theorem add_to (m n s : Nat) (v : Value) (hm : m < 340282366920938463463374607431768211456) (hn : n < 340282366920938463463374607431768211456) (hs : m + n = s) (hl : s < 340282366920938463463374607431768211456) (hv : wide s = v) (w : World) :
    Calls Try.prog 23 #[wide m, wide n] w fun e w' => e = .returned (.tuple #[v, .bool true]) ∧ Ext w w' := hv ▸ add_wide m n s hm hn hs hl w
end Go.Proofs.Ytgjaiikfgejgoaa
