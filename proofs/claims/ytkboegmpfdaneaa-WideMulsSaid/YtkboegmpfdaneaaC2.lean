/- The walk of law WideMuls. -/
import Derived.Test.YtkboegmpfdaneaaC1
namespace Go.Proofs.Ytkboegmpfdaneaa
open Go.RowKit
attribute [local go_sem] Later.cell QUpon_value QUpon_enter MUpon_value

theorem widemuls_c (a b : Int) (ha : U64 a) (hb : U64 b) (w : World) : Calls Try.prog 3 #[.int .u64 a, .int .u64 b] w fun e w' => e = .returned (.bool true) ∧ Ext w w' := by
  go_enter Try.func3, Try.ntmps3
  go_wp2_with fail
  refine (mul_c a b ha hb _).mono ?_
  rintro e w1 ⟨rfl, hxw1⟩
  go_wp2_with fail
  refine (rmul_c a b ha hb _).mono ?_
  rintro e w2 ⟨rfl, hxw2⟩
  have hl := mul_lt ha.lt hb.lt
  go_wp2_with fail
  refine (is_c _ _ hl hl _).mono ?_
  rintro e w3 ⟨rfl, hxw3⟩
  go_wp2_with fail
  refine (alive_c _).mono ?_
  rintro e w4 ⟨rfl, hxw4⟩
  go_wp2
  refine fin_ret rfl (fun K hK => ?_)
  simp [results, Try.results3, go_sem, rsat]
  try go_simp
  refine hK _ ?_
  clear hK K
  exact ⟨rfl, (hxw1.trans hxw2).trans (hxw3.trans hxw4)⟩
end Go.Proofs.Ytkboegmpfdaneaa
