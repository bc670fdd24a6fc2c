/- The walk of law WideMoves. -/
import Derived.Test.YtkboegmpfdaneaaC1
namespace Go.Proofs.Ytkboegmpfdaneaa
open Go.RowKit
attribute [local go_sem] Later.cell QUpon_value QUpon_enter MUpon_value
attribute [local go_sem ↓ high] loadVar_is storeVar_is
attribute [local go_sem high] zero_bits
attribute [local go_sem] run_loadBits run_storeBits isArr_arr cellsAt_alloc_at cellsAt_alloc_past cellsAt_drew ltn_2 ltn_3 ltn_4 ltn_5 setRow_new bitsOf cellsAt_later cellsAt_setRow_far

theorem shr_lt (a : Nat) (n : Int) (ha : a < 340282366920938463463374607431768211456) : shr a n < 340282366920938463463374607431768211456 := by
  unfold shr
  split
  · exact ha
  · exact Nat.lt_of_le_of_lt (Nat.div_le_self _ _) ha
set_option maxRecDepth 100000 in
set_option maxHeartbeats 400000 in
theorem widemoves_c (a b n : Int) (ha : U64 a) (hb : U64 b) (w : World) : Calls Try.prog 4 #[.int .u64 a, .int .u64 b, .int .i64 n] w fun e w' => e = .returned (.bool true) ∧ Ext w w' := by
  have hX := X_lt ha hb
  go_enter Try.func4, Try.ntmps4
  go_wp2_with fail
  refine (of_c a b ha hb _).mono ?_
  rintro e w1 ⟨rfl, hx1⟩
  have HX := Lib.hid hX
  clear hX
  go_wp2
  refine wp_region_x 27 [1, 0, 1, 1, 0, 1, 1, 0, 1, 0, 1, 1, 0, 1, 1, 0, 0, 1, 1, 1, 1, 0, 0, 0, 1, 0, 0] (by kernel_rfl) (by kernel_rfl) (by kernel_rfl) ?_
  simp only [List.take_succ_cons, List.take_zero, List.drop_succ_cons, List.drop_zero]
  refine hl_quiet (fun K hK => ?_)
  go_simp
  refine hK _ ?_
  clear hK K
  refine hl_pure (fun K hK => ?_)
  go_simp
  refine hK _ ?_
  clear hK K
  refine hl_quiet (fun K hK => ?_)
  go_simp
  first
    | (refine hK _ ?_; clear hK K)
    | (apply Exists.intro; refine ⟨fun x => ?_, hK _ ?_⟩
       · (exact left_c a b n ha hb _)
       clear hK K)
  refine hl_quiet (fun K hK => ?_)
  go_simp
  refine hK _ ?_
  clear hK K
  refine hl_pure (fun K hK => ?_)
  go_simp
  refine hK _ ?_
  clear hK K
  refine hl_quiet (fun K hK => ?_)
  go_simp
  first
    | (refine hK _ ?_; clear hK K)
    | (apply Exists.intro; refine ⟨fun x => ?_, hK _ ?_⟩
       · (exact rleft_c _ n HX.out _)
       clear hK K)
  refine hl_quiet (fun K hK => ?_)
  go_simp
  first
    | (refine hK _ ?_; clear hK K)
    | (apply Exists.intro; refine ⟨fun x => ?_, hK _ ?_⟩
       · (exact is_c _ _ (shl_lt _ _ HX.out) (shl_lt _ _ HX.out) _)
       clear hK K)
  refine hl_pure (fun K hK => ?_)
  go_simp
  refine hK _ ?_
  clear hK K
  refine hl_quiet (fun K hK => ?_)
  go_simp
  refine hK _ ?_
  clear hK K
  refine hl_pure (fun K hK => ?_)
  go_simp
  refine hK _ ?_
  clear hK K
  refine hl_quiet (fun K hK => ?_)
  go_simp
  first
    | (refine hK _ ?_; clear hK K)
    | (apply Exists.intro; refine ⟨fun x => ?_, hK _ ?_⟩
       · (exact right_c a b n ha hb _)
       clear hK K)
  refine hl_quiet (fun K hK => ?_)
  go_simp
  refine hK _ ?_
  clear hK K
  refine hl_pure (fun K hK => ?_)
  go_simp
  refine hK _ ?_
  clear hK K
  refine hl_quiet (fun K hK => ?_)
  go_simp
  first
    | (refine hK _ ?_; clear hK K)
    | (apply Exists.intro; refine ⟨fun x => ?_, hK _ ?_⟩
       · (exact rright_c _ n HX.out _)
       clear hK K)
  refine hl_quiet (fun K hK => ?_)
  go_simp
  first
    | (refine hK _ ?_; clear hK K)
    | (apply Exists.intro; refine ⟨fun x => ?_, hK _ ?_⟩
       · (exact is_c _ _ (shr_lt _ _ HX.out) (shr_lt _ _ HX.out) _)
       clear hK K)
  refine hl_pure (fun K hK => ?_)
  go_simp
  refine hK _ ?_
  clear hK K
  refine hl_pure (fun K hK => ?_)
  go_simp
  refine hK _ ?_
  clear hK K
  refine hl_quiet (fun K hK => ?_)
  go_simp
  refine hK _ ?_
  clear hK K
  refine hl_quiet (fun K hK => ?_)
  go_simp
  first
    | (refine hK _ ?_; clear hK K)
    | (apply Exists.intro; refine ⟨fun x => ?_, hK _ ?_⟩
       · (exact len_c a b ha hb _)
       clear hK K)
  refine hl_quiet (fun K hK => ?_)
  go_simp
  refine hK _ ?_
  clear hK K
  refine hl_quiet (fun K hK => ?_)
  go_simp
  first
    | (refine hK _ ?_; clear hK K)
    | (apply Exists.intro; refine ⟨fun x => ?_, hK _ ?_⟩
       · (exact rlen_c _ HX.out _)
       clear hK K)
  refine hl_pure (fun K hK => ?_)
  go_simp
  refine hK _ ?_
  clear hK K
  refine hl_pure (fun K hK => ?_)
  go_simp
  refine hK _ ?_
  clear hK K
  refine hl_pure (fun K hK => ?_)
  go_simp
  refine hK _ ?_
  clear hK K
  refine hl_quiet (fun K hK => ?_)
  go_simp
  first
    | (refine hK _ ?_; clear hK K)
    | (apply Exists.intro; refine ⟨fun x => ?_, hK _ ?_⟩
       · (exact alive_c _)
       clear hK K)
  refine hl_pure (fun K hK => ?_)
  go_simp
  refine hK _ ?_
  clear hK K
  refine hl_pure (fun K hK => ?_)
  go_simp
  refine hK _ ?_
  clear hK K
  refine hl_nil ?_
  intro w2 hxw2 K hK
  have xw2 : Ext w w2 := Ext.trans (by repeat (first | exact Ext.refl _ | assumption | refine Ext.alloc ?_ _ | refine Ext.drew ?_ | refine Ext.drewN ?_ _ | refine Ext.setCell ?_ (by simp; try omega) _)) hxw2
  obtain ⟨hcw2, hfw2⟩ := hxw2.facts
  have hsw2 := hxw2.size
  try simp only [World.size_drew, World.size_alloc, World.size_setCell] at hsw2 hcw2 hfw2
  go_wp2
  refine fin_ret rfl (fun K hK => ?_)
  simp [results, Try.results4, go_sem, rsat]
  try go_simp
  refine hK _ ?_
  clear hK K
  exact ⟨rfl, (by repeat (first | exact Ext.refl _ | assumption | refine Ext.alloc ?_ _ | refine Ext.drew ?_ | refine Ext.drewN ?_ _ | refine Ext.setCell ?_ (by simp; try omega) _))⟩
end Go.Proofs.Ytkboegmpfdaneaa
