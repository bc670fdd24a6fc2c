/- Law MessageDecodes. No condition. -/
import Derived.Test.YtndcmjpacailjaaM4
import Derived.Test.YtndcmjpacailjaaM6
namespace Go.Proofs.Ytndcmjpacailjaa
open Go.RowKit
attribute [local go_sem] Later.cell QUpon_value QUpon_enter MUpon_value run_eql_slice_nil Same.cell
attribute [local go_sem ↓ high] loadMsg_is storeMsg_is
attribute [local go_sem] run_loadMsg run_loadMsg_at run_storeMsg one_int one_bool one_slice one_ptr one_str setRow_new setRow_past cell_ca frozen_ca cellsAt_alloc_at cellsAt_alloc_past cellsAt_drew cellsAt_later cellsAt_setCell cellsAt_set_same cellsAt_setRow_same cellsAt_setRow_far subAt_alloc subAt_drew subAt_later subAt_setCell subAt_setRow ltn_2 ltn_3 ltn_4 ltn_5
set_option maxHeartbeats 2000000 in
set_option maxRecDepth 100000 in
theorem messagedecodes_c (A : Option Addr) (c : Nat) (bs : List Int) (hb : Byt bs) (hc : bs.length ≤ c) (hm : c ≤ maxLen) (w : World) (hS : Src w 1 A bs.length (bc bs)) :
    Calls Try.prog 4 #[.slice A bs.length c] w fun e w' => e = .returned (.bool true) ∧ Ext w w' := by
  unfold maxLen at hm
  have HA := Lib.hid alive_c6
  by_cases hl : 200 < bs.length
  · have hli : (200 : Int) < (bs.length : Int) := by omega
    clear hS
    go_enter Try.func4, Try.ntmps4
    go_wp2_with fail
    refine (HA.out _).mono ?_
    rintro e w1 ⟨rfl, hx1⟩
    go_wp2_with fail
    first | refine fin_ret rfl (fun K hK => ?_) | refine fin_norm rfl (fun K hK => ?_)
    simp [results, Try.results4, go_sem, rsat]
    try go_simp
    refine hK _ ?_
    clear hK K
    exact ⟨rfl, hx1⟩
  · have hli : ¬ (200 : Int) < (bs.length : Int) := by omega
    obtain ⟨m, f, hD, hR⟩ : ∃ (m : Mg) (f : Int), (∀ W, Ext w W → Calls Try.prog 14 #[.slice A bs.length c] W fun e w' => Ext W w' ∧ e = .returned (.tuple #[.agg #[.int .i64 m.kind, .int .i64 m.sym, .int .i64 m.seq, .int .i64 m.tick, .int .i64 m.id, .int .i64 m.wth, .int .i64 m.price, .int .i64 m.qty, .int .i64 m.code], .int .i64 f])) ∧ (∀ W, Ext w W → Calls Try.prog 15 #[.slice A bs.length c] W fun e w' => Ext W w' ∧ e = .returned (.tuple #[.agg #[.int .i64 m.kind, .int .i64 m.sym, .int .i64 m.seq, .int .i64 m.tick, .int .i64 m.id, .int .i64 m.wth, .int .i64 m.price, .int .i64 m.qty, .int .i64 m.code], .int .i64 f])) := by
      obtain ⟨va, s1, f1, e1⟩ : ∃ v s g, uintR bs 0 1 = (v, s, g) := ⟨_, _, _, rfl⟩
      obtain ⟨vb, s2, f2, e2⟩ : ∃ v s g, uintR s1 f1 1 = (v, s, g) := ⟨_, _, _, rfl⟩
      obtain ⟨vc, s3, f3, e3⟩ : ∃ v s g, uintR s2 f2 1 = (v, s, g) := ⟨_, _, _, rfl⟩
      obtain ⟨vd, s4, f4, e4⟩ : ∃ v s g, numR s3 f3 = (v, s, g) := ⟨_, _, _, rfl⟩
      obtain ⟨ve, s5, f5, e5⟩ : ∃ v s g, numR s4 f4 = (v, s, g) := ⟨_, _, _, rfl⟩
      obtain ⟨vi, s6, f6, e6⟩ : ∃ v s g, (backN (uintR s5 f5 8).1, (uintR s5 f5 8).2) = (v, s, g) := ⟨_, _, _, rfl⟩
      obtain ⟨vj, s7, f7, e7⟩ : ∃ v s g, (backN (uintR s6 f6 8).1, (uintR s6 f6 8).2) = (v, s, g) := ⟨_, _, _, rfl⟩
      obtain ⟨vp, s8, f8, e8⟩ : ∃ v s g, (backN (uintR s7 f7 8).1, (uintR s7 f7 8).2) = (v, s, g) := ⟨_, _, _, rfl⟩
      obtain ⟨vq, s9, f9, e9⟩ : ∃ v s g, (backN (uintR s8 f8 8).1, (uintR s8 f8 8).2) = (v, s, g) := ⟨_, _, _, rfl⟩
      obtain ⟨m, f, hR⟩ : ∃ m f, finM ⟨(va : Int), (vb : Int), (min vd 4611686018427387905 : Nat), (min ve 4611686018427387905 : Nat), vi, vj, vp, vq, (vc : Int)⟩ s9 f9 = (m, f) := ⟨_, _, rfl⟩
      refine ⟨m, f, fun W hW => (decM_c A c bs hb (by omega) W (hS.ext hW) s1 s2 s3 s4 s5 s6 s7 s8 s9 f1 f2 f3 f4 f5 f6 f7 f8 f9 va vb vc vd ve vi vj vp vq e1 e2 e3 e4 e5 e6 e7 e8 e9).mono ?_, fun W hW => (rdecM_c A c bs hb (by omega) hc hm W (hS.ext hW) s1 s2 s3 s4 s5 s6 s7 s8 s9 f1 f2 f3 f4 f5 f6 f7 f8 f9 va vb vc vd ve vi vj vp vq e1 e2 e3 e4 e5 e6 e7 e8 e9).mono ?_⟩
      · rintro e w' ⟨hx, m', f', rfl, hmf⟩
        rw [hR] at hmf
        injection hmf with h1 h2
        rw [h1, h2]
        exact ⟨hx, rfl⟩
      · rintro e w' ⟨hx, m', f', rfl, hmf⟩
        rw [hR] at hmf
        injection hmf with h1 h2
        rw [h1, h2]
        exact ⟨hx, rfl⟩
    have HD := Lib.hid hD
    have HR := Lib.hid hR
    clear hD hR
    have hff : (f == f) = true := by simp
    go_enter Try.func4, Try.ntmps4
    go_wp2_with fail
    refine (HD.out _ (Ext.refl w)).mono ?_
    rintro e w1 ⟨hxw1, rfl⟩
    go_wp2_with fail
    refine (HR.out _ (hxw1.alloc _)).mono ?_
    rintro e w2 ⟨hxw2, rfl⟩
    have x2 : Ext w w2 := (hxw1.alloc _).trans hxw2
    have m2 : At w2 w1.heap.size 23 #[.int .i64 m.kind, .int .i64 m.sym, .int .i64 m.seq, .int .i64 m.tick, .int .i64 m.id, .int .i64 m.wth, .int .i64 m.price, .int .i64 m.qty, .int .i64 m.code] := (At.new _ _ _).ext hxw2
    have e2 := cellsAt_at m2
    have s2 := m2.lt
    clear hxw1 hxw2
    go_wp2_with fail
    refine (HA.out _).mono ?_
    rintro e w3 ⟨rfl, hx3⟩
    go_wp2_with fail
    first | refine fin_ret rfl (fun K hK => ?_) | refine fin_norm rfl (fun K hK => ?_)
    simp [results, Try.results4, go_sem, rsat]
    try go_simp
    refine hK _ ?_
    clear hK K
    exact ⟨rfl, (x2.alloc _).trans hx3⟩
end Go.Proofs.Ytndcmjpacailjaa
