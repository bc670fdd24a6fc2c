/- Messages (layer 6): the bytes of one that is right. No condition. -/
import Derived.Test.YtfbpmngdamaobaaM1b
import Derived.LoopN
namespace Go.Proofs.Ytfbpmngdamaobaa
open Go.RowKit
attribute [local go_sem] Later.cell QUpon_value QUpon_enter MUpon_value run_eql_slice_nil Same.cell

attribute [local go_sem] one_int one_bool one_slice one_ptr one_str setRow_new setRow_past cell_ca frozen_ca cellsAt_alloc_at cellsAt_alloc_past cellsAt_drew cellsAt_later cellsAt_setCell cellsAt_set_same cellsAt_setRow_same cellsAt_setRow_far subAt_alloc subAt_drew subAt_later subAt_setCell subAt_setRow ltn_2 ltn_3 ltn_4 ltn_5
def formB (m : Mg) : List Int := [m.kind, m.sym, m.code] ++ numB m.seq.toNat ++ numB m.tick.toNat ++ intB m.id ++ intB m.wth ++ intB m.price ++ intB m.qty
structure Mg.Fine (m : Mg) : Prop where
  kind : 1 ≤ m.kind ∧ m.kind ≤ 9
  sym : 0 ≤ m.sym ∧ m.sym ≤ 255
  code : 0 ≤ m.code ∧ m.code ≤ 255
  seq : 0 ≤ m.seq ∧ m.seq ≤ 4611686018427387904
  tick : 0 ≤ m.tick ∧ m.tick ≤ 4611686018427387904
  id : -1 ≤ m.id ∧ m.id ≤ 4611686018427387904
  wth : -1 ≤ m.wth ∧ m.wth ≤ 4611686018427387904
theorem right_iff (m : Mg) : rightB m = true ↔ m.Fine := by
  unfold rightB inB
  simp only [Bool.and_eq_true, decide_eq_true_eq]
  exact ⟨fun ⟨a, b, c, d, e, f, g⟩ => ⟨a, b, c, d, e, f, g⟩, fun ⟨a, b, c, d, e, f, g⟩ => ⟨a, b, c, d, e, f, g⟩⟩
theorem u8_id {x : Int} (h : 0 ≤ x ∧ x ≤ 255) : IntKind.u8.wrap x = x := by
  have := u8_wrap x.toNat
  rw [show ((x.toNat : Nat) : Int) = x by omega] at this
  rw [this]
  omega
theorem u64_id {x : Int} (h : 0 ≤ x ∧ x ≤ 4611686018427387904) : IntKind.u64.wrap x = x := by
  rw [IntKind.wrap_u64]
  omega
theorem rnumI_c (n : Int) (h : 0 ≤ n ∧ n ≤ 4611686018427387904) (w : World) : Calls Try.prog 46 #[.int .u64 n] w fun e w' => Ext w w' ∧ ∃ v, e = .returned v ∧ Own w w' v (numB n.toNat) := by
  have := rnum_c n.toNat (by omega) w
  rwa [show ((n.toNat : Nat) : Int) = n by omega] at this
theorem numI_c (g : Nat) (A : Option Addr) (bs : List Int) (n : Int) (h : 0 ≤ n ∧ n ≤ 4611686018427387904) (w : World) (hW : Wr w g A bs) (hl : bs.length ≤ 1000000000) :
    Calls Try.prog 41 #[.pointer (some ⟨g, 0, none⟩), .int .u64 n] w fun e w' => e = .returned (.pointer (some ⟨g, 0, none⟩)) ∧ ∃ A', Puts w g A (bs ++ numB n.toNat) w' A' := by
  have := num_c g A bs n.toNat (by omega) w hW hl
  rwa [show ((n.toNat : Nat) : Int) = n by omega] at this
theorem intB_len (s : Int) : (intB s).length = 8 := uintB_len _ _
theorem intB_byt (s : Int) : Byt (intB s) := uintB_byt _ _
theorem byt3 {m : Mg} (h : m.Fine) : Byt [m.kind, m.sym, m.code] := by
  have := h.kind; have := h.sym; have := h.code
  intro x hx
  simp at hx
  omega
theorem formB_byt {m : Mg} (h : m.Fine) : Byt (formB m) := (((((byt3 h).app (numB_byt _)).app (numB_byt _)).app (intB_byt _)).app (intB_byt _)).app (intB_byt _) |>.app (intB_byt _)
theorem formB_len {m : Mg} (h : m.Fine) : (formB m).length ≤ 55 := by
  have h1 := numB_len64 (n := m.seq.toNat) (by have := h.seq; omega)
  have h2 := numB_len64 (n := m.tick.toNat) (by have := h.tick; omega)
  unfold formB
  simp only [List.length_append, intB_len, List.length_cons, List.length_nil]
  omega
end Go.Proofs.Ytfbpmngdamaobaa
