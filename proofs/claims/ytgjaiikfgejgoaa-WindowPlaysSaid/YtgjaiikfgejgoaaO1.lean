/- Bytes: rows of bytes, bytes.Clone, what a writer puts (octets). No condition but that rows are short. -/
import Derived.Test.YtgjaiikfgejgoaaRo
import Derived.Test.YtgjaiikfgejgoaaFP
import Derived.Laws.BytesArg
import Derived.WalkLawsBesides
namespace Go.Proofs.Ytgjaiikfgejgoaa
open Go.RowKit
theorem run_eql_slice_nil {P : Program} (w : World) (t e : TypeId) (a : Option Addr) (l c : Nat) (h : P.underlying t = some (.slice e)) : (binOp .eql t (.slice a l c) (.slice none 0 0)).run P w = .ok (.bool a.isNone) w := by
  simp only [binOp]
  simp [run_equal_slice_nil w t e a l c h]
attribute [local go_sem] Later.cell QUpon_value QUpon_enter MUpon_value run_eql_slice_nil
/-- Bytes, as cells. -/
def bc (l : List Int) : List Value := l.map (Value.int .u8)
def Byt (l : List Int) : Prop := ∀ b ∈ l, 0 ≤ b ∧ b < 256
theorem bc_app (a b : List Int) : bc (a ++ b) = bc a ++ bc b := List.map_append
theorem bc_len (a : List Int) : (bc a).length = a.length := List.length_map _
theorem bc_one (l : List Int) : (bc l).all (·.oneCell') = true := by
  unfold bc
  rw [List.all_map]
  exact List.all_eq_true.2 (fun _ _ => rfl)
theorem Byt.app {a b : List Int} (ha : Byt a) (hb : Byt b) : Byt (a ++ b) := fun x hx => by
  rcases List.mem_append.1 hx with h | h
  · exact ha x h
  · exact hb x h
theorem Byt.left {a b : List Int} (h : Byt (a ++ b)) : Byt a := fun x hx => h x (List.mem_append.2 (.inl hx))
theorem Byt.right {a b : List Int} (h : Byt (a ++ b)) : Byt b := fun x hx => h x (List.mem_append.2 (.inr hx))
theorem u8Info : (Try.prog.info? 5).map (fun i => (i.zero, i.size, i.bytes)) = some (some (.int .u8 0), 1, 1) := by kernel_rfl
/-- A slice of bytes of the call's own. -/
def Own (w0 w : World) (v : Value) (bs : List Int) : Prop := ∃ A c, v = .slice A bs.length c ∧ Row w 5 1 A bs.length c (bc bs) ∧ ∀ k ∈ ablk A, w0.heap.size ≤ k ∧ k < w.heap.size
theorem Own.ext {w0 w w' : World} {v : Value} {bs : List Int} (h : Own w0 w v bs) (hx : Ext w w') : Own w0 w' v bs := by
  obtain ⟨A, c, rfl, hR, hf⟩ := h
  exact ⟨A, c, rfl, hR.ext hx, fun k hk => ⟨(hf k hk).1, Nat.lt_of_lt_of_le (hf k hk).2 hx.size⟩⟩
theorem Own.base {w0 w1 w : World} {v : Value} {bs : List Int} (h : Own w1 w v bs) (hx : Ext w0 w1) : Own w0 w v bs := by
  obtain ⟨A, c, rfl, hR, hf⟩ := h
  exact ⟨A, c, rfl, hR, fun k hk => ⟨Nat.le_trans hx.size (hf k hk).1, (hf k hk).2⟩⟩
theorem Own.baseC {w0 w1 w : World} {v : Value} {bs : List Int} {m : List Nat} (h : Own w1 w v bs) (hx : Chg w0 w1 m) : Own w0 w v bs := by
  obtain ⟨A, c, rfl, hR, hf⟩ := h
  exact ⟨A, c, rfl, hR, fun k hk => ⟨Nat.le_trans hx.size (hf k hk).1, (hf k hk).2⟩⟩
theorem Own.src {w0 w : World} {bs : List Int} {A : Option Addr} {n c : Nat} (h : Own w0 w (.slice A n c) bs) : Src w 1 A bs.length (bc bs) ∧ n = bs.length := by
  obtain ⟨A1, c1, h1, hR, _⟩ := h
  injection h1 with h1 h2 h3
  subst h1
  exact ⟨hR.src, h2⟩
theorem Own.chg {w0 w w' : World} {v : Value} {bs : List Int} {m : List Nat} (h : Own w0 w v bs) (hx : Chg w w' m) (hm : ∀ k ∈ m, k < w0.heap.size) : Own w0 w' v bs := by
  obtain ⟨A, c, rfl, hR, hf⟩ := h
  exact ⟨A, c, rfl, hR.chg hx (fun g hg h1 => by have := (hf g hg).1; have := hm g h1; omega), fun k hk => ⟨(hf k hk).1, Nat.lt_of_lt_of_le (hf k hk).2 hx.size⟩⟩
theorem Own.nil (w0 w : World) : Own w0 w (.slice none 0 0) [] := ⟨none, 0, rfl, Row.nil _ _ _ _, by simp [ablk]⟩
/-- Behind an append. -/
theorem Own.app {w0 w w1 w2 : World} {A A' : Option Addr} {bs ns : List Int} {c' : Nat} (hx : Ext w0 w) (hf : ∀ k ∈ ablk A, w0.heap.size ≤ k ∧ k < w.heap.size) (hx1 : Ext w w1) (hC : Chg w1 w2 (ablk A)) (hR : Row w2 5 1 A' (bs.length + ns.length) c' (bc bs ++ bc ns))
    (hf2 : ∀ k ∈ ablk A', k ∈ ablk A ∨ (w.heap.size ≤ k ∧ k < w2.heap.size)) : Own w0 w2 (.slice A' (bs.length + ns.length) c') (bs ++ ns) ∧ Ext w0 w2 := by
  have h1 := hx.size
  have h2 := hx1.size
  have h3 := hC.size
  refine ⟨⟨A', c', by rw [List.length_append], by rw [List.length_append, bc_app]; exact hR, fun k hk => ?_⟩, ?_⟩
  · rcases hf2 k hk with h | h
    · have := hf k h; omega
    · omega
  · exact (Chg.step (Chg.of_ext (hx.trans hx1) []) hC (fun i hi => .inr (hf i hi).1)).ext (by simp)
theorem eqNil {A : Option Addr} {n c : Nat} : A = none ∨ ∃ a, A = some a := by cases A; exact .inl rfl; exact .inr ⟨_, rfl⟩
theorem Own.open_ {w0 w : World} {A : Option Addr} {n c : Nat} {bs : List Int} (h : Own w0 w (.slice A n c) bs) : n = bs.length ∧ Row w 5 1 A n c (bc bs) ∧ ∀ k ∈ ablk A, w0.heap.size ≤ k ∧ k < w.heap.size := by
  obtain ⟨A1, c1, h1, hR, hf⟩ := h
  injection h1 with h1 h2 h3
  subst h1 h3
  exact ⟨h2, by rw [h2]; exact hR, hf⟩
theorem Own.app2 {w0 w w1 w2 : World} {A A' : Option Addr} {bs ns : List Int} {c c' n k : Nat} {ys : List Value} (ho : Own w0 w (.slice A n c) bs) (hx : Ext w0 w) (hx1 : Ext w w1) (hC : Chg w1 w2 (ablk A)) (hR : Row w2 5 1 A' (n + k) c' (bc bs ++ ys)) (hk : k = ns.length) (hys : ys = bc ns)
    (hf2 : ∀ k ∈ ablk A', k ∈ ablk A ∨ (w1.heap.size ≤ k ∧ k < w2.heap.size)) : Own w0 w2 (.slice A' (n + k) c') (bs ++ ns) ∧ Ext w0 w2 := by
  obtain ⟨h1, _, h3⟩ := ho.open_
  subst h1 hk hys
  exact Own.app hx h3 hx1 hC hR (fun k hk => by
    have := hx1.size
    rcases hf2 k hk with h | h
    · exact .inl h
    · exact .inr ⟨by omega, h.2⟩)
end Go.Proofs.Ytgjaiikfgejgoaa
