/- Bytes: rows of bytes, bytes.Clone, what a writer puts (octets). No condition but that rows are short. -/
import Derived.Test.YtndcmjpacailjaaRo
import Derived.Test.YtndcmjpacailjaaFP
import Derived.Laws.BytesArg
import Derived.WalkLawsBesides
namespace Go.Proofs.Ytndcmjpacailjaa
open Go.RowKit
theorem run_eql_slice_nil {P : Program} (w : World) (t e : TypeId) (a : Option Addr) (l c : Nat) (h : P.underlying t = some (.slice e)) : (binOp .eql t (.slice a l c) (.slice none 0 0)).run P w = .ok (.bool a.isNone) w := by
  simp only [binOp]
  simp [run_equal_slice_nil w t e a l c h]
attribute [local go_sem] Later.cell QUpon_value QUpon_enter MUpon_value run_eql_slice_nil
/-- Bytes, as cells. -/
def bc (l : List Int) : List Value := l.map (Value.int .u8)
def Byt (l : List Int) : Prop := ∀ b ∈ l, 0 ≤ b ∧ b < 256
theorem bc_app (a b : List Int) : bc (a ++ b) = bc a ++ bc b := List.map_append
theorem bc_len (a : List Int) : (bc a).length = a.length := List.length_map _
theorem bc_one (l : List Int) : (bc l).all (·.oneCell') = true := by
  unfold bc
  rw [List.all_map]
  exact List.all_eq_true.2 (fun _ _ => rfl)
theorem Byt.app {a b : List Int} (ha : Byt a) (hb : Byt b) : Byt (a ++ b) := fun x hx => by
  rcases List.mem_append.1 hx with h | h
  · exact ha x h
  · exact hb x h
theorem Byt.left {a b : List Int} (h : Byt (a ++ b)) : Byt a := fun x hx => h x (List.mem_append.2 (.inl hx))
theorem Byt.right {a b : List Int} (h : Byt (a ++ b)) : Byt b := fun x hx => h x (List.mem_append.2 (.inr hx))
theorem u8Info : (Try.prog.info? 5).map (fun i => (i.zero, i.size, i.bytes)) = some (some (.int .u8 0), 1, 1) := by kernel_rfl
/-- A slice of bytes of the call's own. -/
def Own (w0 w : World) (v : Value) (bs : List Int) : Prop := ∃ A c, v = .slice A bs.length c ∧ Row w 5 1 A bs.length c (bc bs) ∧ ∀ k ∈ ablk A, w0.heap.size ≤ k ∧ k < w.heap.size
theorem Own.ext {w0 w w' : World} {v : Value} {bs : List Int} (h : Own w0 w v bs) (hx : Ext w w') : Own w0 w' v bs := by
  obtain ⟨A, c, rfl, hR, hf⟩ := h
  exact ⟨A, c, rfl, hR.ext hx, fun k hk => ⟨(hf k hk).1, Nat.lt_of_lt_of_le (hf k hk).2 hx.size⟩⟩
theorem Own.base {w0 w1 w : World} {v : Value} {bs : List Int} (h : Own w1 w v bs) (hx : Ext w0 w1) : Own w0 w v bs := by
  obtain ⟨A, c, rfl, hR, hf⟩ := h
  exact ⟨A, c, rfl, hR, fun k hk => ⟨Nat.le_trans hx.size (hf k hk).1, (hf k hk).2⟩⟩
theorem Own.baseC {w0 w1 w : World} {v : Value} {bs : List Int} {m : List Nat} (h : Own w1 w v bs) (hx : Chg w0 w1 m) : Own w0 w v bs := by
  obtain ⟨A, c, rfl, hR, hf⟩ := h
  exact ⟨A, c, rfl, hR, fun k hk => ⟨Nat.le_trans hx.size (hf k hk).1, (hf k hk).2⟩⟩
theorem Own.src {w0 w : World} {bs : List Int} {A : Option Addr} {n c : Nat} (h : Own w0 w (.slice A n c) bs) : Src w 1 A bs.length (bc bs) ∧ n = bs.length := by
  obtain ⟨A1, c1, h1, hR, _⟩ := h
  injection h1 with h1 h2 h3
  subst h1
  exact ⟨hR.src, h2⟩
theorem Own.chg {w0 w w' : World} {v : Value} {bs : List Int} {m : List Nat} (h : Own w0 w v bs) (hx : Chg w w' m) (hm : ∀ k ∈ m, k < w0.heap.size) : Own w0 w' v bs := by
  obtain ⟨A, c, rfl, hR, hf⟩ := h
  exact ⟨A, c, rfl, hR.chg hx (fun g hg h1 => by have := (hf g hg).1; have := hm g h1; omega), fun k hk => ⟨(hf k hk).1, Nat.lt_of_lt_of_le (hf k hk).2 hx.size⟩⟩
theorem Own.nil (w0 w : World) : Own w0 w (.slice none 0 0) [] := ⟨none, 0, rfl, Row.nil _ _ _ _, by simp [ablk]⟩
/-- Behind an append. -/
theorem Own.app {w0 w w1 w2 : World} {A A' : Option Addr} {bs ns : List Int} {c' : Nat} (hx : Ext w0 w) (hf : ∀ k ∈ ablk A, w0.heap.size ≤ k ∧ k < w.heap.size) (hx1 : Ext w w1) (hC : Chg w1 w2 (ablk A)) (hR : Row w2 5 1 A' (bs.length + ns.length) c' (bc bs ++ bc ns))
    (hf2 : ∀ k ∈ ablk A', k ∈ ablk A ∨ (w.heap.size ≤ k ∧ k < w2.heap.size)) : Own w0 w2 (.slice A' (bs.length + ns.length) c') (bs ++ ns) ∧ Ext w0 w2 := by
  have h1 := hx.size
  have h2 := hx1.size
  have h3 := hC.size
  refine ⟨⟨A', c', by rw [List.length_append], by rw [List.length_append, bc_app]; exact hR, fun k hk => ?_⟩, ?_⟩
  · rcases hf2 k hk with h | h
    · have := hf k h; omega
    · omega
  · exact (Chg.step (Chg.of_ext (hx.trans hx1) []) hC (fun i hi => .inr (hf i hi).1)).ext (by simp)
theorem eqNil {A : Option Addr} {n c : Nat} : A = none ∨ ∃ a, A = some a := by cases A; exact .inl rfl; exact .inr ⟨_, rfl⟩
theorem Own.open_ {w0 w : World} {A : Option Addr} {n c : Nat} {bs : List Int} (h : Own w0 w (.slice A n c) bs) : n = bs.length ∧ Row w 5 1 A n c (bc bs) ∧ ∀ k ∈ ablk A, w0.heap.size ≤ k ∧ k < w.heap.size := by
  obtain ⟨A1, c1, h1, hR, hf⟩ := h
  injection h1 with h1 h2 h3
  subst h1 h3
  exact ⟨h2, by rw [h2]; exact hR, hf⟩
theorem Own.app2 {w0 w w1 w2 : World} {A A' : Option Addr} {bs ns : List Int} {c c' n k : Nat} {ys : List Value} (ho : Own w0 w (.slice A n c) bs) (hx : Ext w0 w) (hx1 : Ext w w1) (hC : Chg w1 w2 (ablk A)) (hR : Row w2 5 1 A' (n + k) c' (bc bs ++ ys)) (hk : k = ns.length) (hys : ys = bc ns)
    (hf2 : ∀ k ∈ ablk A', k ∈ ablk A ∨ (w1.heap.size ≤ k ∧ k < w2.heap.size)) : Own w0 w2 (.slice A' (n + k) c') (bs ++ ns) ∧ Ext w0 w2 := by
  obtain ⟨h1, _, h3⟩ := ho.open_
  subst h1 hk hys
  exact Own.app hx h3 hx1 hC hR (fun k hk => by
    have := hx1.size
    rcases hf2 k hk with h | h
    · exact .inl h
    · exact .inr ⟨by omega, h.2⟩)
/-- bytes.Clone: a new row of the same bytes. -/
theorem clone_c (A : Option Addr) (n c : Nat) (xs : List Int) (w : World) (hR : Src w 1 A n (bc xs)) (hl : n ≤ 1000000000) :
    Calls Try.prog 44 #[.slice A n c] w fun e w' => Ext w w' ∧ ∃ v, e = .returned v ∧ Own w w' v xs := by
  cases A with
  | none =>
    have h0 : n = 0 := by
      rcases Nat.eq_zero_or_pos n with h | h
      · exact h
      · obtain ⟨_, h1, _⟩ := hR.at_ h; cases h1
    subst h0
    have hx : xs = [] := List.eq_nil_of_length_eq_zero (by have := hR.len; simpa [bc] using this)
    subst hx
    go_enter Try.func44, Try.ntmps44
    go_wp2_with fail
    first | refine fin_ret rfl (fun K hK => ?_) | refine fin_norm rfl (fun K hK => ?_)
    simp [results, Try.results44, go_sem, rsat]
    try go_simp
    refine hK _ ?_
    clear hK K
    exact ⟨(by repeat (first | (with_reducible exact Ext.refl _) | (with_reducible assumption) | (with_reducible refine Ext.alloc ?_ _) | (with_reducible refine Ext.drew ?_) | (with_reducible refine Ext.drewN ?_ _) | (with_reducible refine Ext.setCell ?_ (by simp; try omega) _) | (with_reducible refine Ext.setRow ?_ (by simp; try omega) _))), _, rfl, Own.nil _ _⟩
  | some a =>
    go_enter Try.func44, Try.ntmps44
    go_wp2_with (at_builtin; refine wpList_rowcat rfl _ _ 24 5 1 1 (.int .u8 0) rfl Try.underlying24 u8Info rfl (by decide) _ _ 0 0 [] rfl (Row.nil _ _ _ _) _ n c (bc xs) rfl (hR.ext (by exact (by repeat (first | (with_reducible exact Ext.refl _) | (with_reducible assumption) | (with_reducible refine Ext.alloc ?_ _) | (with_reducible refine Ext.drew ?_) | (with_reducible refine Ext.drewN ?_ _) | (with_reducible refine Ext.setCell ?_ (by simp; try omega) _) | (with_reducible refine Ext.setRow ?_ (by simp; try omega) _))))) (bc_one xs) (by unfold maxLen; omega) (by omega) ?_)
    intro A' c' w' hR' hC hf
    have hlx : xs.length = n := by have := hR.len; simpa [bc] using this
    subst hlx
    obtain ⟨o2, x2⟩ := Own.app (w0 := w) (bs := []) (ns := xs) ((Ext.refl w).alloc (.cells #[] 5)) (fun j hj => by simp [ablk] at hj; subst hj; simp) (Ext.refl _) hC (by simpa [bc] using hR') (fun j hj => by rw [World.size_alloc]; exact hf j hj)
    simp only [List.length_nil, List.nil_append, Nat.zero_add] at o2
    go_wp2_with fail
    first | refine fin_ret rfl (fun K hK => ?_) | refine fin_norm rfl (fun K hK => ?_)
    simp [results, Try.results44, go_sem, rsat]
    try go_simp
    refine hK _ ?_
    clear hK K
    exact ⟨x2, _, rfl, o2⟩
end Go.Proofs.Ytndcmjpacailjaa
