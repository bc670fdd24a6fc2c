/- Bytes (layer 3): a slice of the call's own; the writer; whole numbers. No condition. -/
import Derived.Test.YtndcmjpacailjaaRo
import Derived.Test.YtndcmjpacailjaaFP
import Derived.Laws.BytesArg
import Derived.WalkLawsBesides
/- Bytes: rows of bytes, bytes.Clone, what a writer puts (octets). No condition but that rows are short. -/
namespace Go.Proofs.Ytndcmjpacailjaa
open Go.RowKit
theorem run_eql_slice_nil {P : Program} (w : World) (t e : TypeId) (a : Option Addr) (l c : Nat) (h : P.underlying t = some (.slice e)) : (binOp .eql t (.slice a l c) (.slice none 0 0)).run P w = .ok (.bool a.isNone) w := by
  simp only [binOp]
  simp [run_equal_slice_nil w t e a l c h]
attribute [local go_sem] Later.cell QUpon_value QUpon_enter MUpon_value run_eql_slice_nil
/-- Bytes, as cells. -/
def bc (l : List Int) : List Value := l.map (Value.int .u8)
def Byt (l : List Int) : Prop := ∀ b ∈ l, 0 ≤ b ∧ b < 256
theorem bc_app (a b : List Int) : bc (a ++ b) = bc a ++ bc b := List.map_append
theorem bc_len (a : List Int) : (bc a).length = a.length := List.length_map _
theorem bc_one (l : List Int) : (bc l).all (·.oneCell') = true := by
  unfold bc
  rw [List.all_map]
  exact List.all_eq_true.2 (fun _ _ => rfl)
theorem Byt.app {a b : List Int} (ha : Byt a) (hb : Byt b) : Byt (a ++ b) := fun x hx => by
  rcases List.mem_append.1 hx with h | h
  · exact ha x h
  · exact hb x h
theorem Byt.left {a b : List Int} (h : Byt (a ++ b)) : Byt a := fun x hx => h x (List.mem_append.2 (.inl hx))
theorem Byt.right {a b : List Int} (h : Byt (a ++ b)) : Byt b := fun x hx => h x (List.mem_append.2 (.inr hx))
theorem u8Info : (Try.prog.info? 5).map (fun i => (i.zero, i.size, i.bytes)) = some (some (.int .u8 0), 1, 1) := by kernel_rfl
/-- A slice of bytes of the call's own. -/
def Own (w0 w : World) (v : Value) (bs : List Int) : Prop := ∃ A c, v = .slice A bs.length c ∧ Row w 5 1 A bs.length c (bc bs) ∧ ∀ k ∈ ablk A, w0.heap.size ≤ k ∧ k < w.heap.size
theorem Own.ext {w0 w w' : World} {v : Value} {bs : List Int} (h : Own w0 w v bs) (hx : Ext w w') : Own w0 w' v bs := by
  obtain ⟨A, c, rfl, hR, hf⟩ := h
  exact ⟨A, c, rfl, hR.ext hx, fun k hk => ⟨(hf k hk).1, Nat.lt_of_lt_of_le (hf k hk).2 hx.size⟩⟩
theorem Own.base {w0 w1 w : World} {v : Value} {bs : List Int} (h : Own w1 w v bs) (hx : Ext w0 w1) : Own w0 w v bs := by
  obtain ⟨A, c, rfl, hR, hf⟩ := h
  exact ⟨A, c, rfl, hR, fun k hk => ⟨Nat.le_trans hx.size (hf k hk).1, (hf k hk).2⟩⟩
theorem Own.baseC {w0 w1 w : World} {v : Value} {bs : List Int} {m : List Nat} (h : Own w1 w v bs) (hx : Chg w0 w1 m) : Own w0 w v bs := by
  obtain ⟨A, c, rfl, hR, hf⟩ := h
  exact ⟨A, c, rfl, hR, fun k hk => ⟨Nat.le_trans hx.size (hf k hk).1, (hf k hk).2⟩⟩
theorem Own.src {w0 w : World} {bs : List Int} {A : Option Addr} {n c : Nat} (h : Own w0 w (.slice A n c) bs) : Src w 1 A bs.length (bc bs) ∧ n = bs.length := by
  obtain ⟨A1, c1, h1, hR, _⟩ := h
  injection h1 with h1 h2 h3
  subst h1
  exact ⟨hR.src, h2⟩
theorem Own.chg {w0 w w' : World} {v : Value} {bs : List Int} {m : List Nat} (h : Own w0 w v bs) (hx : Chg w w' m) (hm : ∀ k ∈ m, k < w0.heap.size) : Own w0 w' v bs := by
  obtain ⟨A, c, rfl, hR, hf⟩ := h
  exact ⟨A, c, rfl, hR.chg hx (fun g hg h1 => by have := (hf g hg).1; have := hm g h1; omega), fun k hk => ⟨(hf k hk).1, Nat.lt_of_lt_of_le (hf k hk).2 hx.size⟩⟩
theorem Own.nil (w0 w : World) : Own w0 w (.slice none 0 0) [] := ⟨none, 0, rfl, Row.nil _ _ _ _, by simp [ablk]⟩
/-- Behind an append. -/
theorem Own.app {w0 w w1 w2 : World} {A A' : Option Addr} {bs ns : List Int} {c' : Nat} (hx : Ext w0 w) (hf : ∀ k ∈ ablk A, w0.heap.size ≤ k ∧ k < w.heap.size) (hx1 : Ext w w1) (hC : Chg w1 w2 (ablk A)) (hR : Row w2 5 1 A' (bs.length + ns.length) c' (bc bs ++ bc ns))
    (hf2 : ∀ k ∈ ablk A', k ∈ ablk A ∨ (w.heap.size ≤ k ∧ k < w2.heap.size)) : Own w0 w2 (.slice A' (bs.length + ns.length) c') (bs ++ ns) ∧ Ext w0 w2 := by
  have h1 := hx.size
  have h2 := hx1.size
  have h3 := hC.size
  refine ⟨⟨A', c', by rw [List.length_append], by rw [List.length_append, bc_app]; exact hR, fun k hk => ?_⟩, ?_⟩
  · rcases hf2 k hk with h | h
    · have := hf k h; omega
    · omega
  · exact (Chg.step (Chg.of_ext (hx.trans hx1) []) hC (fun i hi => .inr (hf i hi).1)).ext (by simp)
theorem eqNil {A : Option Addr} {n c : Nat} : A = none ∨ ∃ a, A = some a := by cases A; exact .inl rfl; exact .inr ⟨_, rfl⟩
theorem Own.open_ {w0 w : World} {A : Option Addr} {n c : Nat} {bs : List Int} (h : Own w0 w (.slice A n c) bs) : n = bs.length ∧ Row w 5 1 A n c (bc bs) ∧ ∀ k ∈ ablk A, w0.heap.size ≤ k ∧ k < w.heap.size := by
  obtain ⟨A1, c1, h1, hR, hf⟩ := h
  injection h1 with h1 h2 h3
  subst h1 h3
  exact ⟨h2, by rw [h2]; exact hR, hf⟩
theorem Own.app2 {w0 w w1 w2 : World} {A A' : Option Addr} {bs ns : List Int} {c c' n k : Nat} {ys : List Value} (ho : Own w0 w (.slice A n c) bs) (hx : Ext w0 w) (hx1 : Ext w w1) (hC : Chg w1 w2 (ablk A)) (hR : Row w2 5 1 A' (n + k) c' (bc bs ++ ys)) (hk : k = ns.length) (hys : ys = bc ns)
    (hf2 : ∀ k ∈ ablk A', k ∈ ablk A ∨ (w1.heap.size ≤ k ∧ k < w2.heap.size)) : Own w0 w2 (.slice A' (n + k) c') (bs ++ ns) ∧ Ext w0 w2 := by
  obtain ⟨h1, _, h3⟩ := ho.open_
  subst h1 hk hys
  exact Own.app hx h3 hx1 hC hR (fun k hk => by
    have := hx1.size
    rcases hf2 k hk with h | h
    · exact .inl h
    · exact .inr ⟨by omega, h.2⟩)
/-- bytes.Clone: a new row of the same bytes. -/
theorem clone_c (A : Option Addr) (n c : Nat) (xs : List Int) (w : World) (hR : Src w 1 A n (bc xs)) (hl : n ≤ 1000000000) :
    Calls Try.prog 44 #[.slice A n c] w fun e w' => Ext w w' ∧ ∃ v, e = .returned v ∧ Own w w' v xs := by
  cases A with
  | none =>
    have h0 : n = 0 := by
      rcases Nat.eq_zero_or_pos n with h | h
      · exact h
      · obtain ⟨_, h1, _⟩ := hR.at_ h; cases h1
    subst h0
    have hx : xs = [] := List.eq_nil_of_length_eq_zero (by have := hR.len; simpa [bc] using this)
    subst hx
    go_enter Try.func44, Try.ntmps44
    go_wp2_with fail
    first | refine fin_ret rfl (fun K hK => ?_) | refine fin_norm rfl (fun K hK => ?_)
    simp [results, Try.results44, go_sem, rsat]
    try go_simp
    refine hK _ ?_
    clear hK K
    exact ⟨(by repeat (first | (with_reducible exact Ext.refl _) | (with_reducible assumption) | (with_reducible refine Ext.alloc ?_ _) | (with_reducible refine Ext.drew ?_) | (with_reducible refine Ext.drewN ?_ _) | (with_reducible refine Ext.setCell ?_ (by simp; try omega) _) | (with_reducible refine Ext.setRow ?_ (by simp; try omega) _))), _, rfl, Own.nil _ _⟩
  | some a =>
    go_enter Try.func44, Try.ntmps44
    go_wp2_with (at_builtin; refine wpList_rowcat rfl _ _ 24 5 1 1 (.int .u8 0) rfl Try.underlying24 u8Info rfl (by decide) _ _ 0 0 [] rfl (Row.nil _ _ _ _) _ n c (bc xs) rfl (hR.ext (by exact (by repeat (first | (with_reducible exact Ext.refl _) | (with_reducible assumption) | (with_reducible refine Ext.alloc ?_ _) | (with_reducible refine Ext.drew ?_) | (with_reducible refine Ext.drewN ?_ _) | (with_reducible refine Ext.setCell ?_ (by simp; try omega) _) | (with_reducible refine Ext.setRow ?_ (by simp; try omega) _))))) (bc_one xs) (by unfold maxLen; omega) (by omega) ?_)
    intro A' c' w' hR' hC hf
    have hlx : xs.length = n := by have := hR.len; simpa [bc] using this
    subst hlx
    obtain ⟨o2, x2⟩ := Own.app (w0 := w) (bs := []) (ns := xs) ((Ext.refl w).alloc (.cells #[] 5)) (fun j hj => by simp [ablk] at hj; subst hj; simp) (Ext.refl _) hC (by simpa [bc] using hR') (fun j hj => by rw [World.size_alloc]; exact hf j hj)
    simp only [List.length_nil, List.nil_append, Nat.zero_add] at o2
    go_wp2_with fail
    first | refine fin_ret rfl (fun K hK => ?_) | refine fin_norm rfl (fun K hK => ?_)
    simp [results, Try.results44, go_sem, rsat]
    try go_simp
    refine hK _ ?_
    clear hK K
    exact ⟨x2, _, rfl, o2⟩
end Go.Proofs.Ytndcmjpacailjaa
/- What a writer puts (octets). Condition: at most 10^9 bytes. -/
namespace Go.Proofs.Ytndcmjpacailjaa
open Go.RowKit
attribute [local go_sem] Later.cell QUpon_value QUpon_enter MUpon_value run_eql_slice_nil
/-- A writer: its block, its bytes. -/
structure Wr (w : World) (g : Nat) (A : Option Addr) (bs : List Int) : Prop where
  by_ : Byt bs
  alt : ∀ k ∈ ablk A, k < w.heap.size ∧ k ≠ g
  ex : ∃ c, At w g 43 #[.slice A bs.length c] ∧ Row w 5 1 A bs.length c (bc bs)
theorem Wr.ext {w w' : World} {g : Nat} {A : Option Addr} {bs : List Int} (h : Wr w g A bs) (hx : Ext w w') : Wr w' g A bs :=
  ⟨h.by_, fun k hk => ⟨Nat.lt_of_lt_of_le (h.alt k hk).1 hx.size, (h.alt k hk).2⟩, let ⟨c, hA, hR⟩ := h.ex; ⟨c, hA.ext hx, hR.ext hx⟩⟩
theorem Wr.chg {w w' : World} {g : Nat} {A : Option Addr} {bs : List Int} {m : List Nat} (h : Wr w g A bs) (hx : Chg w w' m) (hg : g ∉ m) (hA : ∀ k ∈ ablk A, k ∉ m) : Wr w' g A bs :=
  ⟨h.by_, fun k hk => ⟨Nat.lt_of_lt_of_le (h.alt k hk).1 hx.size, (h.alt k hk).2⟩, let ⟨c, hA1, hR⟩ := h.ex; ⟨c, hx.at hA1 hg, hR.chg hx hA⟩⟩
/-- What a putting leaves: the writer with more bytes; besides it and its row only new blocks. -/
structure Puts (w : World) (g : Nat) (A : Option Addr) (bs : List Int) (w' : World) (A' : Option Addr) : Prop where
  wr : Wr w' g A' bs
  chg : Chg w w' (g :: ablk A)
  fresh : ∀ k ∈ ablk A', k ∈ ablk A ∨ w.heap.size ≤ k
theorem Puts.refl {w : World} {g : Nat} {A : Option Addr} {bs : List Int} (h : Wr w g A bs) : Puts w g A bs w A := ⟨h, Chg.refl _ _, fun _ hk => .inl hk⟩
theorem Puts.trans {w w1 w2 : World} {g : Nat} {A A1 A2 : Option Addr} {bs cs : List Int} (h : Puts w g A bs w1 A1) (k : Puts w1 g A1 cs w2 A2) : Puts w g A cs w2 A2 :=
  ⟨k.wr, h.chg.step k.chg (fun i hi => by
    rcases List.mem_cons.1 hi with rfl | h1
    · exact .inl (by simp)
    · rcases h.fresh i h1 with h2 | h2
      · exact .inl (by simp [h2])
      · exact .inr h2), fun i hi => by
    rcases k.fresh i hi with h1 | h1
    · exact h.fresh i h1
    · exact .inr (Nat.le_trans h.chg.size h1)⟩
theorem Puts.extL {w w0 w1 : World} {g : Nat} {A A1 : Option Addr} {bs : List Int} (hx : Ext w w0) (k : Puts w0 g A bs w1 A1) : Puts w g A bs w1 A1 :=
  ⟨k.wr, (Chg.of_ext hx _).trans k.chg, fun i hi => by
    rcases k.fresh i hi with h1 | h1
    · exact .inl h1
    · exact .inr (Nat.le_trans hx.size h1)⟩
theorem Puts.extR {w w1 w2 : World} {g : Nat} {A A1 : Option Addr} {bs : List Int} (k : Puts w g A bs w1 A1) (hx : Ext w1 w2) : Puts w g A bs w2 A1 :=
  ⟨k.wr.ext hx, k.chg.extR hx, k.fresh⟩
/-- Behind an append of bytes the new slice is stored. -/
theorem Puts.mk' {w w1 w2 : World} {g : Nat} {A A' : Option Addr} {bs ns : List Int} {c' : Nat} (hW : Wr w g A bs) (hn : Byt ns) (hx : Ext w w1) (hC : Chg w1 w2 (ablk A)) (hR : Row w2 5 1 A' (bs.length + ns.length) c' (bc bs ++ bc ns))
    (hf : ∀ k ∈ ablk A', k ∈ ablk A ∨ (w.heap.size ≤ k ∧ k < w2.heap.size)) : Puts w g A (bs ++ ns) (w2.setCell ⟨g, 0, none⟩ (.slice A' (bs.length + ns.length) c')) A' := by
  obtain ⟨c, hA, _⟩ := hW.ex
  have hg := hA.lt
  have hgA : g ∉ ablk A := fun h => (hW.alt g h).2 rfl
  have hgA' : g ∉ ablk A' := fun h => by
    rcases hf g h with h1 | h1
    · exact hgA h1
    · omega
  have hA2 := hC.at (hA.ext hx) hgA
  refine ⟨⟨hW.by_.app hn, fun k hk => ⟨?_, fun e => hgA' (e ▸ hk)⟩, c', ?_, ?_⟩, ?_, fun k hk => ?_⟩
  · have h1 := (hW.alt k · |>.1)
    have h2 := hC.size
    have h3 := hx.size
    rcases hf k hk with h | h
    · have := h1 h; simp; omega
    · simp; omega
  · rw [List.length_append]
    exact hA2.set 0 _
  · rw [List.length_append, bc_app]
    exact hR.set hgA' _
  · exact ((Chg.of_ext hx _).step hC (fun i hi => .inl (by simp [hi]))).set (.inl (by simp)) _
  · rcases hf k hk with h | h
    · exact .inl h
    · exact .inr h.1
/-- The bytes of a Num. -/
def numB (n : Nat) : List Int := if h : n < 128 then [(n : Int)] else ((n % 128 + 128 : Nat) : Int) :: numB (n / 128)
termination_by n
theorem numB_small {n : Nat} (h : n < 128) : numB n = [(n : Int)] := by
  rw [numB]; simp [h]
theorem numB_big {n : Nat} (h : ¬ n < 128) : numB n = ((n % 128 + 128 : Nat) : Int) :: numB (n / 128) := by
  rw [numB]; simp [h]
theorem numB_byt (n : Nat) : Byt (numB n) := by
  induction n using Nat.strongRecOn with
  | ind n ih =>
    by_cases h : n < 128
    · rw [numB_small h]
      intro x hx
      simp at hx
      omega
    · rw [numB_big h]
      intro x hx
      rcases List.mem_cons.1 hx with h1 | h1
      · omega
      · exact ih (n / 128) (by omega) x h1
theorem numB_len (k : Nat) : ∀ n, n < 128 ^ k → 0 < k → (numB n).length ≤ k := by
  induction k with
  | zero => intro n _ h; omega
  | succ k ih =>
    intro n hn _
    by_cases h : n < 128
    · rw [numB_small h]; simp
    · rw [numB_big h]
      rw [Nat.pow_succ] at hn
      have hk : 0 < k := by
        rcases Nat.eq_zero_or_pos k with h1 | h1
        · subst h1; simp at hn; omega
        · exact h1
      have := ih (n / 128) (by omega) hk
      simp; omega
theorem numB_len64 {n : Nat} (h : n < 18446744073709551616) : (numB n).length ≤ 10 := numB_len 10 n (by omega) (by decide)
theorem or128 : ∀ x : Fin 256, bits BinOp.or IntKind.u8 ((x.val : Nat) : Int) 128 = ((x.val % 128 + 128 : Nat) : Int) := by decide +kernel
theorem u8_wrap (m : Nat) : IntKind.u8.wrap (m : Int) = ((m % 256 : Nat) : Int) := by
  simp [IntKind.wrap, IntKind.bits, IntKind.signed]
theorem or_more (m : Nat) : bits BinOp.or IntKind.u8 (IntKind.u8.wrap (m : Int)) 128 = ((m % 128 + 128 : Nat) : Int) := by
  rw [u8_wrap]
  have h := or128 ⟨m % 256, by omega⟩
  simp only at h
  rw [h]
  omega
set_option maxHeartbeats 2000000 in
set_option maxRecDepth 100000 in
theorem num_c (g : Nat) (A : Option Addr) (bs : List Int) (n : Nat) (hn : n < 18446744073709551616) (w : World) (hW : Wr w g A bs) (hl : bs.length ≤ 1000000000) :
    Calls Try.prog 22 #[.pointer (some ⟨g, 0, none⟩), .int .u64 n] w fun e w' => e = .returned (.pointer (some ⟨g, 0, none⟩)) ∧ ∃ A', Puts w g A (bs ++ numB n) w' A' := by
  go_enter Try.func22, Try.ntmps22
  go_wp2_with fail
  go_loopw [1] (fun i wr => ∃ (m : Nat) (ds : List Int) (A1 : Option Addr), i = .int .u64 m ∧ m ≤ n ∧ bs ++ numB n = ds ++ numB m ∧ ds.length + (numB m).length ≤ 1000000010 ∧ Puts w g A ds wr A1) (fun i _ => (intOf i).toNat)
  case atStart => exact ⟨n, bs, A, rfl, Nat.le_refl _, rfl, by have := numB_len64 hn; omega, Puts.refl hW⟩
  case round =>
    obtain ⟨m, ds, A1, rfl, hm, hds, hdl, hP⟩ := hrel
    obtain ⟨c, hA, hR⟩ := hP.wr.ex
    have sg := hA.lt
    have c0 : wr.cell? ⟨g, 0, none⟩ = some (.slice A1 ds.length c) := hA.cell 0
    have hgA1 : g ∉ ablk A1 := fun h => (hP.wr.alt g h).2 rfl
    by_cases hs : m < 128
    · have ew : IntKind.u8.wrap (m : Int) = (m : Int) := by rw [u8_wrap, Nat.mod_eq_of_lt (by omega)]
      rw [numB_small hs] at hds hdl
      go_wp2_with (at_builtin; refine wpList_rowapp rfl _ _ 24 5 1 1 (.int .u8 0) rfl Try.underlying24 u8Info rfl (by decide) _ A1 ds.length c (bc ds) rfl hR [.int .u8 (m : Int)] rfl rfl rfl (by simp at hdl; unfold maxLen; omega) (by simp at hdl; omega) ?_)
      intro A' c' w2 hR2 hC2 hf2
      have hP2 := Puts.mk' (ns := [(m : Int)]) hP.wr (by intro x hx; simp at hx; omega) ((Ext.refl wr).alloc _) hC2 hR2 hf2
      have hA2 := hC2.at (hA.alloc (.cells #[.int .u8 (m : Int)] 5)) hgA1
      have b0 : w2.cell? ⟨g, 0, none⟩ = some (.slice A1 ds.length c) := hA2.cell 0
      have f0 := hA2.frozen 0
      go_wp2_with fail
      first | refine fin_ret rfl (fun K hK => ?_) | refine fin_norm rfl (fun K hK => ?_)
      simp [results, Try.results22, go_sem, rsat]
      try go_simp
      refine hK _ ?_
      clear hK K
      refine ⟨rfl, A', ?_⟩
      rw [hds]
      exact hP.trans hP2
    · obtain ⟨b, hb⟩ : ∃ b : Int, b = ((m % 128 + 128 : Nat) : Int) := ⟨_, rfl⟩
      have eo : bits BinOp.or IntKind.u8 ((m : Int) % 256) 128 = b := by
        rw [hb, ← or_more m, u8_wrap]
        rfl
      rw [numB_big hs, ← hb] at hds hdl
      have hb0 : 0 ≤ b ∧ b < 256 := by omega
      have HB := Lib.hid hb
      clear hb
      go_wp2_with (at_builtin; refine wpList_rowapp rfl _ _ 24 5 1 1 (.int .u8 0) rfl Try.underlying24 u8Info rfl (by decide) _ A1 ds.length c (bc ds) rfl hR [.int .u8 b] rfl rfl rfl (by simp at hdl; unfold maxLen; omega) (by simp at hdl; omega) ?_)
      intro A' c' w2 hR2 hC2 hf2
      have hP2 := Puts.mk' (ns := [b]) hP.wr (by intro x hx; simp at hx; omega) ((Ext.refl wr).alloc _) hC2 hR2 hf2
      have hA2 := hC2.at (hA.alloc (.cells #[.int .u8 b] 5)) hgA1
      have b0 : w2.cell? ⟨g, 0, none⟩ = some (.slice A1 ds.length c) := hA2.cell 0
      have f0 := hA2.frozen 0
      go_wp2_with fail
      go_roundw
      case rel => exact ⟨m / 128, ds ++ [b], A', by go_num, by omega, by rw [hds]; simp, by simp at hdl ⊢; omega, hP.trans hP2⟩
      case measure => simp [intOf]; omega
end Go.Proofs.Ytndcmjpacailjaa
/- What a writer puts, 2 (octets): Uint, Raw, Int, Bytes. Condition: at most 10^9 bytes. -/
namespace Go.Proofs.Ytndcmjpacailjaa
open Go.RowKit
attribute [local go_sem] Later.cell QUpon_value QUpon_enter MUpon_value run_eql_slice_nil
/-- The last k bytes of a number, the greatest ahead. -/
def uintB (n : Nat) : Nat → List Int
  | 0 => []
  | k + 1 => ((n / 256 ^ k % 256 : Nat) : Int) :: uintB n k
theorem uintB_byt (n k : Nat) : Byt (uintB n k) := by
  induction k with
  | zero => intro x hx; cases hx
  | succ k ih =>
    intro x hx
    rcases List.mem_cons.1 hx with h | h
    · omega
    · exact ih x h
theorem uintB_len (n k : Nat) : (uintB n k).length = k := by
  induction k with
  | zero => rfl
  | succ k ih => simp [uintB, ih]
theorem byte_of (n k : Nat) : IntKind.u8.wrap ((n : Int) / 2 ^ (8 * (k : Int)).toNat) = ((n / 256 ^ k % 256 : Nat) : Int) := by
  have e1 : (8 * (k : Int)).toNat = 8 * k := by omega
  have e2 : (2 : Int) ^ (8 * k) = ((256 ^ k : Nat) : Int) := by
    rw [show (256 : Nat) = 2 ^ 8 from rfl, ← Nat.pow_mul]
    simp
  rw [e1, e2, ← Int.natCast_ediv, u8_wrap]
set_option maxHeartbeats 2000000 in
set_option maxRecDepth 100000 in
theorem uint_c (g : Nat) (A : Option Addr) (bs : List Int) (n size : Nat) (hn : n < 18446744073709551616) (hs : 1 ≤ size ∧ size ≤ 8) (w : World) (hW : Wr w g A bs) (hl : bs.length ≤ 1000000000) :
    Calls Try.prog 43 #[.pointer (some ⟨g, 0, none⟩), .int .u64 n, .int .i64 size] w fun e w' => e = .returned (.pointer (some ⟨g, 0, none⟩)) ∧ ∃ A', Puts w g A (bs ++ uintB n size) w' A' := by
  go_enter Try.func43, Try.ntmps43
  go_wp2_with fail
  go_loopw [7] (fun i wr => ∃ (k : Nat) (ds : List Int) (A1 : Option Addr), i = .int .i64 ((k : Int) - 1) ∧ k ≤ size ∧ bs ++ uintB n size = ds ++ uintB n k ∧ ds.length + k ≤ 1000000008 ∧ Puts w g A ds wr A1) (fun i _ => (intOf i + 1).toNat)
  case atStart => exact ⟨size, bs, A, by go_num, Nat.le_refl _, rfl, by omega, Puts.refl hW⟩
  case round =>
    obtain ⟨k, ds, A1, rfl, hk, hds, hdl, hP⟩ := hrel
    obtain ⟨c, hA, hR⟩ := hP.wr.ex
    have sg := hA.lt
    have hgA1 : g ∉ ablk A1 := fun h => (hP.wr.alt g h).2 rfl
    cases k with
    | zero =>
      go_wp2_with fail
      first | refine fin_ret rfl (fun K hK => ?_) | refine fin_norm rfl (fun K hK => ?_)
      simp [results, Try.results43, go_sem, rsat]
      try go_simp
      refine hK _ ?_
      clear hK K
      refine ⟨rfl, A1, ?_⟩
      rw [hds, show uintB n 0 = [] from rfl, List.append_nil]
      exact hP
    | succ k =>
      have c0 : wr.cell? ⟨g, 0, none⟩ = some (.slice A1 ds.length c) := hA.cell 0
      have h8 : IntKind.i64.wrap (8 * (k : Int)) = 8 * (k : Int) := by rw [IntWalk.i64_left, wrap64_in ⟨by omega, by omega⟩]
      go_wp2_with fail
      refine gen_world (fun W => W = wr) rfl (fun w1 hF => ?_)
      subst hF
      obtain ⟨b, hb⟩ : ∃ b : Int, b = ((n / 256 ^ k % 256 : Nat) : Int) := ⟨_, rfl⟩
      have hb8 := byte_of n k
      rw [← hb] at hb8
      have hb0 : 0 ≤ b ∧ b < 256 := by omega
      have hds' : bs ++ uintB n size = ds ++ b :: uintB n k := by rw [hds, hb]; rfl
      have HB := Lib.hid hb
      clear hb
      refine wp_region_m 11 [0, 0, 0, 0, 1, 0, 0, 0, 0, 0, 2] 10 (MadeS w1 5 1 #[.int .u8 b]) _ (by kernel_rfl) (by kernel_rfl) rfl (by omega) rfl MadeS.ext ?_
      simp only [List.take_succ_cons, List.take_zero, List.drop_succ_cons, List.drop_zero]
      refine hl_pure (fun K hK => ?_)
      go_simp
      refine hK _ ?_
      clear hK K
      refine hl_pure (fun K hK => ?_)
      go_simp
      refine hK _ ?_
      clear hK K
      refine hl_pure (fun K hK => ?_)
      go_simp
      refine hK _ ?_
      clear hK K
      refine hl_pure (fun K hK => ?_)
      go_simp
      refine hK _ ?_
      clear hK K
      refine hl_quiet (fun K hK => ?_)
      go_simp
      refine hK _ ?_
      clear hK K
      refine hl_pure (fun K hK => ?_)
      go_simp
      refine hK _ ?_
      clear hK K
      refine hl_pure (fun K hK => ?_)
      go_simp
      refine hK _ ?_
      clear hK K
      refine hl_pure (fun K hK => ?_)
      go_simp
      refine hK _ ?_
      clear hK K
      refine hl_pure (fun K hK => ?_)
      go_simp
      refine hK _ ?_
      clear hK K
      refine hl_pure (fun K hK => ?_)
      go_simp
      refine hK _ ?_
      clear hK K
      refine hl_make rfl (fun x => by go_simp; exact Later.mades x _ _ _) ?_
      refine hl_nil ?_
      intro u2 w2 hx2 hu2 K2 hK2
      obtain ⟨q2, rfl, hq2, hB2⟩ := hu2
      have hR2 := hR.ext hx2
      have hA2 := hA.ext hx2
      go_wp2_with (at_builtin; refine wpList_rowcat rfl _ _ 24 5 1 1 (.int .u8 0) rfl Try.underlying24 u8Info rfl (by decide) _ A1 ds.length c (bc ds) rfl hR2 _ 1 1 _ rfl (Src.at hB2 rfl) rfl (by unfold maxLen; omega) (by omega) ?_)
      intro A' c' w3 hR3 hC3 hf3
      have hP3 := Puts.mk' (ns := [b]) hP.wr (by intro x hx; simp at hx; omega) hx2 hC3 hR3 (fun j hj => by rcases hf3 j hj with h | h; exact .inl h; exact .inr ⟨Nat.le_trans hx2.size h.1, h.2⟩)
      have hA3 := hC3.at hA2 hgA1
      have b0 : w3.cell? ⟨g, 0, none⟩ = some (.slice A1 ds.length c) := hA3.cell 0
      have f0 := hA3.frozen 0
      go_wp2_with fail
      go_roundw
      case rel => exact ⟨k, ds ++ [b], A', by go_num, by omega, by rw [hds']; simp, by simp; omega, hP.trans hP3⟩
      case measure => simp [intOf]; try omega
theorem uint_out (g : Nat) (n size : Int) (hs : size < 1 ∨ 8 < size) (w : World) :
    Calls Try.prog 43 #[.pointer (some ⟨g, 0, none⟩), .int .u64 n, .int .i64 size] w fun e w' => e = .returned (.pointer (some ⟨g, 0, none⟩)) ∧ Ext w w' := by
  by_cases h : size < 1
  ·
    go_enter Try.func43, Try.ntmps43
    go_wp2_with fail
    first | refine fin_ret rfl (fun K hK => ?_) | refine fin_norm rfl (fun K hK => ?_)
    simp [results, Try.results43, go_sem, rsat]
    try go_simp
    refine hK _ ?_
    clear hK K
    exact ⟨rfl, (by repeat (first | (with_reducible exact Ext.refl _) | (with_reducible assumption) | (with_reducible refine Ext.alloc ?_ _) | (with_reducible refine Ext.drew ?_) | (with_reducible refine Ext.drewN ?_ _) | (with_reducible refine Ext.setCell ?_ (by simp; try omega) _) | (with_reducible refine Ext.setRow ?_ (by simp; try omega) _)))⟩
  · have h2 : 8 < size := by omega
    go_enter Try.func43, Try.ntmps43
    go_wp2_with fail
    first | refine fin_ret rfl (fun K hK => ?_) | refine fin_norm rfl (fun K hK => ?_)
    simp [results, Try.results43, go_sem, rsat]
    try go_simp
    refine hK _ ?_
    clear hK K
    exact ⟨rfl, (by repeat (first | (with_reducible exact Ext.refl _) | (with_reducible assumption) | (with_reducible refine Ext.alloc ?_ _) | (with_reducible refine Ext.drew ?_) | (with_reducible refine Ext.drewN ?_ _) | (with_reducible refine Ext.setCell ?_ (by simp; try omega) _) | (with_reducible refine Ext.setRow ?_ (by simp; try omega) _)))⟩
theorem uint_nil (n size : Int) (w : World) :
    Calls Try.prog 43 #[.pointer none, .int .u64 n, .int .i64 size] w fun e w' => e = .returned (.pointer none) ∧ Ext w w' := by
  go_enter Try.func43, Try.ntmps43
  go_wp2_with fail
  first | refine fin_ret rfl (fun K hK => ?_) | refine fin_norm rfl (fun K hK => ?_)
  simp [results, Try.results43, go_sem, rsat]
  try go_simp
  refine hK _ ?_
  clear hK K
  exact ⟨rfl, (by repeat (first | (with_reducible exact Ext.refl _) | (with_reducible assumption) | (with_reducible refine Ext.alloc ?_ _) | (with_reducible refine Ext.drew ?_) | (with_reducible refine Ext.drewN ?_ _) | (with_reducible refine Ext.setCell ?_ (by simp; try omega) _) | (with_reducible refine Ext.setRow ?_ (by simp; try omega) _)))⟩
theorem num_nil (n : Int) (w : World) :
    Calls Try.prog 22 #[.pointer none, .int .u64 n] w fun e w' => e = .returned (.pointer none) ∧ Ext w w' := by
  go_enter Try.func22, Try.ntmps22
  go_wp2_with fail
  first | refine fin_ret rfl (fun K hK => ?_) | refine fin_norm rfl (fun K hK => ?_)
  simp [results, Try.results22, go_sem, rsat]
  try go_simp
  refine hK _ ?_
  clear hK K
  exact ⟨rfl, (by repeat (first | (with_reducible exact Ext.refl _) | (with_reducible assumption) | (with_reducible refine Ext.alloc ?_ _) | (with_reducible refine Ext.drew ?_) | (with_reducible refine Ext.drewN ?_ _) | (with_reducible refine Ext.setCell ?_ (by simp; try omega) _) | (with_reducible refine Ext.setRow ?_ (by simp; try omega) _)))⟩
/-- A signed number as one without a sign. -/
def turnN (s : Int) : Nat := if 0 ≤ s then (2 * s).toNat else (-2 * s - 1).toNat
theorem turnN_lt {s : Int} (h : I64 s) : turnN s < 18446744073709551616 := by
  obtain ⟨h1, h2⟩ := h
  unfold turnN
  split <;> omega
def intB (s : Int) : List Int := uintB (turnN s) 8
theorem xor_u64 (a b : Int) : bits .xor .u64 a b = IntKind.u64.wrap ((BitVec.ofInt 64 a ^^^ BitVec.ofInt 64 b).toNat : Int) := rfl
theorem turn_eq {s : Int} (h : I64 s) : bits .xor .u64 (IntKind.u64.wrap (wrap64 (s * 2))) (IntKind.u64.wrap (s / 9223372036854775808)) = (turnN s : Nat) := by
  have hs := h
  obtain ⟨h1, h2⟩ := h
  unfold turnN
  by_cases h0 : 0 ≤ s
  · have e1 : IntKind.u64.wrap (wrap64 (s * 2)) = 2 * s := by rw [IntKind.wrap_u64]; unfold wrap64; omega
    have e2 : IntKind.u64.wrap (s / 9223372036854775808) = 0 := by rw [IntKind.wrap_u64]; omega
    rw [e1, e2, if_pos h0, xor_u64, show BitVec.ofInt 64 0 = 0#64 from rfl, BitVec.xor_zero, IntKind.wrap_u64, BitVec.toNat_ofInt]
    simp only [Nat.reducePow]
    omega
  · have e1 : IntKind.u64.wrap (wrap64 (s * 2)) = 2 * s + 18446744073709551616 := by rw [IntKind.wrap_u64]; unfold wrap64; omega
    have e2 : IntKind.u64.wrap (s / 9223372036854775808) = 18446744073709551615 := by rw [IntKind.wrap_u64]; omega
    rw [e1, e2, if_neg h0, xor_u64, show BitVec.ofInt 64 18446744073709551615 = BitVec.allOnes 64 from rfl, BitVec.xor_allOnes, IntKind.wrap_u64, BitVec.toNat_not, BitVec.toNat_ofInt]
    simp only [Nat.reducePow]
    omega
theorem int_c (g : Nat) (A : Option Addr) (bs : List Int) (s : Int) (hs : I64 s) (w : World) (hW : Wr w g A bs) (hl : bs.length ≤ 1000000000) :
    Calls Try.prog 23 #[.pointer (some ⟨g, 0, none⟩), .int .i64 s] w fun e w' => e = .returned (.pointer (some ⟨g, 0, none⟩)) ∧ ∃ A', Puts w g A (bs ++ intB s) w' A' := by
  have C := uint_c g A bs (turnN s) 8 (turnN_lt hs) (by decide) w hW hl
  rw [← turn_eq hs] at C
  go_enter Try.func23, Try.ntmps23
  go_wp2_with fail
  refine C.mono ?_
  rintro e w1 ⟨rfl, A1, hP⟩
  go_wp2_with fail
  first | refine fin_ret rfl (fun K hK => ?_) | refine fin_norm rfl (fun K hK => ?_)
  simp [results, Try.results23, go_sem, rsat]
  try go_simp
  refine hK _ ?_
  clear hK K
  exact ⟨rfl, A1, hP⟩
theorem int_nil (s : Int) (w : World) :
    Calls Try.prog 23 #[.pointer none, .int .i64 s] w fun e w' => e = .returned (.pointer none) ∧ Ext w w' := by
  go_enter Try.func23, Try.ntmps23
  go_wp2_with fail
  refine (uint_nil _ _ _).mono ?_
  rintro e w1 ⟨rfl, hxw1⟩
  have xw1 : Ext w w1 := Ext.trans (by repeat (first | (with_reducible exact Ext.refl _) | (with_reducible assumption) | (with_reducible refine Ext.alloc ?_ _) | (with_reducible refine Ext.drew ?_) | (with_reducible refine Ext.drewN ?_ _) | (with_reducible refine Ext.setCell ?_ (by simp; try omega) _) | (with_reducible refine Ext.setRow ?_ (by simp; try omega) _))) hxw1
  have lw1 := xw1.size
  go_wp2_with fail
  first | refine fin_ret rfl (fun K hK => ?_) | refine fin_norm rfl (fun K hK => ?_)
  simp [results, Try.results23, go_sem, rsat]
  try go_simp
  refine hK _ ?_
  clear hK K
  exact ⟨rfl, (by repeat (first | (with_reducible exact Ext.refl _) | (with_reducible assumption) | (with_reducible refine Ext.alloc ?_ _) | (with_reducible refine Ext.drew ?_) | (with_reducible refine Ext.drewN ?_ _) | (with_reducible refine Ext.setCell ?_ (by simp; try omega) _) | (with_reducible refine Ext.setRow ?_ (by simp; try omega) _)))⟩
theorem raw_nil (v : Value) (w : World) :
    Calls Try.prog 21 #[.pointer none, v] w fun e w' => e = .returned (.pointer none) ∧ Ext w w' := by
  go_enter Try.func21, Try.ntmps21
  go_wp2_with fail
  first | refine fin_ret rfl (fun K hK => ?_) | refine fin_norm rfl (fun K hK => ?_)
  simp [results, Try.results21, go_sem, rsat]
  try go_simp
  refine hK _ ?_
  clear hK K
  exact ⟨rfl, (by repeat (first | (with_reducible exact Ext.refl _) | (with_reducible assumption) | (with_reducible refine Ext.alloc ?_ _) | (with_reducible refine Ext.drew ?_) | (with_reducible refine Ext.drewN ?_ _) | (with_reducible refine Ext.setCell ?_ (by simp; try omega) _) | (with_reducible refine Ext.setRow ?_ (by simp; try omega) _)))⟩
theorem raw_c (g : Nat) (A : Option Addr) (bs : List Int) (B : Option Addr) (xs : List Int) (cb : Nat) (w : World) (hW : Wr w g A bs) (hS : Src w 1 B xs.length (bc xs)) (hx : Byt xs) (hl : bs.length + xs.length ≤ 1000000000) :
    Calls Try.prog 21 #[.pointer (some ⟨g, 0, none⟩), .slice B xs.length cb] w fun e w' => e = .returned (.pointer (some ⟨g, 0, none⟩)) ∧ ∃ A', Puts w g A (bs ++ xs) w' A' := by
  obtain ⟨c, hA, hR⟩ := hW.ex
  have sg := hA.lt
  have hgA : g ∉ ablk A := fun h => (hW.alt g h).2 rfl
  have c0 : w.cell? ⟨g, 0, none⟩ = some (.slice A bs.length c) := hA.cell 0
  go_enter Try.func21, Try.ntmps21
  go_wp2_with (at_builtin; refine wpList_rowcat rfl _ _ 24 5 1 1 (.int .u8 0) rfl Try.underlying24 u8Info rfl (by decide) _ A bs.length c (bc bs) rfl hR _ _ _ _ rfl hS (bc_one _) (by unfold maxLen; omega) (by omega) ?_)
  intro A' c' w3 hR3 hC3 hf3
  have hA3 := hC3.at hA hgA
  have b0 : w3.cell? ⟨g, 0, none⟩ = some (.slice A bs.length c) := hA3.cell 0
  have f0 := hA3.frozen 0
  go_wp2_with fail
  first | refine fin_ret rfl (fun K hK => ?_) | refine fin_norm rfl (fun K hK => ?_)
  simp [results, Try.results21, go_sem, rsat]
  try go_simp
  refine hK _ ?_
  clear hK K
  refine ⟨rfl, A', ?_⟩
  exact Puts.mk' hW hx (Ext.refl w) hC3 hR3 hf3
theorem bytes_nil (w : World) :
    Calls Try.prog 24 #[.pointer none] w fun e w' => e = .returned (.slice none 0 0) ∧ Ext w w' := by
  go_enter Try.func24, Try.ntmps24
  go_wp2_with fail
  first | refine fin_ret rfl (fun K hK => ?_) | refine fin_norm rfl (fun K hK => ?_)
  simp [results, Try.results24, go_sem, rsat]
  try go_simp
  refine hK _ ?_
  clear hK K
  exact ⟨rfl, (by repeat (first | (with_reducible exact Ext.refl _) | (with_reducible assumption) | (with_reducible refine Ext.alloc ?_ _) | (with_reducible refine Ext.drew ?_) | (with_reducible refine Ext.drewN ?_ _) | (with_reducible refine Ext.setCell ?_ (by simp; try omega) _) | (with_reducible refine Ext.setRow ?_ (by simp; try omega) _)))⟩
/-- What a writer has: a new row. -/
theorem bytes_c (g : Nat) (A : Option Addr) (bs : List Int) (w : World) (hW : Wr w g A bs) (hl : bs.length ≤ 1000000000) :
    Calls Try.prog 24 #[.pointer (some ⟨g, 0, none⟩)] w fun e w' => Ext w w' ∧ ∃ v, e = .returned v ∧ Own w w' v bs := by
  obtain ⟨c, hA, hR⟩ := hW.ex
  have c0 : w.cell? ⟨g, 0, none⟩ = some (.slice A bs.length c) := hA.cell 0
  have C := clone_c A bs.length c bs w hR.src hl
  clear hA hR hW
  go_enter Try.func24, Try.ntmps24
  go_wp2_with fail
  refine C.mono ?_
  rintro e w1 ⟨hx, v, rfl, ho⟩
  go_wp2_with fail
  first | refine fin_ret rfl (fun K hK => ?_) | refine fin_norm rfl (fun K hK => ?_)
  simp [results, Try.results24, go_sem, rsat]
  try go_simp
  refine hK _ ?_
  clear hK K
  exact ⟨hx, v, rfl, ho⟩
end Go.Proofs.Ytndcmjpacailjaa
