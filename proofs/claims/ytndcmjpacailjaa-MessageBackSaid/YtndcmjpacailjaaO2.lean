/- What a writer puts (octets). Condition: at most 10^9 bytes. -/
import Derived.Test.YtndcmjpacailjaaO1
namespace Go.Proofs.Ytndcmjpacailjaa
open Go.RowKit
attribute [local go_sem] Later.cell QUpon_value QUpon_enter MUpon_value run_eql_slice_nil
/-- A writer: its block, its bytes. -/
structure Wr (w : World) (g : Nat) (A : Option Addr) (bs : List Int) : Prop where
  by_ : Byt bs
  alt : ∀ k ∈ ablk A, k < w.heap.size ∧ k ≠ g
  ex : ∃ c, At w g 43 #[.slice A bs.length c] ∧ Row w 5 1 A bs.length c (bc bs)
theorem Wr.ext {w w' : World} {g : Nat} {A : Option Addr} {bs : List Int} (h : Wr w g A bs) (hx : Ext w w') : Wr w' g A bs :=
  ⟨h.by_, fun k hk => ⟨Nat.lt_of_lt_of_le (h.alt k hk).1 hx.size, (h.alt k hk).2⟩, let ⟨c, hA, hR⟩ := h.ex; ⟨c, hA.ext hx, hR.ext hx⟩⟩
theorem Wr.chg {w w' : World} {g : Nat} {A : Option Addr} {bs : List Int} {m : List Nat} (h : Wr w g A bs) (hx : Chg w w' m) (hg : g ∉ m) (hA : ∀ k ∈ ablk A, k ∉ m) : Wr w' g A bs :=
  ⟨h.by_, fun k hk => ⟨Nat.lt_of_lt_of_le (h.alt k hk).1 hx.size, (h.alt k hk).2⟩, let ⟨c, hA1, hR⟩ := h.ex; ⟨c, hx.at hA1 hg, hR.chg hx hA⟩⟩
/-- What a putting leaves: the writer with more bytes; besides it and its row only new blocks. -/
structure Puts (w : World) (g : Nat) (A : Option Addr) (bs : List Int) (w' : World) (A' : Option Addr) : Prop where
  wr : Wr w' g A' bs
  chg : Chg w w' (g :: ablk A)
  fresh : ∀ k ∈ ablk A', k ∈ ablk A ∨ w.heap.size ≤ k
theorem Puts.refl {w : World} {g : Nat} {A : Option Addr} {bs : List Int} (h : Wr w g A bs) : Puts w g A bs w A := ⟨h, Chg.refl _ _, fun _ hk => .inl hk⟩
theorem Puts.trans {w w1 w2 : World} {g : Nat} {A A1 A2 : Option Addr} {bs cs : List Int} (h : Puts w g A bs w1 A1) (k : Puts w1 g A1 cs w2 A2) : Puts w g A cs w2 A2 :=
  ⟨k.wr, h.chg.step k.chg (fun i hi => by
    rcases List.mem_cons.1 hi with rfl | h1
    · exact .inl (by simp)
    · rcases h.fresh i h1 with h2 | h2
      · exact .inl (by simp [h2])
      · exact .inr h2), fun i hi => by
    rcases k.fresh i hi with h1 | h1
    · exact h.fresh i h1
    · exact .inr (Nat.le_trans h.chg.size h1)⟩
theorem Puts.extL {w w0 w1 : World} {g : Nat} {A A1 : Option Addr} {bs : List Int} (hx : Ext w w0) (k : Puts w0 g A bs w1 A1) : Puts w g A bs w1 A1 :=
  ⟨k.wr, (Chg.of_ext hx _).trans k.chg, fun i hi => by
    rcases k.fresh i hi with h1 | h1
    · exact .inl h1
    · exact .inr (Nat.le_trans hx.size h1)⟩
theorem Puts.extR {w w1 w2 : World} {g : Nat} {A A1 : Option Addr} {bs : List Int} (k : Puts w g A bs w1 A1) (hx : Ext w1 w2) : Puts w g A bs w2 A1 :=
  ⟨k.wr.ext hx, k.chg.extR hx, k.fresh⟩
/-- Behind an append of bytes the new slice is stored. -/
theorem Puts.mk' {w w1 w2 : World} {g : Nat} {A A' : Option Addr} {bs ns : List Int} {c' : Nat} (hW : Wr w g A bs) (hn : Byt ns) (hx : Ext w w1) (hC : Chg w1 w2 (ablk A)) (hR : Row w2 5 1 A' (bs.length + ns.length) c' (bc bs ++ bc ns))
    (hf : ∀ k ∈ ablk A', k ∈ ablk A ∨ (w.heap.size ≤ k ∧ k < w2.heap.size)) : Puts w g A (bs ++ ns) (w2.setCell ⟨g, 0, none⟩ (.slice A' (bs.length + ns.length) c')) A' := by
  obtain ⟨c, hA, _⟩ := hW.ex
  have hg := hA.lt
  have hgA : g ∉ ablk A := fun h => (hW.alt g h).2 rfl
  have hgA' : g ∉ ablk A' := fun h => by
    rcases hf g h with h1 | h1
    · exact hgA h1
    · omega
  have hA2 := hC.at (hA.ext hx) hgA
  refine ⟨⟨hW.by_.app hn, fun k hk => ⟨?_, fun e => hgA' (e ▸ hk)⟩, c', ?_, ?_⟩, ?_, fun k hk => ?_⟩
  · have h1 := (hW.alt k · |>.1)
    have h2 := hC.size
    have h3 := hx.size
    rcases hf k hk with h | h
    · have := h1 h; simp; omega
    · simp; omega
  · rw [List.length_append]
    exact hA2.set 0 _
  · rw [List.length_append, bc_app]
    exact hR.set hgA' _
  · exact ((Chg.of_ext hx _).step hC (fun i hi => .inl (by simp [hi]))).set (.inl (by simp)) _
  · rcases hf k hk with h | h
    · exact .inl h
    · exact .inr h.1
/-- The bytes of a Num. -/
def numB (n : Nat) : List Int := if h : n < 128 then [(n : Int)] else ((n % 128 + 128 : Nat) : Int) :: numB (n / 128)
termination_by n
theorem numB_small {n : Nat} (h : n < 128) : numB n = [(n : Int)] := by
  rw [numB]; simp [h]
theorem numB_big {n : Nat} (h : ¬ n < 128) : numB n = ((n % 128 + 128 : Nat) : Int) :: numB (n / 128) := by
  rw [numB]; simp [h]
theorem numB_byt (n : Nat) : Byt (numB n) := by
  induction n using Nat.strongRecOn with
  | ind n ih =>
    by_cases h : n < 128
    · rw [numB_small h]
      intro x hx
      simp at hx
      omega
    · rw [numB_big h]
      intro x hx
      rcases List.mem_cons.1 hx with h1 | h1
      · omega
      · exact ih (n / 128) (by omega) x h1
theorem numB_len (k : Nat) : ∀ n, n < 128 ^ k → 0 < k → (numB n).length ≤ k := by
  induction k with
  | zero => intro n _ h; omega
  | succ k ih =>
    intro n hn _
    by_cases h : n < 128
    · rw [numB_small h]; simp
    · rw [numB_big h]
      rw [Nat.pow_succ] at hn
      have hk : 0 < k := by
        rcases Nat.eq_zero_or_pos k with h1 | h1
        · subst h1; simp at hn; omega
        · exact h1
      have := ih (n / 128) (by omega) hk
      simp; omega
theorem numB_len64 {n : Nat} (h : n < 18446744073709551616) : (numB n).length ≤ 10 := numB_len 10 n (by omega) (by decide)
theorem or128 : ∀ x : Fin 256, bits BinOp.or IntKind.u8 ((x.val : Nat) : Int) 128 = ((x.val % 128 + 128 : Nat) : Int) := by decide +kernel
theorem u8_wrap (m : Nat) : IntKind.u8.wrap (m : Int) = ((m % 256 : Nat) : Int) := by
  simp [IntKind.wrap, IntKind.bits, IntKind.signed]
theorem or_more (m : Nat) : bits BinOp.or IntKind.u8 (IntKind.u8.wrap (m : Int)) 128 = ((m % 128 + 128 : Nat) : Int) := by
  rw [u8_wrap]
  have h := or128 ⟨m % 256, by omega⟩
  simp only at h
  rw [h]
  omega
set_option maxHeartbeats 2000000 in
set_option maxRecDepth 100000 in
theorem num_c (g : Nat) (A : Option Addr) (bs : List Int) (n : Nat) (hn : n < 18446744073709551616) (w : World) (hW : Wr w g A bs) (hl : bs.length ≤ 1000000000) :
    Calls Try.prog 22 #[.pointer (some ⟨g, 0, none⟩), .int .u64 n] w fun e w' => e = .returned (.pointer (some ⟨g, 0, none⟩)) ∧ ∃ A', Puts w g A (bs ++ numB n) w' A' := by
  go_enter Try.func22, Try.ntmps22
  go_wp2_with fail
  go_loopw [1] (fun i wr => ∃ (m : Nat) (ds : List Int) (A1 : Option Addr), i = .int .u64 m ∧ m ≤ n ∧ bs ++ numB n = ds ++ numB m ∧ ds.length + (numB m).length ≤ 1000000010 ∧ Puts w g A ds wr A1) (fun i _ => (intOf i).toNat)
  case atStart => exact ⟨n, bs, A, rfl, Nat.le_refl _, rfl, by have := numB_len64 hn; omega, Puts.refl hW⟩
  case round =>
    obtain ⟨m, ds, A1, rfl, hm, hds, hdl, hP⟩ := hrel
    obtain ⟨c, hA, hR⟩ := hP.wr.ex
    have sg := hA.lt
    have c0 : wr.cell? ⟨g, 0, none⟩ = some (.slice A1 ds.length c) := hA.cell 0
    have hgA1 : g ∉ ablk A1 := fun h => (hP.wr.alt g h).2 rfl
    by_cases hs : m < 128
    · have ew : IntKind.u8.wrap (m : Int) = (m : Int) := by rw [u8_wrap, Nat.mod_eq_of_lt (by omega)]
      rw [numB_small hs] at hds hdl
      go_wp2_with (at_builtin; refine wpList_rowapp rfl _ _ 24 5 1 1 (.int .u8 0) rfl Try.underlying24 u8Info rfl (by decide) _ A1 ds.length c (bc ds) rfl hR [.int .u8 (m : Int)] rfl rfl rfl (by simp at hdl; unfold maxLen; omega) (by simp at hdl; omega) ?_)
      intro A' c' w2 hR2 hC2 hf2
      have hP2 := Puts.mk' (ns := [(m : Int)]) hP.wr (by intro x hx; simp at hx; omega) ((Ext.refl wr).alloc _) hC2 hR2 hf2
      have hA2 := hC2.at (hA.alloc (.cells #[.int .u8 (m : Int)] 5)) hgA1
      have b0 : w2.cell? ⟨g, 0, none⟩ = some (.slice A1 ds.length c) := hA2.cell 0
      have f0 := hA2.frozen 0
      go_wp2_with fail
      first | refine fin_ret rfl (fun K hK => ?_) | refine fin_norm rfl (fun K hK => ?_)
      simp [results, Try.results22, go_sem, rsat]
      try go_simp
      refine hK _ ?_
      clear hK K
      refine ⟨rfl, A', ?_⟩
      rw [hds]
      exact hP.trans hP2
    · obtain ⟨b, hb⟩ : ∃ b : Int, b = ((m % 128 + 128 : Nat) : Int) := ⟨_, rfl⟩
      have eo : bits BinOp.or IntKind.u8 ((m : Int) % 256) 128 = b := by
        rw [hb, ← or_more m, u8_wrap]
        rfl
      rw [numB_big hs, ← hb] at hds hdl
      have hb0 : 0 ≤ b ∧ b < 256 := by omega
      have HB := Lib.hid hb
      clear hb
      go_wp2_with (at_builtin; refine wpList_rowapp rfl _ _ 24 5 1 1 (.int .u8 0) rfl Try.underlying24 u8Info rfl (by decide) _ A1 ds.length c (bc ds) rfl hR [.int .u8 b] rfl rfl rfl (by simp at hdl; unfold maxLen; omega) (by simp at hdl; omega) ?_)
      intro A' c' w2 hR2 hC2 hf2
      have hP2 := Puts.mk' (ns := [b]) hP.wr (by intro x hx; simp at hx; omega) ((Ext.refl wr).alloc _) hC2 hR2 hf2
      have hA2 := hC2.at (hA.alloc (.cells #[.int .u8 b] 5)) hgA1
      have b0 : w2.cell? ⟨g, 0, none⟩ = some (.slice A1 ds.length c) := hA2.cell 0
      have f0 := hA2.frozen 0
      go_wp2_with fail
      go_roundw
      case rel => exact ⟨m / 128, ds ++ [b], A', by go_num, by omega, by rw [hds]; simp, by simp at hdl ⊢; omega, hP.trans hP2⟩
      case measure => simp [intOf]; omega
end Go.Proofs.Ytndcmjpacailjaa
