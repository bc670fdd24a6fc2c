/- Configurations (layer 7): the numbers of one, what is put of each. No condition. -/
import Derived.Test.YtfbpmngdamaobaaY1
import Derived.Test.YtfbpmngdamaobaaSymP
namespace Go.Proofs.Ytfbpmngdamaobaa
open Go.RowKit
attribute [local go_sem] Later.cell QUpon_value QUpon_enter MUpon_value
attribute [local go_sem ↓ high] loadSym_is storeSym_is loadCfg_is storeCfg_is loadCll_is storeCll_is loadCl6_is storeCl6_is loadClx_is storeClx_is
attribute [local go_sem] run_loadSym run_loadSym_at run_storeSym run_loadCfg run_loadCfg_at run_storeCfg run_loadCll run_loadCll_at run_storeCll run_loadCl6 run_loadCl6_at run_storeCl6 run_loadClx run_loadClx_at run_storeClx one_int one_bool one_slice one_ptr one_str setRow_new setRow_past cell_ca frozen_ca cellsAt_alloc_at cellsAt_alloc_past cellsAt_drew cellsAt_later cellsAt_setCell cellsAt_set_same cellsAt_setRow_same cellsAt_setRow_far subAt_alloc subAt_drew subAt_later subAt_setCell subAt_setRow ltn_2 ltn_3 ltn_4 ltn_5
set_option maxHeartbeats 4000000 in
theorem rest_c (g : Nat) (w : World) (hg : g < w.heap.size) : Calls Try.prog 44 #[.pointer (some ⟨g, 0, none⟩)] w fun e w' => e = .returned (.agg (restV g)) ∧ Ext w w' := by
  go_enter Try.func44, Try.ntmps44
  go_wp2_with fail
  refine wp_region_x 30 [0, 0, 0, 0, 0, 0, 0, 0, 0, 0, 0, 0, 0, 0, 0, 0, 0, 0, 0, 0, 0, 0, 0, 0, 0, 0, 0, 0, 0, 0] (by kernel_rfl) (by kernel_rfl) (by kernel_rfl) ?_
  simp only [List.take_succ_cons, List.take_zero, List.drop_succ_cons, List.drop_zero]
  refine hl_pure (fun K hK => ?_)
  go_simp
  refine hK _ ?_
  clear hK K
  refine hl_pure (fun K hK => ?_)
  go_simp
  refine hK _ ?_
  clear hK K
  refine hl_pure (fun K hK => ?_)
  go_simp
  refine hK _ ?_
  clear hK K
  refine hl_pure (fun K hK => ?_)
  go_simp
  refine hK _ ?_
  clear hK K
  refine hl_pure (fun K hK => ?_)
  go_simp
  refine hK _ ?_
  clear hK K
  refine hl_pure (fun K hK => ?_)
  go_simp
  refine hK _ ?_
  clear hK K
  refine hl_pure (fun K hK => ?_)
  go_simp
  refine hK _ ?_
  clear hK K
  refine hl_pure (fun K hK => ?_)
  go_simp
  refine hK _ ?_
  clear hK K
  refine hl_pure (fun K hK => ?_)
  go_simp
  refine hK _ ?_
  clear hK K
  refine hl_pure (fun K hK => ?_)
  go_simp
  refine hK _ ?_
  clear hK K
  refine hl_pure (fun K hK => ?_)
  go_simp
  refine hK _ ?_
  clear hK K
  refine hl_pure (fun K hK => ?_)
  go_simp
  refine hK _ ?_
  clear hK K
  refine hl_pure (fun K hK => ?_)
  go_simp
  refine hK _ ?_
  clear hK K
  refine hl_pure (fun K hK => ?_)
  go_simp
  refine hK _ ?_
  clear hK K
  refine hl_pure (fun K hK => ?_)
  go_simp
  refine hK _ ?_
  clear hK K
  refine hl_pure (fun K hK => ?_)
  go_simp
  refine hK _ ?_
  clear hK K
  refine hl_pure (fun K hK => ?_)
  go_simp
  refine hK _ ?_
  clear hK K
  refine hl_pure (fun K hK => ?_)
  go_simp
  refine hK _ ?_
  clear hK K
  refine hl_pure (fun K hK => ?_)
  go_simp
  refine hK _ ?_
  clear hK K
  refine hl_pure (fun K hK => ?_)
  go_simp
  refine hK _ ?_
  clear hK K
  refine hl_pure (fun K hK => ?_)
  go_simp
  refine hK _ ?_
  clear hK K
  refine hl_pure (fun K hK => ?_)
  go_simp
  refine hK _ ?_
  clear hK K
  refine hl_pure (fun K hK => ?_)
  go_simp
  refine hK _ ?_
  clear hK K
  refine hl_pure (fun K hK => ?_)
  go_simp
  refine hK _ ?_
  clear hK K
  refine hl_pure (fun K hK => ?_)
  go_simp
  refine hK _ ?_
  clear hK K
  refine hl_pure (fun K hK => ?_)
  go_simp
  refine hK _ ?_
  clear hK K
  refine hl_pure (fun K hK => ?_)
  go_simp
  refine hK _ ?_
  clear hK K
  refine hl_pure (fun K hK => ?_)
  go_simp
  refine hK _ ?_
  clear hK K
  refine hl_pure (fun K hK => ?_)
  go_simp
  refine hK _ ?_
  clear hK K
  refine hl_pure (fun K hK => ?_)
  go_simp
  refine hK _ ?_
  clear hK K
  refine hl_nil ?_
  intro w1 hx1 K hK
  have H1 := (At.new w 72 #[.pointer none, .pointer none, .pointer none, .pointer none, .pointer none, .pointer none, .pointer none, .pointer none, .pointer none, .pointer none, .pointer none, .pointer none]).ext hx1
  have x1 : Ext w w1 := ((Ext.refl w).alloc _).trans hx1
  have e1 := cellsAt_at H1
  have s1 := H1.lt
  go_wp2_with fail
  obtain ⟨w2, hw2⟩ : ∃ W, W = w1.setRow w.heap.size (restV g) := ⟨_, rfl⟩
  have H2 : At w2 w.heap.size 72 (restV g) := by rw [hw2]; exact H1.setRow _
  have x2 : Ext w w2 := by rw [hw2]; exact x1.setRow (Nat.le_refl _) _
  unfold restV at hw2
  rw [← hw2]
  clear hw2 e1 s1 H1
  refine fin_cell (p := 2) (g := w.heap.size) (T := 72) rfl rfl ?_ rfl ⟨rfl, x2⟩
  have := run_loadCl6 w2 w.heap.size (by rw [cellsAt_at H2]; rfl)
  rw [cellsAt_at H2] at this
  exact this
theorem ixr0 (g : Nat) (w : World) : (Instr.index 72 (.agg (restV g)) (.int .i64 0)).run Try.prog w = .ok (restC g 0) w := by kernel_rfl
theorem ixr1 (g : Nat) (w : World) : (Instr.index 72 (.agg (restV g)) (.int .i64 1)).run Try.prog w = .ok (restC g 1) w := by kernel_rfl
theorem ixr2 (g : Nat) (w : World) : (Instr.index 72 (.agg (restV g)) (.int .i64 2)).run Try.prog w = .ok (restC g 2) w := by kernel_rfl
theorem ixr3 (g : Nat) (w : World) : (Instr.index 72 (.agg (restV g)) (.int .i64 3)).run Try.prog w = .ok (restC g 3) w := by kernel_rfl
theorem ixr4 (g : Nat) (w : World) : (Instr.index 72 (.agg (restV g)) (.int .i64 4)).run Try.prog w = .ok (restC g 4) w := by kernel_rfl
theorem ixr5 (g : Nat) (w : World) : (Instr.index 72 (.agg (restV g)) (.int .i64 5)).run Try.prog w = .ok (restC g 5) w := by kernel_rfl
theorem ixrest_c (g : Nat) (w : World) (k : Nat) (hk : k < 6) : (Instr.index 72 (.agg (restV g)) (.int .i64 (k : Nat))).run Try.prog w = .ok (restC g k) w := by
  have : k = 0 ∨ k = 1 ∨ k = 2 ∨ k = 3 ∨ k = 4 ∨ k = 5 := by omega
  rcases this with rfl | rfl | rfl | rfl | rfl | rfl
  · exact ixr0 g w
  · exact ixr1 g w
  · exact ixr2 g w
  · exact ixr3 g w
  · exact ixr4 g w
  · exact ixr5 g w
theorem rest_at (g : Nat) : ∀ k, k < 6 → ∃ u v, restC g k = .agg #[u, v] ∧ ClAt u v g (2 + k) := by
  intro k hk
  have : k = 0 ∨ k = 1 ∨ k = 2 ∨ k = 3 ∨ k = 4 ∨ k = 5 := by omega
  rcases this with rfl | rfl | rfl | rfl | rfl | rfl
  all_goals first | exact ⟨_, _, rfl, ⟨.inl ⟨rfl, rfl⟩⟩⟩ | exact ⟨_, _, rfl, ⟨.inr ⟨rfl, rfl⟩⟩⟩
/-! ### the numbers (plain) -/
def symN (s : Sym) : List Int := [s.grid, s.ref, s.stat, s.dyn, s.win, s.move, s.lim, s.pause, s.ext, s.mx, s.coll, s.wid, s.self, s.slots, s.lev, s.short]
def rowN (r : Rw) : List Int := [r.tick, r.ph]
def restN (x : Cfg) : List Int := [x.ix, x.f1, x.f2, x.f3, x.h1, x.h2]
def cfgN (x : Cfg) : List Int := [(x.l.length : Int)] ++ x.l.flatMap symN ++ [(x.t.length : Int)] ++ x.t.flatMap rowN ++ restN x
def numsB (l : List Int) : List Int := l.flatMap fun n => numB n.toNat
theorem numsB_app (a b : List Int) : numsB (a ++ b) = numsB a ++ numsB b := List.flatMap_append
theorem numsB_one (n : Int) : numsB [n] = numB n.toNat := by simp [numsB]
/-- Numbers such as may be put. -/
def Put (l : List Int) : Prop := ∀ n ∈ l, 0 ≤ n ∧ n ≤ 4611686018427387904
theorem numsB_len {l : List Int} (h : Put l) : (numsB l).length ≤ 10 * l.length := by
  induction l with
  | nil => simp [numsB]
  | cons n l ih =>
    have h1 := ih (fun m hm => h m (by simp [hm]))
    have h2 := h n (by simp)
    have h3 := numB_len64 (n := n.toNat) (by omega)
    show (numB n.toNat ++ numsB l).length ≤ _
    rw [List.length_append, List.length_cons]
    omega
theorem symN_get (s : Sym) (k : Nat) (hk : k < 16) : (symN s)[k]? = some ((symN s)[k]'(by exact hk)) ∧ (symC s)[k]? = some (.int .i64 ((symN s)[k]'(by exact hk))) := by
  have : k = 0 ∨ k = 1 ∨ k = 2 ∨ k = 3 ∨ k = 4 ∨ k = 5 ∨ k = 6 ∨ k = 7 ∨ k = 8 ∨ k = 9 ∨ k = 10 ∨ k = 11 ∨ k = 12 ∨ k = 13 ∨ k = 14 ∨ k = 15 := by omega
  rcases this with rfl | rfl | rfl | rfl | rfl | rfl | rfl | rfl | rfl | rfl | rfl | rfl | rfl | rfl | rfl | rfl <;> exact ⟨rfl, rfl⟩
theorem tab_ok : ∀ (l : List Rw) (last : Int) (i : Nat), -1 ≤ last → (tabI l last i).1 = 0 → ∀ r ∈ l, (0 ≤ r.tick ∧ r.tick ≤ 1125899906842624) ∧ 0 ≤ r.ph ∧ r.ph ≤ 2
  | [], _, _, _, _ => by simp
  | r :: l, last, i, hl, h => by
    unfold tabI at h
    split at h
    · cases h
    split at h
    · cases h
    rename_i h1 h2
    have h3 := tab_ok l r.tick (i + 1) (by omega) h
    intro y hy
    rcases List.mem_cons.1 hy with rfl | hy
    · omega
    · exact h3 y hy
theorem syms_ok : ∀ (l : List Sym) (i : Nat), (symsI l i).1 = 0 → ∀ s ∈ l, symI s = 0
  | [], _, _ => by simp
  | s :: l, i, h => by
    unfold symsI at h
    split at h
    · rename_i h1
      intro y hy
      rcases List.mem_cons.1 hy with rfl | hy
      · exact h1
      · exact syms_ok l (i + 1) h y hy
    · rename_i h1; exact absurd h h1
/-- What a configuration that is right has. -/
structure Cfg.Right (x : Cfg) : Prop where
  nl : 1 ≤ x.l.length ∧ x.l.length ≤ 8
  nt : 1 ≤ x.t.length ∧ x.t.length ≤ 20
  syms : ∀ s ∈ x.l, s.Ok
  rows : ∀ r ∈ x.t, (0 ≤ r.tick ∧ r.tick ≤ 1125899906842624) ∧ 0 ≤ r.ph ∧ r.ph ≤ 2
  rest : Put (restN x)
theorem right_of {x : Cfg} (h : (checkI x).1 = 0) : x.Right := by
  unfold checkI at h
  split at h
  · cases h
  rename_i a1
  split at h
  · rename_i h1; exact absurd h h1
  rename_i a2
  split at h
  · rename_i h1; exact absurd h h1
  rename_i a3
  have a3' : (tableI x.t).1 = 0 := by omega
  unfold tableI at a3'
  split at a3'
  · cases a3'
  rename_i a4
  refine ⟨by omega, by omega, fun s hs => sym_ok (syms_ok x.l 0 (by omega) s hs), tab_ok x.t (-1) 0 (by omega) a3', ?_⟩
  simp only [restI] at h
  split at h
  · rename_i h1
    split at h
    · rename_i h2
      split at h
      · rename_i h3
        have b1 := allB_of h1
        have b3 := allB_of h3
        unfold fallsB at h2
        simp only [Bool.and_eq_true, decide_eq_true_eq] at h2
        have b2 := allB_of h2.1
        intro n hn
        simp only [restN, List.mem_cons, List.not_mem_nil, or_false] at hn
        rcases hn with rfl | rfl | rfl | rfl | rfl | rfl
        · have := b1 x.ix (by simp); omega
        · have := b2 x.f1 (by simp); omega
        · have := b2 x.f2 (by simp); omega
        · have := b2 x.f3 (by simp); omega
        · have := b3 x.h1 (by simp); omega
        · have := b3 x.h2 (by simp); omega
      · cases h
    · cases h
  · cases h
theorem put_sym {s : Sym} (h : s.Ok) : Put (symN s) := by
  obtain ⟨h1, h2, _, h4, h5, h6, h7, h8, h9, h10, h11, h12, h13, h14, h15, h16, h17, _⟩ := h
  intro n hn
  simp only [symN, List.mem_cons, List.not_mem_nil, or_false] at hn
  rcases hn with rfl | rfl | rfl | rfl | rfl | rfl | rfl | rfl | rfl | rfl | rfl | rfl | rfl | rfl | rfl | rfl <;> omega
theorem Put.app {a b : List Int} (h : Put a) (k : Put b) : Put (a ++ b) := fun n hn => by
  rcases List.mem_append.1 hn with h1 | h1
  · exact h n h1
  · exact k n h1
theorem Put.take {a : List Int} (h : Put a) (k : Nat) : Put (a.take k) := fun n hn => h n (List.mem_of_mem_take hn)
end Go.Proofs.Ytfbpmngdamaobaa
