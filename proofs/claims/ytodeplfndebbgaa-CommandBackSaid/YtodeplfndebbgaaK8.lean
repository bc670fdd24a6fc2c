/- Law CommandDecodes. No condition. -/
import Derived.Test.YtodeplfndebbgaaK5
import Derived.Test.YtodeplfndebbgaaK7
namespace Go.Proofs.Ytodeplfndebbgaa
open Go.RowKit
attribute [local go_sem] Later.cell QUpon_value QUpon_enter MUpon_value run_eql_slice_nil Same.cell
attribute [local go_sem ↓ high] loadCmd_is storeCmd_is
attribute [local go_sem] run_loadCmd run_loadCmd_at run_storeCmd one_int one_bool one_slice one_ptr one_str setRow_new setRow_past cell_ca frozen_ca cellsAt_alloc_at cellsAt_alloc_past cellsAt_drew cellsAt_later cellsAt_setCell cellsAt_set_same cellsAt_setRow_same cellsAt_setRow_far subAt_alloc subAt_drew subAt_later subAt_setCell subAt_setRow ltn_2 ltn_3 ltn_4 ltn_5
set_option maxHeartbeats 4000000 in
set_option maxRecDepth 100000 in
theorem decBad_c (B : Option Addr) (cb : Nat) (bs : List Int) (hb : Byt bs) (hl : bs.length ≤ 1000000000) (w : World) (hS : Src w 1 B bs.length (bc bs)) (s1 : List Int) (va : Nat) (hk : va < 1 ∨ 3 < va) (e1 : uintR bs 0 1 = (va, s1, 0)) :
    Calls Try.prog 7 #[.slice B bs.length cb] w fun e w' => Ext w w' ∧ ∃ (c : Cm) (f : Int), e = .returned (.tuple #[.agg #[.int .i64 c.kind, .int .i64 c.sym, .int .i64 c.id, .int .i64 c.own, .int .i64 c.side, .int .i64 c.typ, .int .i64 c.price, .int .i64 c.qty, .int .i64 c.flags], .int .i64 f]) ∧ (c, f) = (zeroC, 4) := by
  have C1 := fun W hx => newreader_c B bs cb W (hS.ext hx) hb hl
  have HC1 := Lib.hid C1
  clear C1
  go_enter Try.func7, Try.ntmps7
  go_wp2_with fail
  refine (HC1.out _ (by repeat (first | (with_reducible exact Ext.refl _) | (with_reducible assumption) | (with_reducible refine Ext.alloc ?_ _) | (with_reducible refine Ext.drew ?_) | (with_reducible refine Ext.drewN ?_ _) | (with_reducible refine Ext.setCell ?_ (by simp; try omega) _) | (with_reducible refine Ext.setRow ?_ (by simp; try omega) _)))).mono ?_
  rintro e w1 ⟨hx1, g, A1, rfl, r1, hg, hA⟩
  have xw1 : Ext w w1 := Ext.trans (by repeat (first | (with_reducible exact Ext.refl _) | (with_reducible assumption) | (with_reducible refine Ext.alloc ?_ _) | (with_reducible refine Ext.drew ?_) | (with_reducible refine Ext.drewN ?_ _) | (with_reducible refine Ext.setCell ?_ (by simp; try omega) _) | (with_reducible refine Ext.setRow ?_ (by simp; try omega) _))) hx1
  have M1 : At w1 w.heap.size 25 #[.int .i64 0, .int .i64 0, .int .i64 0, .int .i64 0, .int .i64 0, .int .i64 0, .int .i64 0, .int .i64 0, .int .i64 0] := At.ext (by repeat (first | (with_reducible exact At.new _ _ _) | ((with_reducible refine At.new' _ _ _ _ ?_); simp; done) | (with_reducible assumption) | (with_reducible refine At.drew ?_) | (with_reducible refine At.alloc ?_ _) | (with_reducible apply At.upd) | (with_reducible apply At.setRow) | (with_reducible refine At.rowFar ?_ (by first | (simp; done) | (simp; omega) | omega) _) | ((with_reducible refine At.far ?_ (by first | (simp; done) | (simp; omega) | omega) _)) | (with_reducible rfl) | (simp; done))) hx1
  have hgw : w.heap.size < g := by simp at hg; omega
  have hgl : g < w1.heap.size := r1.ex.choose_spec.1.lt
  have haw : ∀ k ∈ ablk A1, w.heap.size < k := fun k hk => by have := hA k hk; simp at this; omega
  have s1 := M1.lt
  clear hA hg
  go_wp2_with fail
  refine gen_world (fun W => DS w W w1.heap.size g A1 bs 0 #[.int .i64 0, .int .i64 0, .int .i64 0, .int .i64 0, .int .i64 0, .int .i64 0, .int .i64 0, .int .i64 0, .int .i64 0]) ⟨xw1.alloc _, M1.alloc _, At.new _ _ _, r1.alloc _, haw, hgw, by omega, by omega⟩ (fun w2 h2 => ?_)
  generalize w1.heap.size = gb at *
  clear M1 r1 hgl s1 HC1 hx1 xw1
  have c2 : w2.cell? ⟨gb, 0, none⟩ = some (.pointer (some ⟨g, 0, none⟩)) := h2.x.cell 0
  have hbl := h2.x.lt
  refine wp_region_x 6 [1, 0, 1, 0, 0, 0] (by kernel_rfl) (by kernel_rfl) (by kernel_rfl) ?_
  simp only [List.take_succ_cons, List.take_zero, List.drop_succ_cons, List.drop_zero]
  refine hl_quiet (fun K hK => ?_)
  go_simp
  refine hK _ ?_
  clear hK K
  refine hl_pure (fun K hK => ?_)
  go_simp
  refine hK _ ?_
  clear hK K
  refine hl_quiet (fun K hK => ?_)
  go_simp
  refine hK _ ?_
  clear hK K
  refine hl_pure (fun K hK => ?_)
  go_simp
  refine hK _ ?_
  clear hK K
  refine hl_pure (fun K hK => ?_)
  go_simp
  refine hK _ ?_
  clear hK K
  refine hl_pure (fun K hK => ?_)
  go_simp
  refine hK _ ?_
  clear hK K
  refine hl_nil ?_
  intro w3 hx3 K hK
  have h3 := h2.extR hx3
  clear h2 c2 hbl
  have cX := cellsAt_at h3.m
  have sX := h3.m.lt
  have bX : (World.cell? _ ⟨gb, 0, none⟩) = some (.pointer (some ⟨g, 0, none⟩)) := h3.x.cell 0
  have dX := h3.x.lt
  have gX := h3.bw
  have hX := h3.gw
  go_wp2_with fail
  clear cX sX bX dX gX hX
  have C4 := one_c gb g A1 _ _ _ h3.x h3.r
  rw [e1] at C4
  simp only at C4
  refine C4.mono ?_
  rintro e w4 ⟨rfl, B4, r4⟩
  have h4 := h3.read r4
  clear C4 r4 h3
  have cX := cellsAt_at h4.m
  have sX := h4.m.lt
  have bX : (World.cell? _ ⟨gb, 0, none⟩) = some (.pointer (some ⟨g, 0, none⟩)) := h4.x.cell 0
  have dX := h4.x.lt
  have gX := h4.bw
  have hX := h4.gw
  go_wp2_with fail
  clear cX sX bX dX gX hX
  obtain ⟨w5, hw5⟩ : ∃ W : World, W = (w4.setCell ⟨w.heap.size, 0, none⟩ (.int .i64 (va : Int))) := ⟨_, rfl⟩
  have h5 : DS w w5 gb g B4 s1 0 #[.int .i64 (va : Int), .int .i64 0, .int .i64 0, .int .i64 0, .int .i64 0, .int .i64 0, .int .i64 0, .int .i64 0, .int .i64 0] := by rw [hw5]; exact h4.store 0 _
  rw [← hw5]
  clear hw5 h4
  refine (fault_c g B4 _ _ _ h5.r).mono ?_
  rintro e w6 ⟨rfl, x6⟩
  have h6 := h5.extR x6
  clear h5
  have cX := cellsAt_at h6.m
  have sX := h6.m.lt
  have bX : (World.cell? _ ⟨gb, 0, none⟩) = some (.pointer (some ⟨g, 0, none⟩)) := h6.x.cell 0
  have dX := h6.x.lt
  have gX := h6.bw
  have hX := h6.gw
  rcases hk with hk | hk
  · obtain rfl : va = 0 := by omega
    go_wp2_with fail
    obtain ⟨wz, hwz⟩ : ∃ W : World, W = w6.setRow w.heap.size #[.int .i64 0, .int .i64 0, .int .i64 0, .int .i64 0, .int .i64 0, .int .i64 0, .int .i64 0, .int .i64 0, .int .i64 0] := ⟨_, rfl⟩
    have xz : Ext w wz := by rw [hwz]; exact (h6.row _).1
    have mz : At wz w.heap.size 25 #[.int .i64 0, .int .i64 0, .int .i64 0, .int .i64 0, .int .i64 0, .int .i64 0, .int .i64 0, .int .i64 0, .int .i64 0] := by rw [hwz]; exact (h6.row _).2
    rw [← hwz]
    clear hwz cX sX bX dX gX hX
    have ez := cellsAt_at mz
    have sz := mz.lt
    first | refine fin_ret rfl (fun K hK => ?_) | refine fin_norm rfl (fun K hK => ?_)
    simp [results, Try.results7, go_sem, rsat]
    try go_simp
    refine hK _ ?_
    clear hK K
    exact ⟨xz, zeroC, 4, rfl, rfl⟩
  · have hk1 : decide ((va : Int) < 1) = false := decide_eq_false (by omega)
    have hk3 : (3 : Int) < (va : Int) := by omega
    go_wp2_with fail
    obtain ⟨wz, hwz⟩ : ∃ W : World, W = w6.setRow w.heap.size #[.int .i64 0, .int .i64 0, .int .i64 0, .int .i64 0, .int .i64 0, .int .i64 0, .int .i64 0, .int .i64 0, .int .i64 0] := ⟨_, rfl⟩
    have xz : Ext w wz := by rw [hwz]; exact (h6.row _).1
    have mz : At wz w.heap.size 25 #[.int .i64 0, .int .i64 0, .int .i64 0, .int .i64 0, .int .i64 0, .int .i64 0, .int .i64 0, .int .i64 0, .int .i64 0] := by rw [hwz]; exact (h6.row _).2
    rw [← hwz]
    clear hwz cX sX bX dX gX hX
    have ez := cellsAt_at mz
    have sz := mz.lt
    first | refine fin_ret rfl (fun K hK => ?_) | refine fin_norm rfl (fun K hK => ?_)
    simp [results, Try.results7, go_sem, rsat]
    try go_simp
    refine hK _ ?_
    clear hK K
    exact ⟨xz, zeroC, 4, rfl, rfl⟩
set_option maxHeartbeats 4000000 in
set_option maxRecDepth 100000 in
theorem rdecNil_c (B : Option Addr) (cb : Nat) (w : World) :
    Calls Try.prog 8 #[.slice B 0 cb] w fun e w' => Ext w w' ∧ ∃ (c : Cm) (f : Int), e = .returned (.tuple #[.agg #[.int .i64 c.kind, .int .i64 c.sym, .int .i64 c.id, .int .i64 c.own, .int .i64 c.side, .int .i64 c.typ, .int .i64 c.price, .int .i64 c.qty, .int .i64 c.flags], .int .i64 f]) ∧ (c, f) = (zeroC, 3) := by
  go_enter Try.func8, Try.ntmps8
  go_wp2_with fail
  first | refine fin_ret rfl (fun K hK => ?_) | refine fin_norm rfl (fun K hK => ?_)
  simp [results, Try.results8, go_sem, rsat]
  try go_simp
  refine hK _ ?_
  clear hK K
  exact ⟨(by repeat (first | (with_reducible exact Ext.refl _) | (with_reducible assumption) | (with_reducible refine Ext.alloc ?_ _) | (with_reducible refine Ext.drew ?_) | (with_reducible refine Ext.drewN ?_ _) | (with_reducible refine Ext.setCell ?_ (by simp; try omega) _) | (with_reducible refine Ext.setRow ?_ (by simp; try omega) _))), zeroC, 3, rfl, rfl⟩
set_option maxHeartbeats 4000000 in
set_option maxRecDepth 100000 in
theorem rdecBad_c (B : Option Addr) (cb : Nat) (b : Int) (s1 : List Int) (hb : 0 ≤ b ∧ b ≤ 255) (hk : b < 1 ∨ 3 < b) (w : World) (hS : Src w 1 B (s1.length + 1) (bc (b :: s1))) :
    Calls Try.prog 8 #[.slice B (s1.length + 1) cb] w fun e w' => Ext w w' ∧ ∃ (c : Cm) (f : Int), e = .returned (.tuple #[.agg #[.int .i64 c.kind, .int .i64 c.sym, .int .i64 c.id, .int .i64 c.own, .int .i64 c.side, .int .i64 c.typ, .int .i64 c.price, .int .i64 c.qty, .int .i64 c.flags], .int .i64 f]) ∧ (c, f) = (zeroC, 4) := by
  obtain ⟨bb, off, rfl, hbw, hc⟩ := hS.lt (by omega) (by decide)
  have c0 : w.cell? ⟨bb, off, none⟩ = some (.int .u8 b) := hc 0 (by simp)
  have hpos : decide (((s1.length : Int) + 1) = 0) = false := decide_eq_false (by omega)
  have hpos2 : (((s1.length : Int) + 1) == 0) = false := beq_eq_false_iff_ne.2 (by omega)
  clear hc hS
  rcases hk with hk | hk
  ·
    go_enter Try.func8, Try.ntmps8
    go_wp2_with fail
    first | refine fin_ret rfl (fun K hK => ?_) | refine fin_norm rfl (fun K hK => ?_)
    simp [results, Try.results8, go_sem, rsat]
    try go_simp
    refine hK _ ?_
    clear hK K
    exact ⟨(by repeat (first | (with_reducible exact Ext.refl _) | (with_reducible assumption) | (with_reducible refine Ext.alloc ?_ _) | (with_reducible refine Ext.drew ?_) | (with_reducible refine Ext.drewN ?_ _) | (with_reducible refine Ext.setCell ?_ (by simp; try omega) _) | (with_reducible refine Ext.setRow ?_ (by simp; try omega) _))), zeroC, 4, rfl, rfl⟩
  · have hk1 : decide (b < 1) = false := decide_eq_false (by omega)
    go_enter Try.func8, Try.ntmps8
    go_wp2_with fail
    first | refine fin_ret rfl (fun K hK => ?_) | refine fin_norm rfl (fun K hK => ?_)
    simp [results, Try.results8, go_sem, rsat]
    try go_simp
    refine hK _ ?_
    clear hK K
    exact ⟨(by repeat (first | (with_reducible exact Ext.refl _) | (with_reducible assumption) | (with_reducible refine Ext.alloc ?_ _) | (with_reducible refine Ext.drew ?_) | (with_reducible refine Ext.drewN ?_ _) | (with_reducible refine Ext.setCell ?_ (by simp; try omega) _) | (with_reducible refine Ext.setRow ?_ (by simp; try omega) _))), zeroC, 4, rfl, rfl⟩
/-- Both readers stand alike. -/
def Sim (rs : List Int) (f : Int) (rs' : List Int) (f' : Int) : Prop := f = f' ∧ (f = 0 → rs = rs')
theorem sim_uint {bs bs' s s' : List Int} {f f' g g' : Int} {z v v' : Nat} (h : Sim bs f bs' f') (e : uintR bs f z = (v, s, g)) (e' : uintR bs' f' z = (v', s', g')) : v = v' ∧ Sim s g s' g' := by
  obtain ⟨rfl, h⟩ := h
  by_cases h0 : f = 0
  · obtain rfl := h h0
    rw [e] at e'
    injection e' with e1 e2; injection e2 with e2 e3
    exact ⟨e1, e3, fun _ => e2⟩
  · unfold uintR at e e'
    rw [if_pos h0] at e e'
    injection e with e1 e2; injection e2 with e2 e3
    injection e' with e4 e5; injection e5 with e5 e6
    exact ⟨e1.symm.trans e4, e3.symm.trans e6, fun h => absurd (e3.trans h) h0⟩
theorem sim_num {bs bs' s s' : List Int} {f f' g g' : Int} {v v' : Nat} (h : Sim bs f bs' f') (e : numR bs f = (v, s, g)) (e' : numQ bs' f' = (v', s', g')) : v = v' ∧ Sim s g s' g' := by
  obtain ⟨rfl, h⟩ := h
  unfold numR at e
  unfold numQ at e'
  by_cases h0 : f = 0
  · obtain rfl := h h0
    rw [if_neg (by simp [h0])] at e e'
    have hz := (numG_is6 10 0 0 bs).2
    rw [e] at e' hz
    simp only at e' hz
    by_cases hg : g = 0
    · rw [if_pos hg] at e'
      injection e' with e1 e2; injection e2 with e2 e3
      exact ⟨e1, e3, fun _ => e2⟩
    · rw [if_neg hg] at e'
      injection e' with e1 e2; injection e2 with e2 e3
      exact ⟨(hz hg).trans e1, e3, fun h => absurd h hg⟩
  · rw [if_pos h0] at e e'
    injection e with e1 e2; injection e2 with e2 e3
    injection e' with e4 e5; injection e5 with e5 e6
    exact ⟨e1.symm.trans e4, e3.symm.trans e6, fun h => absurd (e3.trans h) h0⟩
theorem sim_int {bs bs' s s' : List Int} {f f' g g' v v' : Int} (h : Sim bs f bs' f') (e : (backN (uintR bs f 8).1, (uintR bs f 8).2) = (v, s, g)) (e' : (backN (uintR bs' f' 8).1, (uintR bs' f' 8).2) = (v', s', g')) : v = v' ∧ Sim s g s' g' := by
  injection e with e1 e2
  injection e' with e3 e4
  obtain ⟨a, b⟩ := sim_uint h (v := (uintR bs f 8).1) (s := s) (g := g) (Prod.ext rfl e2) (v' := (uintR bs' f' 8).1) (s' := s') (g' := g') (Prod.ext rfl e4)
  exact ⟨by rw [← e1, ← e3, a], b⟩
theorem sim_fin {c : Cm} {rs rs' : List Int} {f f' : Int} (h : Sim rs f rs' f') : finC c rs f = finC c rs' f' := by
  obtain ⟨rfl, h⟩ := h
  by_cases h0 : f = 0
  · rw [h h0]
  · rw [finBad h0, finBad h0]
/-- What Decode answers, by both. -/
def DecBoth (A : Option Addr) (c : Nat) (bs : List Int) (w : World) : Prop := ∃ (m : Cm) (f : Int), (∀ W, Ext w W → Calls Try.prog 7 #[.slice A bs.length c] W fun e w' => Ext W w' ∧ e = .returned (.tuple #[.agg #[.int .i64 m.kind, .int .i64 m.sym, .int .i64 m.id, .int .i64 m.own, .int .i64 m.side, .int .i64 m.typ, .int .i64 m.price, .int .i64 m.qty, .int .i64 m.flags], .int .i64 f])) ∧ (∀ W, Ext w W → Calls Try.prog 8 #[.slice A bs.length c] W fun e w' => Ext W w' ∧ e = .returned (.tuple #[.agg #[.int .i64 m.kind, .int .i64 m.sym, .int .i64 m.id, .int .i64 m.own, .int .i64 m.side, .int .i64 m.typ, .int .i64 m.price, .int .i64 m.qty, .int .i64 m.flags], .int .i64 f]))
theorem decBoth_of {A : Option Addr} {c : Nat} {bs : List Int} {w : World} (R : Cm × Int) (h1 : ∀ W, Ext w W → Calls Try.prog 7 #[.slice A bs.length c] W fun e w' => Ext W w' ∧ ∃ (c : Cm) (f : Int), e = .returned (.tuple #[.agg #[.int .i64 c.kind, .int .i64 c.sym, .int .i64 c.id, .int .i64 c.own, .int .i64 c.side, .int .i64 c.typ, .int .i64 c.price, .int .i64 c.qty, .int .i64 c.flags], .int .i64 f]) ∧ (c, f) = R)
    (h2 : ∀ W, Ext w W → Calls Try.prog 8 #[.slice A bs.length c] W fun e w' => Ext W w' ∧ ∃ (c : Cm) (f : Int), e = .returned (.tuple #[.agg #[.int .i64 c.kind, .int .i64 c.sym, .int .i64 c.id, .int .i64 c.own, .int .i64 c.side, .int .i64 c.typ, .int .i64 c.price, .int .i64 c.qty, .int .i64 c.flags], .int .i64 f]) ∧ (c, f) = R) : DecBoth A c bs w := by
  obtain ⟨m, f⟩ := R
  refine ⟨m, f, fun W hW => (h1 W hW).mono ?_, fun W hW => (h2 W hW).mono ?_⟩
  · rintro e w' ⟨hx, m', f', rfl, hmf⟩
    injection hmf with h1 h2
    rw [h1, h2]
    exact ⟨hx, rfl⟩
  · rintro e w' ⟨hx, m', f', rfl, hmf⟩
    injection hmf with h1 h2
    rw [h1, h2]
    exact ⟨hx, rfl⟩
theorem both2 (A : Option Addr) (c : Nat) (s1 : List Int) (hb : Byt (2 :: s1)) (hl : s1.length + 1 ≤ 1000000000) (hc : (2 :: s1 : List Int).length ≤ c) (hm : c ≤ 9223372036854775807) (w : World) (hS : Src w 1 A (2 :: s1 : List Int).length (bc (2 :: s1))) : DecBoth A c (2 :: s1) w := by
  have e1 : uintR (2 :: s1) 0 1 = (2, s1, 0) := uintR_cons _ _
  have t1 : Sim s1 0 s1 0 := ⟨rfl, fun _ => rfl⟩
  obtain ⟨vb, s2, f2, e2⟩ : ∃ v s g, uintR s1 0 1 = (v, s, g) := ⟨_, _, _, rfl⟩
  obtain ⟨vb', s2', f2', e2'⟩ : ∃ v s g, uintR s1 0 1 = (v, s, g) := ⟨_, _, _, rfl⟩
  obtain ⟨rfl, t2⟩ := sim_uint t1 e2 e2'
  obtain ⟨vd, s3, f3, e3⟩ : ∃ v s g, numR s2 f2 = (v, s, g) := ⟨_, _, _, rfl⟩
  obtain ⟨vd', s3', f3', e3'⟩ : ∃ v s g, numQ s2' f2' = (v, s, g) := ⟨_, _, _, rfl⟩
  obtain ⟨rfl, t3⟩ := sim_num t2 e3 e3'
  refine decBoth_of _ (fun W hW => dec2_c A c _ hb (by simpa using hl) W (hS.ext hW) s1 s2 s3 f2 f3 vb vd e1 e2 e3) (fun W hW => ?_)
  rw [sim_fin t3]
  exact rdec2_c A c _ hb (by simpa using hl) hc hm W (hS.ext hW) s1 s2' s3' f2' f3' vb vd rfl e2' e3'
theorem both3 (A : Option Addr) (c : Nat) (s1 : List Int) (hb : Byt (3 :: s1)) (hl : s1.length + 1 ≤ 1000000000) (hc : (3 :: s1 : List Int).length ≤ c) (hm : c ≤ 9223372036854775807) (w : World) (hS : Src w 1 A (3 :: s1 : List Int).length (bc (3 :: s1))) : DecBoth A c (3 :: s1) w := by
  have e1 : uintR (3 :: s1) 0 1 = (3, s1, 0) := uintR_cons _ _
  have t1 : Sim s1 0 s1 0 := ⟨rfl, fun _ => rfl⟩
  obtain ⟨vb, s2, f2, e2⟩ : ∃ v s g, uintR s1 0 1 = (v, s, g) := ⟨_, _, _, rfl⟩
  obtain ⟨vb', s2', f2', e2'⟩ : ∃ v s g, uintR s1 0 1 = (v, s, g) := ⟨_, _, _, rfl⟩
  obtain ⟨rfl, t2⟩ := sim_uint t1 e2 e2'
  obtain ⟨vd, s3, f3, e3⟩ : ∃ v s g, numR s2 f2 = (v, s, g) := ⟨_, _, _, rfl⟩
  obtain ⟨vd', s3', f3', e3'⟩ : ∃ v s g, numQ s2' f2' = (v, s, g) := ⟨_, _, _, rfl⟩
  obtain ⟨rfl, t3⟩ := sim_num t2 e3 e3'
  obtain ⟨vp, s4, f4, e4⟩ : ∃ v s g, (backN (uintR s3 f3 8).1, (uintR s3 f3 8).2) = (v, s, g) := ⟨_, _, _, rfl⟩
  obtain ⟨vp', s4', f4', e4'⟩ : ∃ v s g, (backN (uintR s3' f3' 8).1, (uintR s3' f3' 8).2) = (v, s, g) := ⟨_, _, _, rfl⟩
  obtain ⟨rfl, t4⟩ := sim_int t3 e4 e4'
  obtain ⟨vq, s5, f5, e5⟩ : ∃ v s g, (backN (uintR s4 f4 8).1, (uintR s4 f4 8).2) = (v, s, g) := ⟨_, _, _, rfl⟩
  obtain ⟨vq', s5', f5', e5'⟩ : ∃ v s g, (backN (uintR s4' f4' 8).1, (uintR s4' f4' 8).2) = (v, s, g) := ⟨_, _, _, rfl⟩
  obtain ⟨rfl, t5⟩ := sim_int t4 e5 e5'
  refine decBoth_of _ (fun W hW => dec3_c A c _ hb (by simpa using hl) W (hS.ext hW) s1 s2 s3 f2 f3 vb vd e1 e2 e3 s4 s5 f4 f5 vp vq e4 e5) (fun W hW => ?_)
  rw [sim_fin t5]
  exact rdec3_c A c _ hb (by simpa using hl) hc hm W (hS.ext hW) s1 s2' s3' f2' f3' vb vd rfl e2' e3' s4' s5' f4' f5' vp vq e4' e5'
theorem both1 (A : Option Addr) (c : Nat) (s1 : List Int) (hb : Byt (1 :: s1)) (hl : s1.length + 1 ≤ 1000000000) (hc : (1 :: s1 : List Int).length ≤ c) (hm : c ≤ 9223372036854775807) (w : World) (hS : Src w 1 A (1 :: s1 : List Int).length (bc (1 :: s1))) : DecBoth A c (1 :: s1) w := by
  have e1 : uintR (1 :: s1) 0 1 = (1, s1, 0) := uintR_cons _ _
  have t1 : Sim s1 0 s1 0 := ⟨rfl, fun _ => rfl⟩
  obtain ⟨vb, s2, f2, e2⟩ : ∃ v s g, uintR s1 0 1 = (v, s, g) := ⟨_, _, _, rfl⟩
  obtain ⟨vb', s2', f2', e2'⟩ : ∃ v s g, uintR s1 0 1 = (v, s, g) := ⟨_, _, _, rfl⟩
  obtain ⟨rfl, t2⟩ := sim_uint t1 e2 e2'
  obtain ⟨vd, s3, f3, e3⟩ : ∃ v s g, numR s2 f2 = (v, s, g) := ⟨_, _, _, rfl⟩
  obtain ⟨vd', s3', f3', e3'⟩ : ∃ v s g, numQ s2' f2' = (v, s, g) := ⟨_, _, _, rfl⟩
  obtain ⟨rfl, t3⟩ := sim_num t2 e3 e3'
  obtain ⟨vo, s4, f4, e4⟩ : ∃ v s g, numR s3 f3 = (v, s, g) := ⟨_, _, _, rfl⟩
  obtain ⟨vo', s4', f4', e4'⟩ : ∃ v s g, numQ s3' f3' = (v, s, g) := ⟨_, _, _, rfl⟩
  obtain ⟨rfl, t4⟩ := sim_num t3 e4 e4'
  obtain ⟨vs, s5, f5, e5⟩ : ∃ v s g, uintR s4 f4 1 = (v, s, g) := ⟨_, _, _, rfl⟩
  obtain ⟨vs', s5', f5', e5'⟩ : ∃ v s g, uintR s4' f4' 1 = (v, s, g) := ⟨_, _, _, rfl⟩
  obtain ⟨rfl, t5⟩ := sim_uint t4 e5 e5'
  obtain ⟨vt, s6, f6, e6⟩ : ∃ v s g, uintR s5 f5 1 = (v, s, g) := ⟨_, _, _, rfl⟩
  obtain ⟨vt', s6', f6', e6'⟩ : ∃ v s g, uintR s5' f5' 1 = (v, s, g) := ⟨_, _, _, rfl⟩
  obtain ⟨rfl, t6⟩ := sim_uint t5 e6 e6'
  obtain ⟨vg, s7, f7, e7⟩ : ∃ v s g, uintR s6 f6 1 = (v, s, g) := ⟨_, _, _, rfl⟩
  obtain ⟨vg', s7', f7', e7'⟩ : ∃ v s g, uintR s6' f6' 1 = (v, s, g) := ⟨_, _, _, rfl⟩
  obtain ⟨rfl, t7⟩ := sim_uint t6 e7 e7'
  obtain ⟨vp, s8, f8, e8⟩ : ∃ v s g, (backN (uintR s7 f7 8).1, (uintR s7 f7 8).2) = (v, s, g) := ⟨_, _, _, rfl⟩
  obtain ⟨vp', s8', f8', e8'⟩ : ∃ v s g, (backN (uintR s7' f7' 8).1, (uintR s7' f7' 8).2) = (v, s, g) := ⟨_, _, _, rfl⟩
  obtain ⟨rfl, t8⟩ := sim_int t7 e8 e8'
  obtain ⟨vq, s9, f9, e9⟩ : ∃ v s g, (backN (uintR s8 f8 8).1, (uintR s8 f8 8).2) = (v, s, g) := ⟨_, _, _, rfl⟩
  obtain ⟨vq', s9', f9', e9'⟩ : ∃ v s g, (backN (uintR s8' f8' 8).1, (uintR s8' f8' 8).2) = (v, s, g) := ⟨_, _, _, rfl⟩
  obtain ⟨rfl, t9⟩ := sim_int t8 e9 e9'
  refine decBoth_of _ (fun W hW => dec1_c A c _ hb (by simpa using hl) W (hS.ext hW) s1 s2 s3 f2 f3 vb vd e1 e2 e3 s4 s5 s6 s7 f4 f5 f6 f7 vo vs vt vg e4 e5 e6 e7 s8 s9 f8 f9 vp vq e8 e9) (fun W hW => ?_)
  rw [sim_fin t9]
  exact rdec1_c A c _ hb (by simpa using hl) hc hm W (hS.ext hW) s1 s2' s3' f2' f3' vb vd rfl e2' e3' s4' s5' s6' s7' f4' f5' f6' f7' vo vs vt vg e4' e5' e6' e7' s8' s9' f8' f9' vp vq e8' e9'
theorem both0 (A : Option Addr) (c : Nat) (w : World) (hS : Src w 1 A ([] : List Int).length (bc [])) : DecBoth A c [] w := by
  obtain ⟨vb, s2, f2, e2⟩ : ∃ v s g, uintR [] 3 1 = (v, s, g) := ⟨_, _, _, rfl⟩
  obtain ⟨vd, s3, f3, e3⟩ : ∃ v s g, numR s2 f2 = (v, s, g) := ⟨_, _, _, rfl⟩
  obtain ⟨vp, s4, f4, e4⟩ : ∃ v s g, (backN (uintR s3 f3 8).1, (uintR s3 f3 8).2) = (v, s, g) := ⟨_, _, _, rfl⟩
  obtain ⟨vq, s5, f5, e5⟩ : ∃ v s g, (backN (uintR s4 f4 8).1, (uintR s4 f4 8).2) = (v, s, g) := ⟨_, _, _, rfl⟩
  have h2 : f2 = 3 := uintR_stays e2 (by decide)
  have h3 : f3 = 3 := (numR_stays e3 (by rw [h2]; decide)).trans h2
  have h4 : f4 = 3 := (intR_stays e4 (by rw [h3]; decide)).trans h3
  have h5 : f5 = 3 := (intR_stays e5 (by rw [h4]; decide)).trans h4
  refine decBoth_of (zeroC, 3) (fun W hW => ?_) (fun W hW => rdecNil_c A c W)
  have := dec0_c A c [] (fun x hx => by cases hx) (by decide) W (hS.ext hW) [] s2 s3 f2 f3 vb vd 3 (by decide) rfl e2 e3 s4 s5 f4 f5 vp vq e4 e5
  rw [finBad (by rw [h5]; decide), h5] at this
  exact this
theorem bothBad (A : Option Addr) (c : Nat) (b : Int) (s1 : List Int) (hb : Byt (b :: s1)) (hk : b < 1 ∨ 3 < b) (hl : s1.length + 1 ≤ 1000000000) (w : World) (hS : Src w 1 A (b :: s1).length (bc (b :: s1))) : DecBoth A c (b :: s1) w := by
  have hb0 := hb b (by simp)
  refine decBoth_of (zeroC, 4) (fun W hW => decBad_c A c _ hb (by simpa using hl) W (hS.ext hW) s1 b.toNat (by omega) (uintR_cons _ _)) (fun W hW => rdecBad_c A c b s1 (by omega) hk W (hS.ext hW))
theorem both_all (A : Option Addr) (c : Nat) (bs : List Int) (hb : Byt bs) (hl : bs.length ≤ 200) (hc : bs.length ≤ c) (hm : c ≤ 9223372036854775807) (w : World) (hS : Src w 1 A bs.length (bc bs)) : DecBoth A c bs w := by
  match bs, hb, hl, hc, hS with
  | [], _, _, _, hS => exact both0 A c w hS
  | b :: s1, hb, hl, hc, hS =>
    have hl1 : s1.length + 1 ≤ 1000000000 := by simp at hl; omega
    by_cases k1 : b = 1
    · subst k1; exact both1 A c s1 hb hl1 hc hm w hS
    by_cases k2 : b = 2
    · subst k2; exact both2 A c s1 hb hl1 hc hm w hS
    by_cases k3 : b = 3
    · subst k3; exact both3 A c s1 hb hl1 hc hm w hS
    · exact bothBad A c b s1 hb (by omega) hl1 w hS
set_option maxHeartbeats 2000000 in
set_option maxRecDepth 100000 in
theorem commanddecodes_c (A : Option Addr) (c : Nat) (bs : List Int) (hb : Byt bs) (hc : bs.length ≤ c) (hm : c ≤ maxLen) (w : World) (hS : Src w 1 A bs.length (bc bs)) :
    Calls Try.prog 3 #[.slice A bs.length c] w fun e w' => e = .returned (.bool true) ∧ Ext w w' := by
  unfold maxLen at hm
  have HA := Lib.hid alive_c5
  by_cases hl : 200 < bs.length
  · have hli : (200 : Int) < (bs.length : Int) := by omega
    clear hS
    go_enter Try.func3, Try.ntmps3
    go_wp2_with fail
    refine (HA.out _).mono ?_
    rintro e w1 ⟨rfl, hx1⟩
    go_wp2_with fail
    first | refine fin_ret rfl (fun K hK => ?_) | refine fin_norm rfl (fun K hK => ?_)
    simp [results, Try.results3, go_sem, rsat]
    try go_simp
    refine hK _ ?_
    clear hK K
    exact ⟨rfl, hx1⟩
  · have hli : ¬ (200 : Int) < (bs.length : Int) := by omega
    obtain ⟨m, f, hD, hR⟩ := both_all A c bs hb (by omega) hc hm w hS
    have HD := Lib.hid hD
    have HR := Lib.hid hR
    clear hD hR
    have hff : (f == f) = true := by simp
    go_enter Try.func3, Try.ntmps3
    go_wp2_with fail
    refine (HD.out _ (Ext.refl w)).mono ?_
    rintro e w1 ⟨hxw1, rfl⟩
    go_wp2_with fail
    refine (HR.out _ (hxw1.alloc _)).mono ?_
    rintro e w2 ⟨hxw2, rfl⟩
    have x2 : Ext w w2 := (hxw1.alloc _).trans hxw2
    have m2 : At w2 w1.heap.size 25 #[.int .i64 m.kind, .int .i64 m.sym, .int .i64 m.id, .int .i64 m.own, .int .i64 m.side, .int .i64 m.typ, .int .i64 m.price, .int .i64 m.qty, .int .i64 m.flags] := (At.new _ _ _).ext hxw2
    have e2 := cellsAt_at m2
    have s2 := m2.lt
    clear hxw1 hxw2
    go_wp2_with fail
    refine (HA.out _).mono ?_
    rintro e w3 ⟨rfl, hx3⟩
    go_wp2_with fail
    first | refine fin_ret rfl (fun K hK => ?_) | refine fin_norm rfl (fun K hK => ?_)
    simp [results, Try.results3, go_sem, rsat]
    try go_simp
    refine hK _ ?_
    clear hK K
    exact ⟨rfl, (x2.alloc _).trans hx3⟩
end Go.Proofs.Ytodeplfndebbgaa
