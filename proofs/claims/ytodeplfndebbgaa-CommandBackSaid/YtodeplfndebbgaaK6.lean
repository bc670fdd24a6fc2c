/- What the document's reader of commands reads (ref05). Condition: at most 10^9 bytes. -/
import Derived.Test.YtodeplfndebbgaaK1
import Derived.Test.YtodeplfndebbgaaR2
import Derived.Test.YtodeplfndebbgaaPs6
import Derived.Test.YtodeplfndebbgaaO7
namespace Go.Proofs.Ytodeplfndebbgaa
open Go.RowKit
attribute [local go_sem] Later.cell QUpon_value QUpon_enter MUpon_value run_eql_slice_nil
attribute [local go_sem ↓ high] loadPrt_is storePrt_is
attribute [local go_sem] run_loadPrt run_loadPrt_at run_storePrt one_int one_bool one_slice one_ptr one_str setRow_new setRow_past cell_ca frozen_ca cellsAt_alloc_at cellsAt_alloc_past cellsAt_drew cellsAt_later cellsAt_setCell cellsAt_set_same cellsAt_setRow_same cellsAt_setRow_far subAt_alloc subAt_drew subAt_later subAt_setCell subAt_setRow ltn_2 ltn_3 ltn_4 ltn_5
/-- The document's reader: its block, the bytes that are left (of the call's argument), its fault. -/
structure RR (w W : World) (g : Nat) (bs : List Int) (f : Int) : Prop where
  ext : Ext w W
  gw : w.heap.size ≤ g
  by_ : Byt bs
  ln : bs.length ≤ 1000000000
  ex : ∃ (A : Option Addr) (c : Nat), At W g 47 #[.slice A bs.length c, .int .i64 f] ∧ bs.length ≤ c ∧ c ≤ 9223372036854775807 ∧ ∀ W, Ext w W → Src W 1 A bs.length (bc bs)
theorem RR.chg {w W W' : World} {g : Nat} {bs : List Int} {f : Int} {m : List Nat} (h : RR w W g bs f) (hx : Chg W W' m) (hm : ∀ k ∈ m, w.heap.size ≤ k) (hg : g ∉ m) : RR w W' g bs f :=
  ⟨(Chg.step (Chg.of_ext h.ext []) hx (fun i hi => .inr (hm i hi))).ext (by simp), h.gw, h.by_, h.ln, let ⟨A, c, hA, h1, h2, h3⟩ := h.ex; ⟨A, c, hx.at hA hg, h1, h2, h3⟩⟩
theorem RR.extR {w W W' : World} {g : Nat} {bs : List Int} {f : Int} (h : RR w W g bs f) (hx : Ext W W') : RR w W' g bs f :=
  ⟨h.ext.trans hx, h.gw, h.by_, h.ln, let ⟨A, c, hA, h1, h2, h3⟩ := h.ex; ⟨A, c, hA.ext hx, h1, h2, h3⟩⟩
theorem rtake_bad (w W : World) (g : Nat) (bs : List Int) (f : Int) (hf : f ≠ 0) (n s size fp : Int) (h : RR w W g bs f) :
    Calls Try.prog 35 #[.pointer (some ⟨g, 0, none⟩), .agg #[.int .u64 n, .int .i64 s, .slice none 0 0, .int .i64 size, .int .i64 fp]] W fun e W' => e = .returned (.agg #[.int .u64 0, .int .i64 0, .slice none 0 0, .int .i64 0, .int .i64 0]) ∧ Ext W W' := by
  obtain ⟨_, _, _, _, A, c, hA, _⟩ := h
  have c0 : W.cell? ⟨g, 1, none⟩ = some (.int .i64 f) := hA.cell 1
  have sg := hA.lt
  have e1 : (f != 0) = true := bne_iff_ne.2 hf
  clear hA
  go_enter Try.func35, Try.ntmps35
  go_wp2_with fail
  first | refine fin_ret rfl (fun K hK => ?_) | refine fin_norm rfl (fun K hK => ?_)
  simp [results, Try.results35, go_sem, rsat]
  try go_simp
  refine hK _ ?_
  clear hK K
  exact ⟨rfl, (by repeat (first | (with_reducible exact Ext.refl _) | (with_reducible assumption) | (with_reducible refine Ext.alloc ?_ _) | (with_reducible refine Ext.drew ?_) | (with_reducible refine Ext.drewN ?_ _) | (with_reducible refine Ext.setCell ?_ (by simp; try omega) _) | (with_reducible refine Ext.setRow ?_ (by simp; try omega) _)))⟩
set_option maxHeartbeats 2000000 in
set_option maxRecDepth 100000 in
theorem rtake_ok (w W : World) (g : Nat) (bs : List Int) (n s fp : Int) (size : Nat) (hs : size ≤ bs.length) (h : RR w W g bs 0) :
    Calls Try.prog 35 #[.pointer (some ⟨g, 0, none⟩), .agg #[.int .u64 n, .int .i64 s, .slice none 0 0, .int .i64 size, .int .i64 fp]] W fun e W' => e = .returned (.agg #[.int .u64 n, .int .i64 s, .slice none 0 0, .int .i64 size, .int .i64 fp]) ∧ RR w W' g (bs.drop size) fp ∧ Chg W W' [g] := by
  obtain ⟨hx, hgw, hby, hln, A, c, hA, hc, hm, hS⟩ := h
  have c0 : W.cell? ⟨g, 0, none⟩ = some (.slice A bs.length c) := hA.cell 0
  have c1 : W.cell? ⟨g, 1, none⟩ = some (.int .i64 0) := hA.cell 1
  have f0 := hA.frozen 0
  have f1 := hA.frozen 1
  have sg := hA.lt
  have HS := Lib.hid hS
  have HB := Lib.hid hby
  clear hS hby
  have dl : (bs.drop size).length = bs.length - size := List.length_drop
  by_cases hcn : c - size = 0
  ·
    go_enter Try.func35, Try.ntmps35
    go_wp2_with fail
    refine gen_world (fun W2 => Chg W W2 [g] ∧ At W2 g 47 #[.slice A bs.length c, .int .i64 fp] ∧ At W2 W.heap.size 64 #[.int .u64 n, .int .i64 s, .slice none 0 0, .int .i64 size, .int .i64 fp] ∧ At W2 (W.heap.size + 1) 64 #[.int .u64 0, .int .i64 0, .slice none 0 0, .int .i64 0, .int .i64 0]) ⟨(((Chg.refl W [g]).set (.inl (by simp)) _).alloc _).alloc _, ((hA.set 1 _).alloc _).alloc _, (by repeat (first | (with_reducible exact At.new _ _ _) | ((with_reducible refine At.new' _ _ _ _ ?_); simp; done) | (with_reducible assumption) | (with_reducible refine At.drew ?_) | (with_reducible refine At.alloc ?_ _) | (with_reducible apply At.upd) | (with_reducible apply At.setRow) | (with_reducible refine At.rowFar ?_ (by first | (simp; done) | (simp; omega) | omega) _) | ((with_reducible refine At.far ?_ (by first | (simp; done) | (simp; omega) | omega) _)) | (with_reducible rfl) | (simp; done))), (by repeat (first | (with_reducible exact At.new _ _ _) | ((with_reducible refine At.new' _ _ _ _ ?_); simp; done) | (with_reducible assumption) | (with_reducible refine At.drew ?_) | (with_reducible refine At.alloc ?_ _) | (with_reducible apply At.upd) | (with_reducible apply At.setRow) | (with_reducible refine At.rowFar ?_ (by first | (simp; done) | (simp; omega) | omega) _) | ((with_reducible refine At.far ?_ (by first | (simp; done) | (simp; omega) | omega) _)) | (with_reducible rfl) | (simp; done)))⟩ (fun w2 h2 => ?_)
    obtain ⟨g2, a2, p2, r2⟩ := h2
    have hp : W.heap.size < W.heap.size + 1 := by omega
    generalize W.heap.size + 1 = gr at *
    generalize hpp : W.heap.size = gp at *
    clear c0 c1 f0 f1 hA
    have c0 : w2.cell? ⟨g, 0, none⟩ = some (.slice A bs.length c) := a2.cell 0
    have ep := cellsAt_at p2
    have sp := p2.lt
    have sa := a2.lt
    refine wp_region_x 10 [0, 0, 0, 0, 1, 0, 1, 0, 0, 0] (by kernel_rfl) (by kernel_rfl) (by kernel_rfl) ?_
    simp only [List.take_succ_cons, List.take_zero, List.drop_succ_cons, List.drop_zero]
    refine hl_pure (fun K hK => ?_)
    go_simp
    refine hK _ ?_
    clear hK K
    refine hl_pure (fun K hK => ?_)
    go_simp
    refine hK _ ?_
    clear hK K
    refine hl_pure (fun K hK => ?_)
    go_simp
    refine hK _ ?_
    clear hK K
    refine hl_pure (fun K hK => ?_)
    go_simp
    refine hK _ ?_
    clear hK K
    refine hl_quiet (fun K hK => ?_)
    go_simp
    refine hK _ ?_
    clear hK K
    refine hl_pure (fun K hK => ?_)
    go_simp
    refine hK _ ?_
    clear hK K
    refine hl_quiet (fun K hK => ?_)
    go_simp
    refine hK _ ?_
    clear hK K
    refine hl_pure (fun K hK => ?_)
    go_simp
    refine hK _ ?_
    clear hK K
    refine hl_pure (fun K hK => ?_)
    go_simp
    refine hK _ ?_
    clear hK K
    refine hl_pure (fun K hK => ?_)
    go_simp
    refine hK _ ?_
    clear hK K
    refine hl_nil ?_
    intro w3 hx3 K hK
    have a3 := a2.ext hx3
    have p3 := p2.ext hx3
    have r3 := r2.ext hx3
    have g3 := g2.extR hx3
    clear c0 ep sp sa a2 p2 r2 g2
    have f3 := a3.frozen 0
    have c3 : w3.cell? ⟨g, 0, none⟩ = some (.slice A bs.length c) := a3.cell 0
    have sa := a3.lt
    have e3 := cellsAt_at p3
    have e4 := cellsAt_at r3
    have s3 := p3.lt
    have s4 := r3.lt
    have n1 : gp ≠ g := by omega
    have n2 : gr ≠ g := by omega
    go_wp2_with fail
    obtain ⟨w4, hw4⟩ : ∃ W' : World, W' = (w3.setCell ⟨g, 0, none⟩ (.slice A (bs.length - size) 0)).setRow gr #[.int .u64 n, .int .i64 s, .slice none 0 0, .int .i64 size, .int .i64 fp] := ⟨_, rfl⟩
    have g4 : Chg W w4 [g] := by rw [hw4]; exact (g3.set (.inl (by simp)) _).setRow (.inr (by omega)) _
    have a4 : At w4 g 47 #[.slice A (bs.length - size) 0, .int .i64 fp] := by rw [hw4]; exact (a3.set 0 _).rowFar (by omega) _
    have r4 : At w4 gr 64 #[.int .u64 n, .int .i64 s, .slice none 0 0, .int .i64 size, .int .i64 fp] := by rw [hw4]; exact (r3.far (by simp; omega) _).setRow _
    rw [← hw4]
    clear hw4 e3 e4 s3 s4 sa
    have e4 := cellsAt_at r4
    have s4 := r4.lt
    first | refine fin_ret rfl (fun K hK => ?_) | refine fin_norm rfl (fun K hK => ?_)
    simp [results, Try.results35, go_sem, rsat]
    try go_simp
    refine hK _ ?_
    clear hK K
    refine ⟨rfl, ⟨(Chg.step (Chg.of_ext hx []) g4 (fun i hi => by simp at hi; right; omega)).ext (by simp), hgw, fun x hx => HB.out x (List.mem_of_mem_drop hx), by omega, A, 0, ?_, by omega, by omega, fun W hW => ?_⟩, g4⟩
    · rw [dl]; exact a4
    · rw [dl]; exact (HS.out W hW).drop5 hs _ (by intro; omega)
  ·
    go_enter Try.func35, Try.ntmps35
    go_wp2_with fail
    refine gen_world (fun W2 => Chg W W2 [g] ∧ At W2 g 47 #[.slice A bs.length c, .int .i64 fp] ∧ At W2 W.heap.size 64 #[.int .u64 n, .int .i64 s, .slice none 0 0, .int .i64 size, .int .i64 fp] ∧ At W2 (W.heap.size + 1) 64 #[.int .u64 0, .int .i64 0, .slice none 0 0, .int .i64 0, .int .i64 0]) ⟨(((Chg.refl W [g]).set (.inl (by simp)) _).alloc _).alloc _, ((hA.set 1 _).alloc _).alloc _, (by repeat (first | (with_reducible exact At.new _ _ _) | ((with_reducible refine At.new' _ _ _ _ ?_); simp; done) | (with_reducible assumption) | (with_reducible refine At.drew ?_) | (with_reducible refine At.alloc ?_ _) | (with_reducible apply At.upd) | (with_reducible apply At.setRow) | (with_reducible refine At.rowFar ?_ (by first | (simp; done) | (simp; omega) | omega) _) | ((with_reducible refine At.far ?_ (by first | (simp; done) | (simp; omega) | omega) _)) | (with_reducible rfl) | (simp; done))), (by repeat (first | (with_reducible exact At.new _ _ _) | ((with_reducible refine At.new' _ _ _ _ ?_); simp; done) | (with_reducible assumption) | (with_reducible refine At.drew ?_) | (with_reducible refine At.alloc ?_ _) | (with_reducible apply At.upd) | (with_reducible apply At.setRow) | (with_reducible refine At.rowFar ?_ (by first | (simp; done) | (simp; omega) | omega) _) | ((with_reducible refine At.far ?_ (by first | (simp; done) | (simp; omega) | omega) _)) | (with_reducible rfl) | (simp; done)))⟩ (fun w2 h2 => ?_)
    obtain ⟨g2, a2, p2, r2⟩ := h2
    have hp : W.heap.size < W.heap.size + 1 := by omega
    generalize W.heap.size + 1 = gr at *
    generalize hpp : W.heap.size = gp at *
    clear c0 c1 f0 f1 hA
    have c0 : w2.cell? ⟨g, 0, none⟩ = some (.slice A bs.length c) := a2.cell 0
    have ep := cellsAt_at p2
    have sp := p2.lt
    have sa := a2.lt
    refine wp_region_x 10 [0, 0, 0, 0, 1, 0, 1, 0, 0, 0] (by kernel_rfl) (by kernel_rfl) (by kernel_rfl) ?_
    simp only [List.take_succ_cons, List.take_zero, List.drop_succ_cons, List.drop_zero]
    refine hl_pure (fun K hK => ?_)
    go_simp
    refine hK _ ?_
    clear hK K
    refine hl_pure (fun K hK => ?_)
    go_simp
    refine hK _ ?_
    clear hK K
    refine hl_pure (fun K hK => ?_)
    go_simp
    refine hK _ ?_
    clear hK K
    refine hl_pure (fun K hK => ?_)
    go_simp
    refine hK _ ?_
    clear hK K
    refine hl_quiet (fun K hK => ?_)
    go_simp
    refine hK _ ?_
    clear hK K
    refine hl_pure (fun K hK => ?_)
    go_simp
    refine hK _ ?_
    clear hK K
    refine hl_quiet (fun K hK => ?_)
    go_simp
    refine hK _ ?_
    clear hK K
    refine hl_pure (fun K hK => ?_)
    go_simp
    refine hK _ ?_
    clear hK K
    refine hl_pure (fun K hK => ?_)
    go_simp
    refine hK _ ?_
    clear hK K
    refine hl_pure (fun K hK => ?_)
    go_simp
    refine hK _ ?_
    clear hK K
    refine hl_nil ?_
    intro w3 hx3 K hK
    have a3 := a2.ext hx3
    have p3 := p2.ext hx3
    have r3 := r2.ext hx3
    have g3 := g2.extR hx3
    clear c0 ep sp sa a2 p2 r2 g2
    have f3 := a3.frozen 0
    have c3 : w3.cell? ⟨g, 0, none⟩ = some (.slice A bs.length c) := a3.cell 0
    have sa := a3.lt
    have e3 := cellsAt_at p3
    have e4 := cellsAt_at r3
    have s3 := p3.lt
    have s4 := r3.lt
    have n1 : gp ≠ g := by omega
    have n2 : gr ≠ g := by omega
    go_wp2_with fail
    obtain ⟨w4, hw4⟩ : ∃ W' : World, W' = (w3.setCell ⟨g, 0, none⟩ (.slice (A.map (fun x => x.add size)) (bs.length - size) (c - size))).setRow gr #[.int .u64 n, .int .i64 s, .slice none 0 0, .int .i64 size, .int .i64 fp] := ⟨_, rfl⟩
    have g4 : Chg W w4 [g] := by rw [hw4]; exact (g3.set (.inl (by simp)) _).setRow (.inr (by omega)) _
    have a4 : At w4 g 47 #[.slice (A.map (fun x => x.add size)) (bs.length - size) (c - size), .int .i64 fp] := by rw [hw4]; exact (a3.set 0 _).rowFar (by omega) _
    have r4 : At w4 gr 64 #[.int .u64 n, .int .i64 s, .slice none 0 0, .int .i64 size, .int .i64 fp] := by rw [hw4]; exact (r3.far (by simp; omega) _).setRow _
    rw [← hw4]
    clear hw4 e3 e4 s3 s4 sa
    have e4 := cellsAt_at r4
    have s4 := r4.lt
    first | refine fin_ret rfl (fun K hK => ?_) | refine fin_norm rfl (fun K hK => ?_)
    simp [results, Try.results35, go_sem, rsat]
    try go_simp
    refine hK _ ?_
    clear hK K
    refine ⟨rfl, ⟨(Chg.step (Chg.of_ext hx []) g4 (fun i hi => by simp at hi; right; omega)).ext (by simp), hgw, fun x hx => HB.out x (List.mem_of_mem_drop hx), by omega, (A.map (fun x => x.add size)), (c - size), ?_, by omega, by omega, fun W hW => ?_⟩, g4⟩
    · rw [dl]; exact a4
    · rw [dl]; exact (HS.out W hW).drop5 hs _ (by intro _; rfl)
/-- What the document's reader tells of a number, and of what is left. -/
def numQ (bs : List Int) (f : Int) : Nat × List Int × Int := if f ≠ 0 then (0, bs, f) else if (numG 10 0 0 bs).2.2 = 0 then numG 10 0 0 bs else (0, bs, (numG 10 0 0 bs).2.2)
theorem prt_field0 (x0 x1 x2 x3 x4 : Value) (w : World) : (Instr.field 64 (.agg #[x0, x1, x2, x3, x4]) 0).run Try.prog w = .ok x0 w := by kernel_rfl
theorem prt_field1 (x0 x1 x2 x3 x4 : Value) (w : World) : (Instr.field 64 (.agg #[x0, x1, x2, x3, x4]) 1).run Try.prog w = .ok x1 w := by kernel_rfl
attribute [local go_sem] prt_field0 prt_field1
theorem uintR_lt8 {bs : List Int} (h : Byt bs) (f : Int) : (uintR bs f 1).1 < 256 := by
  unfold uintR
  split
  · show 0 < 256; omega
  · split
    · show 0 < 256; omega
    · exact valN_bytes (fun x hx => h x (List.mem_of_mem_take hx)) 1 (by rw [List.length_take]; omega)
theorem uintR_zz (bs : List Int) (z : Nat) : ∃ k : Nat, k ≤ bs.length ∧ uintP bs z = ((uintR bs 0 z).1, (k : Int), (uintR bs 0 z).2.2) ∧ (uintR bs 0 z).2.1 = bs.drop k := by
  have e : uintR bs 0 z = if bs.length < z then (0, bs, 3) else (valN (bs.take z), bs.drop z, 0) := by unfold uintR; rw [if_neg (by simp)]
  rw [e]
  unfold uintP
  by_cases h : bs.length < z
  · rw [if_pos h, if_pos h]; exact ⟨0, Nat.zero_le _, rfl, rfl⟩
  · rw [if_neg h, if_neg h]; exact ⟨z, by omega, rfl, rfl⟩
theorem numQ_zz (bs : List Int) : ∃ k : Nat, k ≤ bs.length ∧ numP bs = ((numQ bs 0).1, (k : Int), (numQ bs 0).2.2) ∧ (numQ bs 0).2.1 = bs.drop k := by
  unfold numQ
  rw [if_neg (by simp)]
  obtain ⟨⟨z, hz, hd⟩, _⟩ := numG_is6 10 0 0 bs
  generalize hq : numG 10 0 0 bs = q at hd ⊢
  obtain ⟨n, cs, g⟩ := q
  simp only at hd ⊢
  by_cases h : g = 0
  · rw [if_pos h]
    subst h
    refine ⟨z, hz, ?_, hd⟩
    rw [numP_ok hq, hd, List.length_drop]
    simp only
    rw [show (bs.length : Int) - ((bs.length - z : Nat) : Int) = (z : Int) by omega]
  · rw [if_neg h]
    exact ⟨0, Nat.zero_le _, numP_bad hq h, rfl⟩
set_option maxHeartbeats 2000000 in
theorem rone_c (w W : World) (g : Nat) (bs : List Int) (f : Int) (h : RR w W g bs f) :
    Calls Try.prog 22 #[.pointer (some ⟨g, 0, none⟩)] W fun e W' => e = .returned (.int .i64 ((uintR bs f 1).1 : Nat)) ∧ RR w W' g (uintR bs f 1).2.1 (uintR bs f 1).2.2 ∧ Chg W W' [g] := by
  have hlt := uintR_lt8 h.by_ f
  have ew : IntKind.i64.wrap ((uintR bs f 1).1 : Int) = ((uintR bs f 1).1 : Int) := by rw [IntWalk.i64_left, wrap64_in ⟨by omega, by omega⟩]
  obtain ⟨A, c, hA, hc, hm, hS⟩ := h.ex
  have CU := readuint_c A c bs 1 (by decide) h.by_ h.ln W (hS W h.ext)
  have c0 : W.cell? ⟨g, 0, none⟩ = some (.slice A bs.length c) := hA.cell 0
  have sg := hA.lt
  by_cases hf : f = 0
  · subst hf
    obtain ⟨z, hz, hu, hs⟩ := uintR_zz bs 1
    rw [hu] at CU
    simp only at CU
    rw [hs]
    generalize uintR bs 0 1 = r at CU hlt ew hu ⊢
    obtain ⟨v, s, f'⟩ := r
    simp only at CU hlt ew ⊢
    clear hA hS hs hu
    go_enter Try.func22, Try.ntmps22
    go_wp2_with fail
    refine CU.mono ?_
    rintro e w1 ⟨rfl, hx1⟩
    go_wp2_with fail
    refine (rtake_ok w w1 g bs v 0 f' z hz (h.extR hx1)).mono ?_
    rintro e w2 ⟨rfl, hR2, hc2⟩
    go_wp2_with fail
    first | refine fin_ret rfl (fun K hK => ?_) | refine fin_norm rfl (fun K hK => ?_)
    simp [results, Try.results22, go_sem, rsat]
    try go_simp
    refine hK _ ?_
    clear hK K
    exact ⟨rfl, hR2, (Chg.of_ext hx1 _).trans hc2⟩
  · have hr : uintR bs f 1 = (0, bs, f) := if_pos hf
    rw [hr] at ew ⊢
    clear hA hS
    go_enter Try.func22, Try.ntmps22
    go_wp2_with fail
    refine CU.mono ?_
    rintro e w1 ⟨rfl, hx1⟩
    go_wp2_with fail
    refine (rtake_bad w w1 g bs f hf _ _ _ _ (h.extR hx1)).mono ?_
    rintro e w2 ⟨rfl, hx2⟩
    go_wp2_with fail
    first | refine fin_ret rfl (fun K hK => ?_) | refine fin_norm rfl (fun K hK => ?_)
    simp [results, Try.results22, go_sem, rsat]
    try go_simp
    refine hK _ ?_
    clear hK K
    exact ⟨rfl, (h.extR hx1).extR hx2, Chg.of_ext (hx1.trans hx2) _⟩
set_option maxHeartbeats 2000000 in
theorem rnumQ_c (w W : World) (g : Nat) (bs : List Int) (f : Int) (h : RR w W g bs f) :
    Calls Try.prog 23 #[.pointer (some ⟨g, 0, none⟩)] W fun e W' => e = .returned (.int .u64 ((numQ bs f).1 : Nat)) ∧ RR w W' g (numQ bs f).2.1 (numQ bs f).2.2 ∧ Chg W W' [g] := by
  obtain ⟨A, c, hA, hc, hm, hS⟩ := h.ex
  have CU := readnum_c A c bs h.by_ h.ln W (hS W h.ext)
  have c0 : W.cell? ⟨g, 0, none⟩ = some (.slice A bs.length c) := hA.cell 0
  have sg := hA.lt
  by_cases hf : f = 0
  · subst hf
    obtain ⟨z, hz, hu, hs⟩ := numQ_zz bs
    rw [hu] at CU
    simp only at CU
    rw [hs]
    generalize numQ bs 0 = r at CU hu ⊢
    obtain ⟨v, s, f'⟩ := r
    simp only at CU ⊢
    clear hA hS hs hu
    go_enter Try.func23, Try.ntmps23
    go_wp2_with fail
    refine CU.mono ?_
    rintro e w1 ⟨rfl, hx1⟩
    go_wp2_with fail
    refine (rtake_ok w w1 g bs v 0 f' z hz (h.extR hx1)).mono ?_
    rintro e w2 ⟨rfl, hR2, hc2⟩
    go_wp2_with fail
    first | refine fin_ret rfl (fun K hK => ?_) | refine fin_norm rfl (fun K hK => ?_)
    simp [results, Try.results23, go_sem, rsat]
    try go_simp
    refine hK _ ?_
    clear hK K
    exact ⟨rfl, hR2, (Chg.of_ext hx1 _).trans hc2⟩
  · have hr : numQ bs f = (0, bs, f) := if_pos hf
    rw [hr]
    clear hA hS
    go_enter Try.func23, Try.ntmps23
    go_wp2_with fail
    refine CU.mono ?_
    rintro e w1 ⟨rfl, hx1⟩
    go_wp2_with fail
    refine (rtake_bad w w1 g bs f hf _ _ _ _ (h.extR hx1)).mono ?_
    rintro e w2 ⟨rfl, hx2⟩
    go_wp2_with fail
    first | refine fin_ret rfl (fun K hK => ?_) | refine fin_norm rfl (fun K hK => ?_)
    simp [results, Try.results23, go_sem, rsat]
    try go_simp
    refine hK _ ?_
    clear hK K
    exact ⟨rfl, (h.extR hx1).extR hx2, Chg.of_ext (hx1.trans hx2) _⟩
set_option maxHeartbeats 2000000 in
theorem rsg_c (w W : World) (g : Nat) (bs : List Int) (f : Int) (h : RR w W g bs f) :
    Calls Try.prog 24 #[.pointer (some ⟨g, 0, none⟩)] W fun e W' => e = .returned (.int .i64 (backN (uintR bs f 8).1)) ∧ RR w W' g (uintR bs f 8).2.1 (uintR bs f 8).2.2 ∧ Chg W W' [g] := by
  obtain ⟨A, c, hA, hc, hm, hS⟩ := h.ex
  have CU := readint_c A c bs h.by_ h.ln W (hS W h.ext)
  have c0 : W.cell? ⟨g, 0, none⟩ = some (.slice A bs.length c) := hA.cell 0
  have sg := hA.lt
  by_cases hf : f = 0
  · subst hf
    obtain ⟨z, hz, hu, hs⟩ := uintR_zz bs 8
    rw [hu] at CU
    simp only at CU
    rw [hs]
    generalize uintR bs 0 8 = r at CU hu ⊢
    obtain ⟨v, s, f'⟩ := r
    simp only at CU ⊢
    clear hA hS hs hu
    go_enter Try.func24, Try.ntmps24
    go_wp2_with fail
    refine CU.mono ?_
    rintro e w1 ⟨rfl, hx1⟩
    go_wp2_with fail
    refine (rtake_ok w w1 g bs 0 (backN v) f' z hz (h.extR hx1)).mono ?_
    rintro e w2 ⟨rfl, hR2, hc2⟩
    go_wp2_with fail
    first | refine fin_ret rfl (fun K hK => ?_) | refine fin_norm rfl (fun K hK => ?_)
    simp [results, Try.results24, go_sem, rsat]
    try go_simp
    refine hK _ ?_
    clear hK K
    exact ⟨rfl, hR2, (Chg.of_ext hx1 _).trans hc2⟩
  · have hr : uintR bs f 8 = (0, bs, f) := if_pos hf
    rw [hr]
    have hb0 : backN 0 = 0 := by decide
    simp only [hb0]
    clear hA hS
    go_enter Try.func24, Try.ntmps24
    go_wp2_with fail
    refine CU.mono ?_
    rintro e w1 ⟨rfl, hx1⟩
    go_wp2_with fail
    refine (rtake_bad w w1 g bs f hf _ _ _ _ (h.extR hx1)).mono ?_
    rintro e w2 ⟨rfl, hx2⟩
    go_wp2_with fail
    first | refine fin_ret rfl (fun K hK => ?_) | refine fin_norm rfl (fun K hK => ?_)
    simp [results, Try.results24, go_sem, rsat]
    try go_simp
    refine hK _ ?_
    clear hK K
    exact ⟨rfl, (h.extR hx1).extR hx2, Chg.of_ext (hx1.trans hx2) _⟩
end Go.Proofs.Ytodeplfndebbgaa
