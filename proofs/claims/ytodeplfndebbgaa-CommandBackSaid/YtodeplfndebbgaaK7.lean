/- Commands (layer 5): Decode, by the document. Condition: at most 10^9 bytes. -/
import Derived.Test.YtodeplfndebbgaaK4
import Derived.Test.YtodeplfndebbgaaK6
import Derived.Test.YtodeplfndebbgaaRs
namespace Go.Proofs.Ytodeplfndebbgaa
open Go.RowKit
attribute [local go_sem] Later.cell QUpon_value QUpon_enter MUpon_value run_eql_slice_nil Same.cell
attribute [local go_sem ↓ high] loadCmd_is storeCmd_is
attribute [local go_sem] run_loadCmd run_loadCmd_at run_storeCmd one_int one_bool one_slice one_ptr one_str setRow_new setRow_past cell_ca frozen_ca cellsAt_alloc_at cellsAt_alloc_past cellsAt_drew cellsAt_later cellsAt_setCell cellsAt_set_same cellsAt_setRow_same cellsAt_setRow_far subAt_alloc subAt_drew subAt_later subAt_setCell subAt_setRow ltn_2 ltn_3 ltn_4 ltn_5
/-- Amid a decoding by the document: the result's block, the reader, the command's block. -/
structure DR (w W : World) (g gc : Nat) (rs : List Int) (f : Int) (cells : Array Value) : Prop where
  m : At W w.heap.size 25 #[.int .i64 0, .int .i64 0, .int .i64 0, .int .i64 0, .int .i64 0, .int .i64 0, .int .i64 0, .int .i64 0, .int .i64 0]
  c : At W gc 25 cells
  r : RR w W g rs f
  gw : w.heap.size < g
  cg : g < gc
theorem DR.read {w W W' : World} {g gc : Nat} {rs rs' : List Int} {f f' : Int} {cells : Array Value} (h : DR w W g gc rs f cells) (hr : RR w W' g rs' f') (hc : Chg W W' [g]) : DR w W' g gc rs' f' cells :=
  ⟨hc.at h.m (by have := h.gw; simp; omega), hc.at h.c (by have := h.cg; simp; omega), hr, h.gw, h.cg⟩
theorem DR.store {w W : World} {g gc : Nat} {rs : List Int} {f : Int} {cells : Array Value} (h : DR w W g gc rs f cells) (i : Nat) (v : Value) : DR w (W.setCell ⟨gc, i, none⟩ v) g gc rs f (cells.setIfInBounds i v) :=
  ⟨h.m.far (by have := h.gw; have := h.cg; simp; omega) v, h.c.set i v, h.r.chg ((Chg.refl W [gc]).set (.inl (by simp)) v) (by have := h.gw; have := h.cg; simp; omega) (by have := h.cg; simp; omega), h.gw, h.cg⟩
theorem DR.extR {w W W' : World} {g gc : Nat} {rs : List Int} {f : Int} {cells : Array Value} (h : DR w W g gc rs f cells) (hx : Ext W W') : DR w W' g gc rs f cells :=
  ⟨h.m.ext hx, h.c.ext hx, h.r.extR hx, h.gw, h.cg⟩
theorem DR.row {w W : World} {g gc : Nat} {rs : List Int} {f : Int} {cells : Array Value} (h : DR w W g gc rs f cells) (cs : Array Value) : Ext w (W.setRow w.heap.size cs) ∧ At (W.setRow w.heap.size cs) w.heap.size 25 cs :=
  ⟨h.r.ext.setRow (Nat.le_refl _) cs, h.m.setRow cs⟩
theorem RR.cells {w W : World} {g : Nat} {bs : List Int} {f : Int} (h : RR w W g bs f) : g < W.heap.size ∧ W.cell? ⟨g, 1, none⟩ = some (.int .i64 f) ∧ W.frozen? ⟨g, 1, none⟩ = false ∧ ∃ A c, W.cell? ⟨g, 0, none⟩ = some (.slice A bs.length c) :=
  let ⟨A, c, hA, _⟩ := h.ex; ⟨hA.lt, hA.cell 1, hA.frozen 1, A, c, hA.cell 0⟩
theorem uintR_cons (b : Int) (r : List Int) : uintR (b :: r) 0 1 = (b.toNat, r, 0) := by
  unfold uintR
  rw [if_neg (by simp), if_neg (by simp)]
  show ((0 : Nat) * 256 + b.toNat, r, (0 : Int)) = _
  simp
theorem rightC_id (c : Cm) (h : 4611686018427387904 < c.id) : rightC c = false := by
  unfold rightC
  have : inC 0 4611686018427387904 c.id = false := by unfold inC; simp; omega
  rw [this]
  simp
theorem rightC_own (c : Cm) (hk : c.kind = 1) (h : 1073741824 < c.own) : rightC c = false := by
  unfold rightC
  have : inC 0 1073741824 c.own = false := by unfold inC; simp; omega
  rw [if_pos hk, this]
  simp
theorem fin4 {c : Cm} {rs : List Int} {f : Int} (hf : f = 0) (h : 0 < rs.length ∨ rightC c = false) : finC c rs f = (zeroC, 4) := by subst hf; unfold finC; rw [if_neg (by simp), if_pos h]
theorem finOk {c : Cm} {rs : List Int} {f : Int} (hf : f = 0) (h : ¬ 0 < rs.length) (hr : rightC c = true) : finC c rs f = (c, 0) := by subst hf; unfold finC; rw [if_neg (by simp), if_neg (by rintro (h1 | h1); exact h h1; rw [hr] at h1; cases h1)]
theorem finBad {c : Cm} {rs : List Int} {f : Int} (hf : f ≠ 0) : finC c rs f = (zeroC, f) := by unfold finC; rw [if_pos hf]
set_option maxHeartbeats 8000000 in
set_option maxRecDepth 100000 in
theorem rdec2_c (B : Option Addr) (cb : Nat) (bs : List Int) (hb : Byt bs) (hl : bs.length ≤ 1000000000) (hlc : bs.length ≤ cb) (hcm : cb ≤ 9223372036854775807) (w : World) (hS : Src w 1 B bs.length (bc bs)) (s1 s2 s3 : List Int) (f2 f3 : Int) (vb vd : Nat) (hbs : bs = 2 :: s1) (e2 : uintR s1 0 1 = (vb, s2, f2)) (e3 : numQ s2 f2 = (vd, s3, f3)) :
    Calls Try.prog 8 #[.slice B bs.length cb] w fun e w' => Ext w w' ∧ ∃ (c : Cm) (f : Int), e = .returned (.tuple #[.agg #[.int .i64 c.kind, .int .i64 c.sym, .int .i64 c.id, .int .i64 c.own, .int .i64 c.side, .int .i64 c.typ, .int .i64 c.price, .int .i64 c.qty, .int .i64 c.flags], .int .i64 f]) ∧ (c, f) = finC ⟨2, (vb : Int), (min vd 4611686018427387905 : Nat), 0, 0, 0, 0, 0, 0⟩ s3 f3 := by
  have e1 : uintR bs 0 1 = (2, s1, 0) := by rw [hbs]; exact uintR_cons _ _
  obtain ⟨bb, off, rfl, hbw, hc⟩ := hS.lt (by rw [hbs]; simp) (by decide)
  have c0 : w.cell? ⟨bb, off, none⟩ = some (.int .u8 2) := by have := hc 0 (by rw [hbs]; simp); rw [hbs] at this; exact this
  have hpos : 0 < bs.length := by rw [hbs]; simp
  have hposi : ¬ ((bs.length : Int) = 0) := by omega
  have HS : Hid (∀ W, Ext w W → Src W 1 (some ⟨bb, off, none⟩) bs.length (bc bs)) := Lib.hid (fun W hx => hS.ext hx)
  have HB := Lib.hid hb
  clear hc hS hb hbs
  go_enter Try.func8, Try.ntmps8
  go_wp2_with fail
  obtain ⟨w1, hw1⟩ : ∃ W : World, W = (w.alloc (.cells #[.int .i64 0, .int .i64 0, .int .i64 0, .int .i64 0, .int .i64 0, .int .i64 0, .int .i64 0, .int .i64 0, .int .i64 0] 25)).alloc (.cells #[.slice (some ⟨bb, off, none⟩) bs.length cb, .int .i64 0] 47) := ⟨_, rfl⟩
  have r1 : RR w w1 (w.heap.size + 1) bs 0 := by rw [hw1]; exact ⟨((Ext.refl w).alloc _).alloc _, by omega, HB.out, hl, _, _, (by repeat (first | (with_reducible exact At.new _ _ _) | ((with_reducible refine At.new' _ _ _ _ ?_); simp; done) | (with_reducible assumption) | (with_reducible refine At.drew ?_) | (with_reducible refine At.alloc ?_ _) | (with_reducible apply At.upd) | (with_reducible apply At.setRow) | (with_reducible refine At.rowFar ?_ (by first | (simp; done) | (simp; omega) | omega) _) | ((with_reducible refine At.far ?_ (by first | (simp; done) | (simp; omega) | omega) _)) | (with_reducible rfl) | (simp; done))), hlc, hcm, HS.out⟩
  have m1 : At w1 w.heap.size 25 #[.int .i64 0, .int .i64 0, .int .i64 0, .int .i64 0, .int .i64 0, .int .i64 0, .int .i64 0, .int .i64 0, .int .i64 0] := by rw [hw1]; exact (by repeat (first | (with_reducible exact At.new _ _ _) | ((with_reducible refine At.new' _ _ _ _ ?_); simp; done) | (with_reducible assumption) | (with_reducible refine At.drew ?_) | (with_reducible refine At.alloc ?_ _) | (with_reducible apply At.upd) | (with_reducible apply At.setRow) | (with_reducible refine At.rowFar ?_ (by first | (simp; done) | (simp; omega) | omega) _) | ((with_reducible refine At.far ?_ (by first | (simp; done) | (simp; omega) | omega) _)) | (with_reducible rfl) | (simp; done)))
  rw [← hw1]
  clear hw1
  have hgw : w.heap.size < w.heap.size + 1 := by omega
  generalize w.heap.size + 1 = g at *
  have C2 := rone_c w _ g _ _ r1
  rw [e1] at C2
  simp only at C2
  refine C2.mono ?_
  rintro e w2 ⟨rfl, r2, q2⟩
  clear C2
  have m2 := q2.at m1 (by simp; omega)
  clear r1 q2 m1
  go_wp2_with fail
  have C3 := rone_c w _ g _ _ r2
  rw [e2] at C3
  simp only at C3
  refine C3.mono ?_
  rintro e w3 ⟨rfl, r3, q3⟩
  clear C3
  have m3 := q3.at m2 (by simp; omega)
  clear r2 q3 m2
  go_wp2_with fail
  obtain ⟨w4, hw4⟩ : ∃ W : World, W = w3.alloc (.cells #[.int .i64 2, .int .i64 (vb : Int), .int .i64 0, .int .i64 0, .int .i64 0, .int .i64 0, .int .i64 0, .int .i64 0, .int .i64 0] 25) := ⟨_, rfl⟩
  have h4 : DR w w4 g w3.heap.size s2 f2 #[.int .i64 2, .int .i64 (vb : Int), .int .i64 0, .int .i64 0, .int .i64 0, .int .i64 0, .int .i64 0, .int .i64 0, .int .i64 0] := by rw [hw4]; exact ⟨m3.alloc _, At.new _ _ _, r3.extR ((Ext.refl _).alloc _), hgw, r3.cells.1⟩
  rw [← hw4]
  clear hw4 m3 r3
  generalize w3.heap.size = gc at *
  have C5 := rnumQ_c w _ g _ _ h4.r
  rw [e3] at C5
  simp only at C5
  refine C5.mono ?_
  rintro e w5 ⟨rfl, r5, q5⟩
  have h5 := h4.read r5 q5
  clear C5 r5 q5 h4
  by_cases hf : f3 = 0
  rotate_left
  · have hfb : (f3 != 0) = true := bne_iff_ne.2 hf
    have HFIN : Hid (finC ⟨2, (vb : Int), (min vd 4611686018427387905 : Nat), 0, 0, 0, 0, 0, 0⟩ s3 f3 = (zeroC, f3)) := Lib.hid (finBad hf)
    clear hf
    have cX := cellsAt_at h5.c
    have sX := h5.c.lt
    have mX := cellsAt_at h5.m
    have nX := h5.m.lt
    obtain ⟨gX, f1X, f2X, AX, kX, f0X⟩ := h5.r.cells
    have iX := h5.gw
    have jX := h5.cg
    have lX : w.heap.size ≠ gc := by omega
    have uX : gc ≠ g := by omega
    go_wp2_with fail
    clear cX sX mX nX gX f1X f2X f0X iX jX lX uX
    have gX := h5.r.cells.1
    obtain ⟨_, f1X, f2X, AX, kX, f0X⟩ := h5.r.cells
    refine wp_region_s [0, 0, 0, 0, 0, 1, 0] (fun x => ∀ b ∈ [g], x.heap[b]? = w5.heap[b]?) (by kernel_rfl) (by kernel_rfl) ?_
    refine hls_same (fun K hK => ?_)
    go_simp
    refine hK _ ?_
    clear hK K
    refine hls_same (fun K hK => ?_)
    go_simp
    refine hK _ ?_
    clear hK K
    refine hls_same (fun K hK => ?_)
    go_simp
    refine hK _ ?_
    clear hK K
    refine hls_same (fun K hK => ?_)
    go_simp
    refine hK _ ?_
    clear hK K
    refine hls_same (fun K hK => ?_)
    go_simp
    refine hK _ ?_
    clear hK K
    refine hls_skip (by decide) ?_
    refine hls_same (fun K hK => ?_)
    go_simp
    refine hK _ ?_
    clear hK K
    refine hls_nil ?_
    intro w6 hxw6 K hK
    have h6 := h5.extR hxw6
    have same1 : ∀ b ∈ [g], w6.heap[b]? = w5.heap[b]? := fun b hb => by simp at hb; subst hb; exact hxw6.block _ gX
    clear f1X f2X f0X
    have mX := cellsAt_at h6.m
    have nX := h6.m.lt
    have iX := h6.gw
    refine ms_pass ?_
    refine ms_pass ?_
    refine ms_pass ?_
    refine ms_pass ?_
    refine ms_pass ?_
    refine ms_do (by decide) (same1) (fun K' hK' => ?_)
    go_wp2_with fail
    obtain ⟨wz, hwz⟩ : ∃ W : World, W = w6.setRow w.heap.size #[.int .i64 0, .int .i64 0, .int .i64 0, .int .i64 0, .int .i64 0, .int .i64 0, .int .i64 0, .int .i64 0, .int .i64 0] := ⟨_, rfl⟩
    have xz : Ext w wz := by rw [hwz]; exact (h6.row _).1
    have mz : At wz w.heap.size 25 #[.int .i64 0, .int .i64 0, .int .i64 0, .int .i64 0, .int .i64 0, .int .i64 0, .int .i64 0, .int .i64 0, .int .i64 0] := by rw [hwz]; exact (h6.row _).2
    have same2 : ∀ b ∈ [g], wz.heap[b]? = w5.heap[b]? := fun b hb => by rw [← same1 b hb, hwz]; simp at hb; subst hb; exact setRow_other _ _ _ _ (by omega)
    rw [← hwz]
    clear hwz mX nX iX
    refine ms_pass ?_
    refine ms_nil (same2) (hK _ _ ?_)
    have ez := cellsAt_at mz
    have sz := mz.lt
    go_wp2_with fail
    first | refine fin_ret rfl (fun K hK => ?_) | refine fin_norm rfl (fun K hK => ?_)
    simp [results, Try.results8, go_sem, rsat]
    try go_simp
    refine hK _ ?_
    clear hK K
    exact ⟨xz, zeroC, f3, rfl, by rw [HFIN.out]⟩
  · have hfb : (f3 != 0) = false := by rw [hf]; rfl
    have HF := Lib.hid hf
    clear hf
    by_cases hid : 4611686018427387904 < vd
    · have hidi : (4611686018427387904 : Int) < (vd : Int) := by omega
      have HFIN : Hid (finC ⟨2, (vb : Int), (min vd 4611686018427387905 : Nat), 0, 0, 0, 0, 0, 0⟩ s3 f3 = (zeroC, 4)) := Lib.hid (fin4 HF.out (.inr (rightC_id _ (by show (4611686018427387904 : Int) < ((min vd 4611686018427387905 : Nat) : Int); omega))))
      have cX := cellsAt_at h5.c
      have sX := h5.c.lt
      have mX := cellsAt_at h5.m
      have nX := h5.m.lt
      obtain ⟨gX, f1X, f2X, AX, kX, f0X⟩ := h5.r.cells
      have iX := h5.gw
      have jX := h5.cg
      have lX : w.heap.size ≠ gc := by omega
      have uX : gc ≠ g := by omega
      go_wp2_with fail
      clear cX sX mX nX gX f1X f2X f0X iX jX lX uX
      obtain ⟨wz, hwz⟩ : ∃ W : World, W = w5.setRow w.heap.size #[.int .i64 0, .int .i64 0, .int .i64 0, .int .i64 0, .int .i64 0, .int .i64 0, .int .i64 0, .int .i64 0, .int .i64 0] := ⟨_, rfl⟩
      have xz : Ext w wz := by rw [hwz]; exact (h5.row _).1
      have mz : At wz w.heap.size 25 #[.int .i64 0, .int .i64 0, .int .i64 0, .int .i64 0, .int .i64 0, .int .i64 0, .int .i64 0, .int .i64 0, .int .i64 0] := by rw [hwz]; exact (h5.row _).2
      rw [← hwz]
      clear hwz
      have ez := cellsAt_at mz
      have sz := mz.lt
      first | refine fin_ret rfl (fun K hK => ?_) | refine fin_norm rfl (fun K hK => ?_)
      simp [results, Try.results8, go_sem, rsat]
      try go_simp
      refine hK _ ?_
      clear hK K
      exact ⟨xz, zeroC, 4, rfl, by rw [HFIN.out]⟩
    have hidi : decide ((4611686018427387904 : Int) < (vd : Int)) = false := decide_eq_false (by omega)
    by_cases hr : 0 < s3.length
    · have hri : (0 : Int) < (s3.length : Int) := by omega
      have HFIN : Hid (finC ⟨2, (vb : Int), (min vd 4611686018427387905 : Nat), 0, 0, 0, 0, 0, 0⟩ s3 f3 = (zeroC, 4)) := Lib.hid (fin4 HF.out (.inl hr))
      have cX := cellsAt_at h5.c
      have sX := h5.c.lt
      have mX := cellsAt_at h5.m
      have nX := h5.m.lt
      obtain ⟨gX, f1X, f2X, AX, kX, f0X⟩ := h5.r.cells
      have iX := h5.gw
      have jX := h5.cg
      have lX : w.heap.size ≠ gc := by omega
      have uX : gc ≠ g := by omega
      go_wp2_with fail
      clear cX sX mX nX gX f1X f2X f0X iX jX lX uX
      obtain ⟨wz, hwz⟩ : ∃ W : World, W = w5.setRow w.heap.size #[.int .i64 0, .int .i64 0, .int .i64 0, .int .i64 0, .int .i64 0, .int .i64 0, .int .i64 0, .int .i64 0, .int .i64 0] := ⟨_, rfl⟩
      have xz : Ext w wz := by rw [hwz]; exact (h5.row _).1
      have mz : At wz w.heap.size 25 #[.int .i64 0, .int .i64 0, .int .i64 0, .int .i64 0, .int .i64 0, .int .i64 0, .int .i64 0, .int .i64 0, .int .i64 0] := by rw [hwz]; exact (h5.row _).2
      rw [← hwz]
      clear hwz
      have ez := cellsAt_at mz
      have sz := mz.lt
      first | refine fin_ret rfl (fun K hK => ?_) | refine fin_norm rfl (fun K hK => ?_)
      simp [results, Try.results8, go_sem, rsat]
      try go_simp
      refine hK _ ?_
      clear hK K
      exact ⟨xz, zeroC, 4, rfl, by rw [HFIN.out]⟩
    have hri : decide ((0 : Int) < (s3.length : Int)) = false := decide_eq_false (by omega)
    have w_vd : IntKind.i64.wrap (vd : Int) = (vd : Int) := by rw [IntWalk.i64_left, wrap64_in ⟨by omega, by omega⟩]
    have cX := cellsAt_at h5.c
    have sX := h5.c.lt
    have mX := cellsAt_at h5.m
    have nX := h5.m.lt
    obtain ⟨gX, f1X, f2X, AX, kX, f0X⟩ := h5.r.cells
    have iX := h5.gw
    have jX := h5.cg
    have lX : w.heap.size ≠ gc := by omega
    have uX : gc ≠ g := by omega
    go_wp2_with fail
    clear cX sX mX nX gX f1X f2X f0X iX jX lX uX
    obtain ⟨w6, hw6⟩ : ∃ W : World, W = ((w5.setCell ⟨gc, 2, none⟩ (.int .i64 (vd : Int))).setCell ⟨gc, 3, none⟩ (.int .i64 0)) := ⟨_, rfl⟩
    have h6 : DR w w6 g gc s3 f3 #[.int .i64 2, .int .i64 (vb : Int), .int .i64 (vd : Int), .int .i64 0, .int .i64 0, .int .i64 0, .int .i64 0, .int .i64 0, .int .i64 0] := by rw [hw6]; exact ((h5.store 2 _).store 3 _)
    rw [← hw6]
    clear hw6 h5
    obtain ⟨cc, hcc⟩ : ∃ cc : Cm, cc = (⟨2, (vb : Int), (vd : Int), 0, 0, 0, 0, 0, 0⟩ : Cm) := ⟨_, rfl⟩
    have hfin : finC ⟨2, (vb : Int), (min vd 4611686018427387905 : Nat), 0, 0, 0, 0, 0, 0⟩ s3 f3 = finC cc s3 f3 := by rw [hcc, Nat.min_eq_left (show vd ≤ 4611686018427387905 by omega)]
    have HFINL := Lib.hid hfin
    clear hfin
    have CR := rright5_c cc
    have hcv : (#[.int .i64 2, .int .i64 (vb : Int), .int .i64 (vd : Int), .int .i64 0, .int .i64 0, .int .i64 0, .int .i64 0, .int .i64 0, .int .i64 0] : Array Value) = #[.int .i64 cc.kind, .int .i64 cc.sym, .int .i64 cc.id, .int .i64 cc.own, .int .i64 cc.side, .int .i64 cc.typ, .int .i64 cc.price, .int .i64 cc.qty, .int .i64 cc.flags] := by rw [hcc]
    rw [← hcv] at CR
    have HCV := Lib.hid hcv
    clear hcv
    cases hR : rightC cc with
    | false =>
      rw [hR] at CR
      have HCR := Lib.hid CR
      clear CR
      have HFIN : Hid (finC ⟨2, (vb : Int), (min vd 4611686018427387905 : Nat), 0, 0, 0, 0, 0, 0⟩ s3 f3 = (zeroC, 4)) := Lib.hid (HFINL.out.trans (fin4 HF.out (.inr hR)))
      clear hR
      refine (HCR.out _).mono ?_
      rintro e w7 ⟨rfl, x7⟩
      have h7 := h6.extR x7
      clear h6
      have cX := cellsAt_at h7.c
      have sX := h7.c.lt
      have mX := cellsAt_at h7.m
      have nX := h7.m.lt
      obtain ⟨gX, f1X, f2X, AX, kX, f0X⟩ := h7.r.cells
      have iX := h7.gw
      have jX := h7.cg
      have lX : w.heap.size ≠ gc := by omega
      have uX : gc ≠ g := by omega
      go_wp2_with fail
      clear cX sX mX nX gX f1X f2X f0X iX jX lX uX
      obtain ⟨wz, hwz⟩ : ∃ W : World, W = w7.setRow w.heap.size #[.int .i64 0, .int .i64 0, .int .i64 0, .int .i64 0, .int .i64 0, .int .i64 0, .int .i64 0, .int .i64 0, .int .i64 0] := ⟨_, rfl⟩
      have xz : Ext w wz := by rw [hwz]; exact (h7.row _).1
      have mz : At wz w.heap.size 25 #[.int .i64 0, .int .i64 0, .int .i64 0, .int .i64 0, .int .i64 0, .int .i64 0, .int .i64 0, .int .i64 0, .int .i64 0] := by rw [hwz]; exact (h7.row _).2
      rw [← hwz]
      clear hwz
      have ez := cellsAt_at mz
      have sz := mz.lt
      first | refine fin_ret rfl (fun K hK => ?_) | refine fin_norm rfl (fun K hK => ?_)
      simp [results, Try.results8, go_sem, rsat]
      try go_simp
      refine hK _ ?_
      clear hK K
      exact ⟨xz, zeroC, 4, rfl, by rw [HFIN.out]⟩
    | true =>
      rw [hR] at CR
      have HCR := Lib.hid CR
      clear CR
      have HFIN : Hid (finC ⟨2, (vb : Int), (min vd 4611686018427387905 : Nat), 0, 0, 0, 0, 0, 0⟩ s3 f3 = (cc, 0)) := Lib.hid (HFINL.out.trans (finOk HF.out hr hR))
      clear hR
      refine (HCR.out _).mono ?_
      rintro e w7 ⟨rfl, x7⟩
      have h7 := h6.extR x7
      clear h6
      have cX := cellsAt_at h7.c
      have sX := h7.c.lt
      have mX := cellsAt_at h7.m
      have nX := h7.m.lt
      obtain ⟨gX, f1X, f2X, AX, kX, f0X⟩ := h7.r.cells
      have iX := h7.gw
      have jX := h7.cg
      have lX : w.heap.size ≠ gc := by omega
      have uX : gc ≠ g := by omega
      go_wp2_with fail
      clear cX sX mX nX gX f1X f2X f0X iX jX lX uX
      obtain ⟨wz, hwz⟩ : ∃ W : World, W = w7.setRow w.heap.size #[.int .i64 2, .int .i64 (vb : Int), .int .i64 (vd : Int), .int .i64 0, .int .i64 0, .int .i64 0, .int .i64 0, .int .i64 0, .int .i64 0] := ⟨_, rfl⟩
      have xz : Ext w wz := by rw [hwz]; exact (h7.row _).1
      have mz : At wz w.heap.size 25 #[.int .i64 2, .int .i64 (vb : Int), .int .i64 (vd : Int), .int .i64 0, .int .i64 0, .int .i64 0, .int .i64 0, .int .i64 0, .int .i64 0] := by rw [hwz]; exact (h7.row _).2
      rw [← hwz]
      clear hwz
      have ez := cellsAt_at mz
      have sz := mz.lt
      first | refine fin_ret rfl (fun K hK => ?_) | refine fin_norm rfl (fun K hK => ?_)
      simp [results, Try.results8, go_sem, rsat]
      try go_simp
      refine hK _ ?_
      clear hK K
      exact ⟨xz, cc, 0, by rw [← HCV.out], by rw [HFIN.out]⟩
set_option maxHeartbeats 8000000 in
set_option maxRecDepth 100000 in
theorem rdec3_c (B : Option Addr) (cb : Nat) (bs : List Int) (hb : Byt bs) (hl : bs.length ≤ 1000000000) (hlc : bs.length ≤ cb) (hcm : cb ≤ 9223372036854775807) (w : World) (hS : Src w 1 B bs.length (bc bs)) (s1 s2 s3 : List Int) (f2 f3 : Int) (vb vd : Nat) (hbs : bs = 3 :: s1) (e2 : uintR s1 0 1 = (vb, s2, f2)) (e3 : numQ s2 f2 = (vd, s3, f3)) (s4 s5 : List Int) (f4 f5 : Int) (vp vq : Int) (e4 : (backN (uintR s3 f3 8).1, (uintR s3 f3 8).2) = (vp, s4, f4)) (e5 : (backN (uintR s4 f4 8).1, (uintR s4 f4 8).2) = (vq, s5, f5)) :
    Calls Try.prog 8 #[.slice B bs.length cb] w fun e w' => Ext w w' ∧ ∃ (c : Cm) (f : Int), e = .returned (.tuple #[.agg #[.int .i64 c.kind, .int .i64 c.sym, .int .i64 c.id, .int .i64 c.own, .int .i64 c.side, .int .i64 c.typ, .int .i64 c.price, .int .i64 c.qty, .int .i64 c.flags], .int .i64 f]) ∧ (c, f) = finC ⟨3, (vb : Int), (min vd 4611686018427387905 : Nat), 0, 0, 0, vp, vq, 0⟩ s5 f5 := by
  have e1 : uintR bs 0 1 = (3, s1, 0) := by rw [hbs]; exact uintR_cons _ _
  obtain ⟨bb, off, rfl, hbw, hc⟩ := hS.lt (by rw [hbs]; simp) (by decide)
  have c0 : w.cell? ⟨bb, off, none⟩ = some (.int .u8 3) := by have := hc 0 (by rw [hbs]; simp); rw [hbs] at this; exact this
  have hpos : 0 < bs.length := by rw [hbs]; simp
  have hposi : ¬ ((bs.length : Int) = 0) := by omega
  have HS : Hid (∀ W, Ext w W → Src W 1 (some ⟨bb, off, none⟩) bs.length (bc bs)) := Lib.hid (fun W hx => hS.ext hx)
  have HB := Lib.hid hb
  clear hc hS hb hbs
  go_enter Try.func8, Try.ntmps8
  go_wp2_with fail
  obtain ⟨w1, hw1⟩ : ∃ W : World, W = (w.alloc (.cells #[.int .i64 0, .int .i64 0, .int .i64 0, .int .i64 0, .int .i64 0, .int .i64 0, .int .i64 0, .int .i64 0, .int .i64 0] 25)).alloc (.cells #[.slice (some ⟨bb, off, none⟩) bs.length cb, .int .i64 0] 47) := ⟨_, rfl⟩
  have r1 : RR w w1 (w.heap.size + 1) bs 0 := by rw [hw1]; exact ⟨((Ext.refl w).alloc _).alloc _, by omega, HB.out, hl, _, _, (by repeat (first | (with_reducible exact At.new _ _ _) | ((with_reducible refine At.new' _ _ _ _ ?_); simp; done) | (with_reducible assumption) | (with_reducible refine At.drew ?_) | (with_reducible refine At.alloc ?_ _) | (with_reducible apply At.upd) | (with_reducible apply At.setRow) | (with_reducible refine At.rowFar ?_ (by first | (simp; done) | (simp; omega) | omega) _) | ((with_reducible refine At.far ?_ (by first | (simp; done) | (simp; omega) | omega) _)) | (with_reducible rfl) | (simp; done))), hlc, hcm, HS.out⟩
  have m1 : At w1 w.heap.size 25 #[.int .i64 0, .int .i64 0, .int .i64 0, .int .i64 0, .int .i64 0, .int .i64 0, .int .i64 0, .int .i64 0, .int .i64 0] := by rw [hw1]; exact (by repeat (first | (with_reducible exact At.new _ _ _) | ((with_reducible refine At.new' _ _ _ _ ?_); simp; done) | (with_reducible assumption) | (with_reducible refine At.drew ?_) | (with_reducible refine At.alloc ?_ _) | (with_reducible apply At.upd) | (with_reducible apply At.setRow) | (with_reducible refine At.rowFar ?_ (by first | (simp; done) | (simp; omega) | omega) _) | ((with_reducible refine At.far ?_ (by first | (simp; done) | (simp; omega) | omega) _)) | (with_reducible rfl) | (simp; done)))
  rw [← hw1]
  clear hw1
  have hgw : w.heap.size < w.heap.size + 1 := by omega
  generalize w.heap.size + 1 = g at *
  have C2 := rone_c w _ g _ _ r1
  rw [e1] at C2
  simp only at C2
  refine C2.mono ?_
  rintro e w2 ⟨rfl, r2, q2⟩
  clear C2
  have m2 := q2.at m1 (by simp; omega)
  clear r1 q2 m1
  go_wp2_with fail
  have C3 := rone_c w _ g _ _ r2
  rw [e2] at C3
  simp only at C3
  refine C3.mono ?_
  rintro e w3 ⟨rfl, r3, q3⟩
  clear C3
  have m3 := q3.at m2 (by simp; omega)
  clear r2 q3 m2
  go_wp2_with fail
  obtain ⟨w4, hw4⟩ : ∃ W : World, W = w3.alloc (.cells #[.int .i64 3, .int .i64 (vb : Int), .int .i64 0, .int .i64 0, .int .i64 0, .int .i64 0, .int .i64 0, .int .i64 0, .int .i64 0] 25) := ⟨_, rfl⟩
  have h4 : DR w w4 g w3.heap.size s2 f2 #[.int .i64 3, .int .i64 (vb : Int), .int .i64 0, .int .i64 0, .int .i64 0, .int .i64 0, .int .i64 0, .int .i64 0, .int .i64 0] := by rw [hw4]; exact ⟨m3.alloc _, At.new _ _ _, r3.extR ((Ext.refl _).alloc _), hgw, r3.cells.1⟩
  rw [← hw4]
  clear hw4 m3 r3
  generalize w3.heap.size = gc at *
  have C5 := rnumQ_c w _ g _ _ h4.r
  rw [e3] at C5
  simp only at C5
  refine C5.mono ?_
  rintro e w5 ⟨rfl, r5, q5⟩
  have h5 := h4.read r5 q5
  clear C5 r5 q5 h4
  have cX := cellsAt_at h5.c
  have sX := h5.c.lt
  have mX := cellsAt_at h5.m
  have nX := h5.m.lt
  obtain ⟨gX, f1X, f2X, AX, kX, f0X⟩ := h5.r.cells
  have iX := h5.gw
  have jX := h5.cg
  have lX : w.heap.size ≠ gc := by omega
  have uX : gc ≠ g := by omega
  go_wp2_with fail
  clear cX sX mX nX gX f1X f2X f0X iX jX lX uX
  have C6 := rsg_c w _ g _ _ h5.r
  have E6 := Prod.ext_iff.1 e4
  simp only at E6
  rw [E6.1, E6.2] at C6
  simp only at C6
  refine C6.mono ?_
  rintro e w6 ⟨rfl, r6, q6⟩
  have h6 := h5.read r6 q6
  clear C6 r6 q6 h5
  have cX := cellsAt_at h6.c
  have sX := h6.c.lt
  have mX := cellsAt_at h6.m
  have nX := h6.m.lt
  obtain ⟨gX, f1X, f2X, AX, kX, f0X⟩ := h6.r.cells
  have iX := h6.gw
  have jX := h6.cg
  have lX : w.heap.size ≠ gc := by omega
  have uX : gc ≠ g := by omega
  go_wp2_with fail
  clear cX sX mX nX gX f1X f2X f0X iX jX lX uX
  obtain ⟨w7, hw7⟩ : ∃ W : World, W = (w6.setCell ⟨gc, 6, none⟩ (.int .i64 vp)) := ⟨_, rfl⟩
  have h7 : DR w w7 g gc s4 f4 #[.int .i64 3, .int .i64 (vb : Int), .int .i64 0, .int .i64 0, .int .i64 0, .int .i64 0, .int .i64 vp, .int .i64 0, .int .i64 0] := by rw [hw7]; exact (h6.store 6 _)
  rw [← hw7]
  clear hw7 h6
  have C8 := rsg_c w _ g _ _ h7.r
  have E8 := Prod.ext_iff.1 e5
  simp only at E8
  rw [E8.1, E8.2] at C8
  simp only at C8
  refine C8.mono ?_
  rintro e w8 ⟨rfl, r8, q8⟩
  have h8 := h7.read r8 q8
  clear C8 r8 q8 h7
  by_cases hf : f5 = 0
  rotate_left
  · have hfb : (f5 != 0) = true := bne_iff_ne.2 hf
    have HFIN : Hid (finC ⟨3, (vb : Int), (min vd 4611686018427387905 : Nat), 0, 0, 0, vp, vq, 0⟩ s5 f5 = (zeroC, f5)) := Lib.hid (finBad hf)
    clear hf
    have cX := cellsAt_at h8.c
    have sX := h8.c.lt
    have mX := cellsAt_at h8.m
    have nX := h8.m.lt
    obtain ⟨gX, f1X, f2X, AX, kX, f0X⟩ := h8.r.cells
    have iX := h8.gw
    have jX := h8.cg
    have lX : w.heap.size ≠ gc := by omega
    have uX : gc ≠ g := by omega
    go_wp2_with fail
    clear cX sX mX nX gX f1X f2X f0X iX jX lX uX
    obtain ⟨w9, hw9⟩ : ∃ W : World, W = (w8.setCell ⟨gc, 7, none⟩ (.int .i64 vq)) := ⟨_, rfl⟩
    have h9 : DR w w9 g gc s5 f5 #[.int .i64 3, .int .i64 (vb : Int), .int .i64 0, .int .i64 0, .int .i64 0, .int .i64 0, .int .i64 vp, .int .i64 vq, .int .i64 0] := by rw [hw9]; exact (h8.store 7 _)
    rw [← hw9]
    clear hw9 h8
    have gX := h9.r.cells.1
    obtain ⟨_, f1X, f2X, AX, kX, f0X⟩ := h9.r.cells
    refine wp_region_s [0, 0, 0, 0, 0, 1, 0] (fun x => ∀ b ∈ [g], x.heap[b]? = w9.heap[b]?) (by kernel_rfl) (by kernel_rfl) ?_
    refine hls_same (fun K hK => ?_)
    go_simp
    refine hK _ ?_
    clear hK K
    refine hls_same (fun K hK => ?_)
    go_simp
    refine hK _ ?_
    clear hK K
    refine hls_same (fun K hK => ?_)
    go_simp
    refine hK _ ?_
    clear hK K
    refine hls_same (fun K hK => ?_)
    go_simp
    refine hK _ ?_
    clear hK K
    refine hls_same (fun K hK => ?_)
    go_simp
    refine hK _ ?_
    clear hK K
    refine hls_skip (by decide) ?_
    refine hls_same (fun K hK => ?_)
    go_simp
    refine hK _ ?_
    clear hK K
    refine hls_nil ?_
    intro w10 hxw10 K hK
    have h10 := h9.extR hxw10
    have same1 : ∀ b ∈ [g], w10.heap[b]? = w9.heap[b]? := fun b hb => by simp at hb; subst hb; exact hxw10.block _ gX
    clear f1X f2X f0X
    have mX := cellsAt_at h10.m
    have nX := h10.m.lt
    have iX := h10.gw
    refine ms_pass ?_
    refine ms_pass ?_
    refine ms_pass ?_
    refine ms_pass ?_
    refine ms_pass ?_
    refine ms_do (by decide) (same1) (fun K' hK' => ?_)
    go_wp2_with fail
    obtain ⟨wz, hwz⟩ : ∃ W : World, W = w10.setRow w.heap.size #[.int .i64 0, .int .i64 0, .int .i64 0, .int .i64 0, .int .i64 0, .int .i64 0, .int .i64 0, .int .i64 0, .int .i64 0] := ⟨_, rfl⟩
    have xz : Ext w wz := by rw [hwz]; exact (h10.row _).1
    have mz : At wz w.heap.size 25 #[.int .i64 0, .int .i64 0, .int .i64 0, .int .i64 0, .int .i64 0, .int .i64 0, .int .i64 0, .int .i64 0, .int .i64 0] := by rw [hwz]; exact (h10.row _).2
    have same2 : ∀ b ∈ [g], wz.heap[b]? = w9.heap[b]? := fun b hb => by rw [← same1 b hb, hwz]; simp at hb; subst hb; exact setRow_other _ _ _ _ (by omega)
    rw [← hwz]
    clear hwz mX nX iX
    refine ms_pass ?_
    refine ms_nil (same2) (hK _ _ ?_)
    have ez := cellsAt_at mz
    have sz := mz.lt
    go_wp2_with fail
    first | refine fin_ret rfl (fun K hK => ?_) | refine fin_norm rfl (fun K hK => ?_)
    simp [results, Try.results8, go_sem, rsat]
    try go_simp
    refine hK _ ?_
    clear hK K
    exact ⟨xz, zeroC, f5, rfl, by rw [HFIN.out]⟩
  · have hfb : (f5 != 0) = false := by rw [hf]; rfl
    have HF := Lib.hid hf
    clear hf
    by_cases hid : 4611686018427387904 < vd
    · have hidi : (4611686018427387904 : Int) < (vd : Int) := by omega
      have HFIN : Hid (finC ⟨3, (vb : Int), (min vd 4611686018427387905 : Nat), 0, 0, 0, vp, vq, 0⟩ s5 f5 = (zeroC, 4)) := Lib.hid (fin4 HF.out (.inr (rightC_id _ (by show (4611686018427387904 : Int) < ((min vd 4611686018427387905 : Nat) : Int); omega))))
      have cX := cellsAt_at h8.c
      have sX := h8.c.lt
      have mX := cellsAt_at h8.m
      have nX := h8.m.lt
      obtain ⟨gX, f1X, f2X, AX, kX, f0X⟩ := h8.r.cells
      have iX := h8.gw
      have jX := h8.cg
      have lX : w.heap.size ≠ gc := by omega
      have uX : gc ≠ g := by omega
      go_wp2_with fail
      clear cX sX mX nX gX f1X f2X f0X iX jX lX uX
      obtain ⟨wy, hwy⟩ : ∃ W : World, W = (w8.setCell ⟨gc, 7, none⟩ (.int .i64 vq)) := ⟨_, rfl⟩
      have hy : DR w wy g gc s5 f5 #[.int .i64 3, .int .i64 (vb : Int), .int .i64 0, .int .i64 0, .int .i64 0, .int .i64 0, .int .i64 vp, .int .i64 vq, .int .i64 0] := by rw [hwy]; exact h8.store 7 _
      rw [← hwy]
      clear hwy h8
      obtain ⟨wz, hwz⟩ : ∃ W : World, W = wy.setRow w.heap.size #[.int .i64 0, .int .i64 0, .int .i64 0, .int .i64 0, .int .i64 0, .int .i64 0, .int .i64 0, .int .i64 0, .int .i64 0] := ⟨_, rfl⟩
      have xz : Ext w wz := by rw [hwz]; exact (hy.row _).1
      have mz : At wz w.heap.size 25 #[.int .i64 0, .int .i64 0, .int .i64 0, .int .i64 0, .int .i64 0, .int .i64 0, .int .i64 0, .int .i64 0, .int .i64 0] := by rw [hwz]; exact (hy.row _).2
      rw [← hwz]
      clear hwz
      have ez := cellsAt_at mz
      have sz := mz.lt
      first | refine fin_ret rfl (fun K hK => ?_) | refine fin_norm rfl (fun K hK => ?_)
      simp [results, Try.results8, go_sem, rsat]
      try go_simp
      refine hK _ ?_
      clear hK K
      exact ⟨xz, zeroC, 4, rfl, by rw [HFIN.out]⟩
    have hidi : decide ((4611686018427387904 : Int) < (vd : Int)) = false := decide_eq_false (by omega)
    by_cases hr : 0 < s5.length
    · have hri : (0 : Int) < (s5.length : Int) := by omega
      have HFIN : Hid (finC ⟨3, (vb : Int), (min vd 4611686018427387905 : Nat), 0, 0, 0, vp, vq, 0⟩ s5 f5 = (zeroC, 4)) := Lib.hid (fin4 HF.out (.inl hr))
      have cX := cellsAt_at h8.c
      have sX := h8.c.lt
      have mX := cellsAt_at h8.m
      have nX := h8.m.lt
      obtain ⟨gX, f1X, f2X, AX, kX, f0X⟩ := h8.r.cells
      have iX := h8.gw
      have jX := h8.cg
      have lX : w.heap.size ≠ gc := by omega
      have uX : gc ≠ g := by omega
      go_wp2_with fail
      clear cX sX mX nX gX f1X f2X f0X iX jX lX uX
      obtain ⟨wy, hwy⟩ : ∃ W : World, W = (w8.setCell ⟨gc, 7, none⟩ (.int .i64 vq)) := ⟨_, rfl⟩
      have hy : DR w wy g gc s5 f5 #[.int .i64 3, .int .i64 (vb : Int), .int .i64 0, .int .i64 0, .int .i64 0, .int .i64 0, .int .i64 vp, .int .i64 vq, .int .i64 0] := by rw [hwy]; exact h8.store 7 _
      rw [← hwy]
      clear hwy h8
      obtain ⟨wz, hwz⟩ : ∃ W : World, W = wy.setRow w.heap.size #[.int .i64 0, .int .i64 0, .int .i64 0, .int .i64 0, .int .i64 0, .int .i64 0, .int .i64 0, .int .i64 0, .int .i64 0] := ⟨_, rfl⟩
      have xz : Ext w wz := by rw [hwz]; exact (hy.row _).1
      have mz : At wz w.heap.size 25 #[.int .i64 0, .int .i64 0, .int .i64 0, .int .i64 0, .int .i64 0, .int .i64 0, .int .i64 0, .int .i64 0, .int .i64 0] := by rw [hwz]; exact (hy.row _).2
      rw [← hwz]
      clear hwz
      have ez := cellsAt_at mz
      have sz := mz.lt
      first | refine fin_ret rfl (fun K hK => ?_) | refine fin_norm rfl (fun K hK => ?_)
      simp [results, Try.results8, go_sem, rsat]
      try go_simp
      refine hK _ ?_
      clear hK K
      exact ⟨xz, zeroC, 4, rfl, by rw [HFIN.out]⟩
    have hri : decide ((0 : Int) < (s5.length : Int)) = false := decide_eq_false (by omega)
    have w_vd : IntKind.i64.wrap (vd : Int) = (vd : Int) := by rw [IntWalk.i64_left, wrap64_in ⟨by omega, by omega⟩]
    have cX := cellsAt_at h8.c
    have sX := h8.c.lt
    have mX := cellsAt_at h8.m
    have nX := h8.m.lt
    obtain ⟨gX, f1X, f2X, AX, kX, f0X⟩ := h8.r.cells
    have iX := h8.gw
    have jX := h8.cg
    have lX : w.heap.size ≠ gc := by omega
    have uX : gc ≠ g := by omega
    go_wp2_with fail
    clear cX sX mX nX gX f1X f2X f0X iX jX lX uX
    obtain ⟨w9, hw9⟩ : ∃ W : World, W = (((w8.setCell ⟨gc, 7, none⟩ (.int .i64 vq)).setCell ⟨gc, 2, none⟩ (.int .i64 (vd : Int))).setCell ⟨gc, 3, none⟩ (.int .i64 0)) := ⟨_, rfl⟩
    have h9 : DR w w9 g gc s5 f5 #[.int .i64 3, .int .i64 (vb : Int), .int .i64 (vd : Int), .int .i64 0, .int .i64 0, .int .i64 0, .int .i64 vp, .int .i64 vq, .int .i64 0] := by rw [hw9]; exact (((h8.store 7 _).store 2 _).store 3 _)
    rw [← hw9]
    clear hw9 h8
    obtain ⟨cc, hcc⟩ : ∃ cc : Cm, cc = (⟨3, (vb : Int), (vd : Int), 0, 0, 0, vp, vq, 0⟩ : Cm) := ⟨_, rfl⟩
    have hfin : finC ⟨3, (vb : Int), (min vd 4611686018427387905 : Nat), 0, 0, 0, vp, vq, 0⟩ s5 f5 = finC cc s5 f5 := by rw [hcc, Nat.min_eq_left (show vd ≤ 4611686018427387905 by omega)]
    have HFINL := Lib.hid hfin
    clear hfin
    have CR := rright5_c cc
    have hcv : (#[.int .i64 3, .int .i64 (vb : Int), .int .i64 (vd : Int), .int .i64 0, .int .i64 0, .int .i64 0, .int .i64 vp, .int .i64 vq, .int .i64 0] : Array Value) = #[.int .i64 cc.kind, .int .i64 cc.sym, .int .i64 cc.id, .int .i64 cc.own, .int .i64 cc.side, .int .i64 cc.typ, .int .i64 cc.price, .int .i64 cc.qty, .int .i64 cc.flags] := by rw [hcc]
    rw [← hcv] at CR
    have HCV := Lib.hid hcv
    clear hcv
    cases hR : rightC cc with
    | false =>
      rw [hR] at CR
      have HCR := Lib.hid CR
      clear CR
      have HFIN : Hid (finC ⟨3, (vb : Int), (min vd 4611686018427387905 : Nat), 0, 0, 0, vp, vq, 0⟩ s5 f5 = (zeroC, 4)) := Lib.hid (HFINL.out.trans (fin4 HF.out (.inr hR)))
      clear hR
      refine (HCR.out _).mono ?_
      rintro e w10 ⟨rfl, x10⟩
      have h10 := h9.extR x10
      clear h9
      have cX := cellsAt_at h10.c
      have sX := h10.c.lt
      have mX := cellsAt_at h10.m
      have nX := h10.m.lt
      obtain ⟨gX, f1X, f2X, AX, kX, f0X⟩ := h10.r.cells
      have iX := h10.gw
      have jX := h10.cg
      have lX : w.heap.size ≠ gc := by omega
      have uX : gc ≠ g := by omega
      go_wp2_with fail
      clear cX sX mX nX gX f1X f2X f0X iX jX lX uX
      obtain ⟨wz, hwz⟩ : ∃ W : World, W = w10.setRow w.heap.size #[.int .i64 0, .int .i64 0, .int .i64 0, .int .i64 0, .int .i64 0, .int .i64 0, .int .i64 0, .int .i64 0, .int .i64 0] := ⟨_, rfl⟩
      have xz : Ext w wz := by rw [hwz]; exact (h10.row _).1
      have mz : At wz w.heap.size 25 #[.int .i64 0, .int .i64 0, .int .i64 0, .int .i64 0, .int .i64 0, .int .i64 0, .int .i64 0, .int .i64 0, .int .i64 0] := by rw [hwz]; exact (h10.row _).2
      rw [← hwz]
      clear hwz
      have ez := cellsAt_at mz
      have sz := mz.lt
      first | refine fin_ret rfl (fun K hK => ?_) | refine fin_norm rfl (fun K hK => ?_)
      simp [results, Try.results8, go_sem, rsat]
      try go_simp
      refine hK _ ?_
      clear hK K
      exact ⟨xz, zeroC, 4, rfl, by rw [HFIN.out]⟩
    | true =>
      rw [hR] at CR
      have HCR := Lib.hid CR
      clear CR
      have HFIN : Hid (finC ⟨3, (vb : Int), (min vd 4611686018427387905 : Nat), 0, 0, 0, vp, vq, 0⟩ s5 f5 = (cc, 0)) := Lib.hid (HFINL.out.trans (finOk HF.out hr hR))
      clear hR
      refine (HCR.out _).mono ?_
      rintro e w10 ⟨rfl, x10⟩
      have h10 := h9.extR x10
      clear h9
      have cX := cellsAt_at h10.c
      have sX := h10.c.lt
      have mX := cellsAt_at h10.m
      have nX := h10.m.lt
      obtain ⟨gX, f1X, f2X, AX, kX, f0X⟩ := h10.r.cells
      have iX := h10.gw
      have jX := h10.cg
      have lX : w.heap.size ≠ gc := by omega
      have uX : gc ≠ g := by omega
      go_wp2_with fail
      clear cX sX mX nX gX f1X f2X f0X iX jX lX uX
      obtain ⟨wz, hwz⟩ : ∃ W : World, W = w10.setRow w.heap.size #[.int .i64 3, .int .i64 (vb : Int), .int .i64 (vd : Int), .int .i64 0, .int .i64 0, .int .i64 0, .int .i64 vp, .int .i64 vq, .int .i64 0] := ⟨_, rfl⟩
      have xz : Ext w wz := by rw [hwz]; exact (h10.row _).1
      have mz : At wz w.heap.size 25 #[.int .i64 3, .int .i64 (vb : Int), .int .i64 (vd : Int), .int .i64 0, .int .i64 0, .int .i64 0, .int .i64 vp, .int .i64 vq, .int .i64 0] := by rw [hwz]; exact (h10.row _).2
      rw [← hwz]
      clear hwz
      have ez := cellsAt_at mz
      have sz := mz.lt
      first | refine fin_ret rfl (fun K hK => ?_) | refine fin_norm rfl (fun K hK => ?_)
      simp [results, Try.results8, go_sem, rsat]
      try go_simp
      refine hK _ ?_
      clear hK K
      exact ⟨xz, cc, 0, by rw [← HCV.out], by rw [HFIN.out]⟩
set_option maxHeartbeats 8000000 in
set_option maxRecDepth 100000 in
theorem rdec1_c (B : Option Addr) (cb : Nat) (bs : List Int) (hb : Byt bs) (hl : bs.length ≤ 1000000000) (hlc : bs.length ≤ cb) (hcm : cb ≤ 9223372036854775807) (w : World) (hS : Src w 1 B bs.length (bc bs)) (s1 s2 s3 : List Int) (f2 f3 : Int) (vb vd : Nat) (hbs : bs = 1 :: s1) (e2 : uintR s1 0 1 = (vb, s2, f2)) (e3 : numQ s2 f2 = (vd, s3, f3)) (s4 s5 s6 s7 : List Int) (f4 f5 f6 f7 : Int) (vo vs vt vg : Nat) (e4 : numQ s3 f3 = (vo, s4, f4)) (e5 : uintR s4 f4 1 = (vs, s5, f5)) (e6 : uintR s5 f5 1 = (vt, s6, f6)) (e7 : uintR s6 f6 1 = (vg, s7, f7)) (s8 s9 : List Int) (f8 f9 : Int) (vp vq : Int) (e8 : (backN (uintR s7 f7 8).1, (uintR s7 f7 8).2) = (vp, s8, f8)) (e9 : (backN (uintR s8 f8 8).1, (uintR s8 f8 8).2) = (vq, s9, f9)) :
    Calls Try.prog 8 #[.slice B bs.length cb] w fun e w' => Ext w w' ∧ ∃ (c : Cm) (f : Int), e = .returned (.tuple #[.agg #[.int .i64 c.kind, .int .i64 c.sym, .int .i64 c.id, .int .i64 c.own, .int .i64 c.side, .int .i64 c.typ, .int .i64 c.price, .int .i64 c.qty, .int .i64 c.flags], .int .i64 f]) ∧ (c, f) = finC ⟨1, (vb : Int), (min vd 4611686018427387905 : Nat), (min vo 1073741825 : Nat), (vs : Int), (vt : Int), vp, vq, (vg : Int)⟩ s9 f9 := by
  have e1 : uintR bs 0 1 = (1, s1, 0) := by rw [hbs]; exact uintR_cons _ _
  obtain ⟨bb, off, rfl, hbw, hc⟩ := hS.lt (by rw [hbs]; simp) (by decide)
  have c0 : w.cell? ⟨bb, off, none⟩ = some (.int .u8 1) := by have := hc 0 (by rw [hbs]; simp); rw [hbs] at this; exact this
  have hpos : 0 < bs.length := by rw [hbs]; simp
  have hposi : ¬ ((bs.length : Int) = 0) := by omega
  have HS : Hid (∀ W, Ext w W → Src W 1 (some ⟨bb, off, none⟩) bs.length (bc bs)) := Lib.hid (fun W hx => hS.ext hx)
  have HB := Lib.hid hb
  clear hc hS hb hbs
  go_enter Try.func8, Try.ntmps8
  go_wp2_with fail
  obtain ⟨w1, hw1⟩ : ∃ W : World, W = (w.alloc (.cells #[.int .i64 0, .int .i64 0, .int .i64 0, .int .i64 0, .int .i64 0, .int .i64 0, .int .i64 0, .int .i64 0, .int .i64 0] 25)).alloc (.cells #[.slice (some ⟨bb, off, none⟩) bs.length cb, .int .i64 0] 47) := ⟨_, rfl⟩
  have r1 : RR w w1 (w.heap.size + 1) bs 0 := by rw [hw1]; exact ⟨((Ext.refl w).alloc _).alloc _, by omega, HB.out, hl, _, _, (by repeat (first | (with_reducible exact At.new _ _ _) | ((with_reducible refine At.new' _ _ _ _ ?_); simp; done) | (with_reducible assumption) | (with_reducible refine At.drew ?_) | (with_reducible refine At.alloc ?_ _) | (with_reducible apply At.upd) | (with_reducible apply At.setRow) | (with_reducible refine At.rowFar ?_ (by first | (simp; done) | (simp; omega) | omega) _) | ((with_reducible refine At.far ?_ (by first | (simp; done) | (simp; omega) | omega) _)) | (with_reducible rfl) | (simp; done))), hlc, hcm, HS.out⟩
  have m1 : At w1 w.heap.size 25 #[.int .i64 0, .int .i64 0, .int .i64 0, .int .i64 0, .int .i64 0, .int .i64 0, .int .i64 0, .int .i64 0, .int .i64 0] := by rw [hw1]; exact (by repeat (first | (with_reducible exact At.new _ _ _) | ((with_reducible refine At.new' _ _ _ _ ?_); simp; done) | (with_reducible assumption) | (with_reducible refine At.drew ?_) | (with_reducible refine At.alloc ?_ _) | (with_reducible apply At.upd) | (with_reducible apply At.setRow) | (with_reducible refine At.rowFar ?_ (by first | (simp; done) | (simp; omega) | omega) _) | ((with_reducible refine At.far ?_ (by first | (simp; done) | (simp; omega) | omega) _)) | (with_reducible rfl) | (simp; done)))
  rw [← hw1]
  clear hw1
  have hgw : w.heap.size < w.heap.size + 1 := by omega
  generalize w.heap.size + 1 = g at *
  have C2 := rone_c w _ g _ _ r1
  rw [e1] at C2
  simp only at C2
  refine C2.mono ?_
  rintro e w2 ⟨rfl, r2, q2⟩
  clear C2
  have m2 := q2.at m1 (by simp; omega)
  clear r1 q2 m1
  go_wp2_with fail
  have C3 := rone_c w _ g _ _ r2
  rw [e2] at C3
  simp only at C3
  refine C3.mono ?_
  rintro e w3 ⟨rfl, r3, q3⟩
  clear C3
  have m3 := q3.at m2 (by simp; omega)
  clear r2 q3 m2
  go_wp2_with fail
  obtain ⟨w4, hw4⟩ : ∃ W : World, W = w3.alloc (.cells #[.int .i64 1, .int .i64 (vb : Int), .int .i64 0, .int .i64 0, .int .i64 0, .int .i64 0, .int .i64 0, .int .i64 0, .int .i64 0] 25) := ⟨_, rfl⟩
  have h4 : DR w w4 g w3.heap.size s2 f2 #[.int .i64 1, .int .i64 (vb : Int), .int .i64 0, .int .i64 0, .int .i64 0, .int .i64 0, .int .i64 0, .int .i64 0, .int .i64 0] := by rw [hw4]; exact ⟨m3.alloc _, At.new _ _ _, r3.extR ((Ext.refl _).alloc _), hgw, r3.cells.1⟩
  rw [← hw4]
  clear hw4 m3 r3
  generalize w3.heap.size = gc at *
  have C5 := rnumQ_c w _ g _ _ h4.r
  rw [e3] at C5
  simp only at C5
  refine C5.mono ?_
  rintro e w5 ⟨rfl, r5, q5⟩
  have h5 := h4.read r5 q5
  clear C5 r5 q5 h4
  have cX := cellsAt_at h5.c
  have sX := h5.c.lt
  have mX := cellsAt_at h5.m
  have nX := h5.m.lt
  obtain ⟨gX, f1X, f2X, AX, kX, f0X⟩ := h5.r.cells
  have iX := h5.gw
  have jX := h5.cg
  have lX : w.heap.size ≠ gc := by omega
  have uX : gc ≠ g := by omega
  go_wp2_with fail
  clear cX sX mX nX gX f1X f2X f0X iX jX lX uX
  have C6 := rnumQ_c w _ g _ _ h5.r
  rw [e4] at C6
  simp only at C6
  refine C6.mono ?_
  rintro e w6 ⟨rfl, r6, q6⟩
  have h6 := h5.read r6 q6
  clear C6 r6 q6 h5
  have cX := cellsAt_at h6.c
  have sX := h6.c.lt
  have mX := cellsAt_at h6.m
  have nX := h6.m.lt
  obtain ⟨gX, f1X, f2X, AX, kX, f0X⟩ := h6.r.cells
  have iX := h6.gw
  have jX := h6.cg
  have lX : w.heap.size ≠ gc := by omega
  have uX : gc ≠ g := by omega
  go_wp2_with fail
  clear cX sX mX nX gX f1X f2X f0X iX jX lX uX
  have C7 := rone_c w _ g _ _ h6.r
  rw [e5] at C7
  simp only at C7
  refine C7.mono ?_
  rintro e w7 ⟨rfl, r7, q7⟩
  have h7 := h6.read r7 q7
  clear C7 r7 q7 h6
  have cX := cellsAt_at h7.c
  have sX := h7.c.lt
  have mX := cellsAt_at h7.m
  have nX := h7.m.lt
  obtain ⟨gX, f1X, f2X, AX, kX, f0X⟩ := h7.r.cells
  have iX := h7.gw
  have jX := h7.cg
  have lX : w.heap.size ≠ gc := by omega
  have uX : gc ≠ g := by omega
  go_wp2_with fail
  clear cX sX mX nX gX f1X f2X f0X iX jX lX uX
  obtain ⟨w8, hw8⟩ : ∃ W : World, W = (w7.setCell ⟨gc, 4, none⟩ (.int .i64 (vs : Int))) := ⟨_, rfl⟩
  have h8 : DR w w8 g gc s5 f5 #[.int .i64 1, .int .i64 (vb : Int), .int .i64 0, .int .i64 0, .int .i64 (vs : Int), .int .i64 0, .int .i64 0, .int .i64 0, .int .i64 0] := by rw [hw8]; exact (h7.store 4 _)
  rw [← hw8]
  clear hw8 h7
  have C9 := rone_c w _ g _ _ h8.r
  rw [e6] at C9
  simp only at C9
  refine C9.mono ?_
  rintro e w9 ⟨rfl, r9, q9⟩
  have h9 := h8.read r9 q9
  clear C9 r9 q9 h8
  have cX := cellsAt_at h9.c
  have sX := h9.c.lt
  have mX := cellsAt_at h9.m
  have nX := h9.m.lt
  obtain ⟨gX, f1X, f2X, AX, kX, f0X⟩ := h9.r.cells
  have iX := h9.gw
  have jX := h9.cg
  have lX : w.heap.size ≠ gc := by omega
  have uX : gc ≠ g := by omega
  go_wp2_with fail
  clear cX sX mX nX gX f1X f2X f0X iX jX lX uX
  obtain ⟨w10, hw10⟩ : ∃ W : World, W = (w9.setCell ⟨gc, 5, none⟩ (.int .i64 (vt : Int))) := ⟨_, rfl⟩
  have h10 : DR w w10 g gc s6 f6 #[.int .i64 1, .int .i64 (vb : Int), .int .i64 0, .int .i64 0, .int .i64 (vs : Int), .int .i64 (vt : Int), .int .i64 0, .int .i64 0, .int .i64 0] := by rw [hw10]; exact (h9.store 5 _)
  rw [← hw10]
  clear hw10 h9
  have C11 := rone_c w _ g _ _ h10.r
  rw [e7] at C11
  simp only at C11
  refine C11.mono ?_
  rintro e w11 ⟨rfl, r11, q11⟩
  have h11 := h10.read r11 q11
  clear C11 r11 q11 h10
  have cX := cellsAt_at h11.c
  have sX := h11.c.lt
  have mX := cellsAt_at h11.m
  have nX := h11.m.lt
  obtain ⟨gX, f1X, f2X, AX, kX, f0X⟩ := h11.r.cells
  have iX := h11.gw
  have jX := h11.cg
  have lX : w.heap.size ≠ gc := by omega
  have uX : gc ≠ g := by omega
  go_wp2_with fail
  clear cX sX mX nX gX f1X f2X f0X iX jX lX uX
  obtain ⟨w12, hw12⟩ : ∃ W : World, W = (w11.setCell ⟨gc, 8, none⟩ (.int .i64 (vg : Int))) := ⟨_, rfl⟩
  have h12 : DR w w12 g gc s7 f7 #[.int .i64 1, .int .i64 (vb : Int), .int .i64 0, .int .i64 0, .int .i64 (vs : Int), .int .i64 (vt : Int), .int .i64 0, .int .i64 0, .int .i64 (vg : Int)] := by rw [hw12]; exact (h11.store 8 _)
  rw [← hw12]
  clear hw12 h11
  have C13 := rsg_c w _ g _ _ h12.r
  have E13 := Prod.ext_iff.1 e8
  simp only at E13
  rw [E13.1, E13.2] at C13
  simp only at C13
  refine C13.mono ?_
  rintro e w13 ⟨rfl, r13, q13⟩
  have h13 := h12.read r13 q13
  clear C13 r13 q13 h12
  have cX := cellsAt_at h13.c
  have sX := h13.c.lt
  have mX := cellsAt_at h13.m
  have nX := h13.m.lt
  obtain ⟨gX, f1X, f2X, AX, kX, f0X⟩ := h13.r.cells
  have iX := h13.gw
  have jX := h13.cg
  have lX : w.heap.size ≠ gc := by omega
  have uX : gc ≠ g := by omega
  go_wp2_with fail
  clear cX sX mX nX gX f1X f2X f0X iX jX lX uX
  obtain ⟨w14, hw14⟩ : ∃ W : World, W = (w13.setCell ⟨gc, 6, none⟩ (.int .i64 vp)) := ⟨_, rfl⟩
  have h14 : DR w w14 g gc s8 f8 #[.int .i64 1, .int .i64 (vb : Int), .int .i64 0, .int .i64 0, .int .i64 (vs : Int), .int .i64 (vt : Int), .int .i64 vp, .int .i64 0, .int .i64 (vg : Int)] := by rw [hw14]; exact (h13.store 6 _)
  rw [← hw14]
  clear hw14 h13
  have C15 := rsg_c w _ g _ _ h14.r
  have E15 := Prod.ext_iff.1 e9
  simp only at E15
  rw [E15.1, E15.2] at C15
  simp only at C15
  refine C15.mono ?_
  rintro e w15 ⟨rfl, r15, q15⟩
  have h15 := h14.read r15 q15
  clear C15 r15 q15 h14
  by_cases hf : f9 = 0
  rotate_left
  · have hfb : (f9 != 0) = true := bne_iff_ne.2 hf
    have HFIN : Hid (finC ⟨1, (vb : Int), (min vd 4611686018427387905 : Nat), (min vo 1073741825 : Nat), (vs : Int), (vt : Int), vp, vq, (vg : Int)⟩ s9 f9 = (zeroC, f9)) := Lib.hid (finBad hf)
    clear hf
    have cX := cellsAt_at h15.c
    have sX := h15.c.lt
    have mX := cellsAt_at h15.m
    have nX := h15.m.lt
    obtain ⟨gX, f1X, f2X, AX, kX, f0X⟩ := h15.r.cells
    have iX := h15.gw
    have jX := h15.cg
    have lX : w.heap.size ≠ gc := by omega
    have uX : gc ≠ g := by omega
    go_wp2_with fail
    clear cX sX mX nX gX f1X f2X f0X iX jX lX uX
    obtain ⟨w16, hw16⟩ : ∃ W : World, W = (w15.setCell ⟨gc, 7, none⟩ (.int .i64 vq)) := ⟨_, rfl⟩
    have h16 : DR w w16 g gc s9 f9 #[.int .i64 1, .int .i64 (vb : Int), .int .i64 0, .int .i64 0, .int .i64 (vs : Int), .int .i64 (vt : Int), .int .i64 vp, .int .i64 vq, .int .i64 (vg : Int)] := by rw [hw16]; exact (h15.store 7 _)
    rw [← hw16]
    clear hw16 h15
    have gX := h16.r.cells.1
    obtain ⟨_, f1X, f2X, AX, kX, f0X⟩ := h16.r.cells
    refine wp_region_s [0, 0, 0, 0, 0, 1, 0] (fun x => ∀ b ∈ [g], x.heap[b]? = w16.heap[b]?) (by kernel_rfl) (by kernel_rfl) ?_
    refine hls_same (fun K hK => ?_)
    go_simp
    refine hK _ ?_
    clear hK K
    refine hls_same (fun K hK => ?_)
    go_simp
    refine hK _ ?_
    clear hK K
    refine hls_same (fun K hK => ?_)
    go_simp
    refine hK _ ?_
    clear hK K
    refine hls_same (fun K hK => ?_)
    go_simp
    refine hK _ ?_
    clear hK K
    refine hls_same (fun K hK => ?_)
    go_simp
    refine hK _ ?_
    clear hK K
    refine hls_skip (by decide) ?_
    refine hls_same (fun K hK => ?_)
    go_simp
    refine hK _ ?_
    clear hK K
    refine hls_nil ?_
    intro w17 hxw17 K hK
    have h17 := h16.extR hxw17
    have same1 : ∀ b ∈ [g], w17.heap[b]? = w16.heap[b]? := fun b hb => by simp at hb; subst hb; exact hxw17.block _ gX
    clear f1X f2X f0X
    have mX := cellsAt_at h17.m
    have nX := h17.m.lt
    have iX := h17.gw
    refine ms_pass ?_
    refine ms_pass ?_
    refine ms_pass ?_
    refine ms_pass ?_
    refine ms_pass ?_
    refine ms_do (by decide) (same1) (fun K' hK' => ?_)
    go_wp2_with fail
    obtain ⟨wz, hwz⟩ : ∃ W : World, W = w17.setRow w.heap.size #[.int .i64 0, .int .i64 0, .int .i64 0, .int .i64 0, .int .i64 0, .int .i64 0, .int .i64 0, .int .i64 0, .int .i64 0] := ⟨_, rfl⟩
    have xz : Ext w wz := by rw [hwz]; exact (h17.row _).1
    have mz : At wz w.heap.size 25 #[.int .i64 0, .int .i64 0, .int .i64 0, .int .i64 0, .int .i64 0, .int .i64 0, .int .i64 0, .int .i64 0, .int .i64 0] := by rw [hwz]; exact (h17.row _).2
    have same2 : ∀ b ∈ [g], wz.heap[b]? = w16.heap[b]? := fun b hb => by rw [← same1 b hb, hwz]; simp at hb; subst hb; exact setRow_other _ _ _ _ (by omega)
    rw [← hwz]
    clear hwz mX nX iX
    refine ms_pass ?_
    refine ms_nil (same2) (hK _ _ ?_)
    have ez := cellsAt_at mz
    have sz := mz.lt
    go_wp2_with fail
    first | refine fin_ret rfl (fun K hK => ?_) | refine fin_norm rfl (fun K hK => ?_)
    simp [results, Try.results8, go_sem, rsat]
    try go_simp
    refine hK _ ?_
    clear hK K
    exact ⟨xz, zeroC, f9, rfl, by rw [HFIN.out]⟩
  · have hfb : (f9 != 0) = false := by rw [hf]; rfl
    have HF := Lib.hid hf
    clear hf
    by_cases hid : 4611686018427387904 < vd
    · have hidi : (4611686018427387904 : Int) < (vd : Int) := by omega
      have HFIN : Hid (finC ⟨1, (vb : Int), (min vd 4611686018427387905 : Nat), (min vo 1073741825 : Nat), (vs : Int), (vt : Int), vp, vq, (vg : Int)⟩ s9 f9 = (zeroC, 4)) := Lib.hid (fin4 HF.out (.inr (rightC_id _ (by show (4611686018427387904 : Int) < ((min vd 4611686018427387905 : Nat) : Int); omega))))
      have cX := cellsAt_at h15.c
      have sX := h15.c.lt
      have mX := cellsAt_at h15.m
      have nX := h15.m.lt
      obtain ⟨gX, f1X, f2X, AX, kX, f0X⟩ := h15.r.cells
      have iX := h15.gw
      have jX := h15.cg
      have lX : w.heap.size ≠ gc := by omega
      have uX : gc ≠ g := by omega
      go_wp2_with fail
      clear cX sX mX nX gX f1X f2X f0X iX jX lX uX
      obtain ⟨wy, hwy⟩ : ∃ W : World, W = (w15.setCell ⟨gc, 7, none⟩ (.int .i64 vq)) := ⟨_, rfl⟩
      have hy : DR w wy g gc s9 f9 #[.int .i64 1, .int .i64 (vb : Int), .int .i64 0, .int .i64 0, .int .i64 (vs : Int), .int .i64 (vt : Int), .int .i64 vp, .int .i64 vq, .int .i64 (vg : Int)] := by rw [hwy]; exact h15.store 7 _
      rw [← hwy]
      clear hwy h15
      obtain ⟨wz, hwz⟩ : ∃ W : World, W = wy.setRow w.heap.size #[.int .i64 0, .int .i64 0, .int .i64 0, .int .i64 0, .int .i64 0, .int .i64 0, .int .i64 0, .int .i64 0, .int .i64 0] := ⟨_, rfl⟩
      have xz : Ext w wz := by rw [hwz]; exact (hy.row _).1
      have mz : At wz w.heap.size 25 #[.int .i64 0, .int .i64 0, .int .i64 0, .int .i64 0, .int .i64 0, .int .i64 0, .int .i64 0, .int .i64 0, .int .i64 0] := by rw [hwz]; exact (hy.row _).2
      rw [← hwz]
      clear hwz
      have ez := cellsAt_at mz
      have sz := mz.lt
      first | refine fin_ret rfl (fun K hK => ?_) | refine fin_norm rfl (fun K hK => ?_)
      simp [results, Try.results8, go_sem, rsat]
      try go_simp
      refine hK _ ?_
      clear hK K
      exact ⟨xz, zeroC, 4, rfl, by rw [HFIN.out]⟩
    have hidi : decide ((4611686018427387904 : Int) < (vd : Int)) = false := decide_eq_false (by omega)
    by_cases how : 1073741824 < vo
    · have howi : (1073741824 : Int) < (vo : Int) := by omega
      have HFIN : Hid (finC ⟨1, (vb : Int), (min vd 4611686018427387905 : Nat), (min vo 1073741825 : Nat), (vs : Int), (vt : Int), vp, vq, (vg : Int)⟩ s9 f9 = (zeroC, 4)) := Lib.hid (fin4 HF.out (.inr (rightC_own _ rfl (by show (1073741824 : Int) < ((min vo 1073741825 : Nat) : Int); omega))))
      have cX := cellsAt_at h15.c
      have sX := h15.c.lt
      have mX := cellsAt_at h15.m
      have nX := h15.m.lt
      obtain ⟨gX, f1X, f2X, AX, kX, f0X⟩ := h15.r.cells
      have iX := h15.gw
      have jX := h15.cg
      have lX : w.heap.size ≠ gc := by omega
      have uX : gc ≠ g := by omega
      go_wp2_with fail
      clear cX sX mX nX gX f1X f2X f0X iX jX lX uX
      obtain ⟨wy, hwy⟩ : ∃ W : World, W = (w15.setCell ⟨gc, 7, none⟩ (.int .i64 vq)) := ⟨_, rfl⟩
      have hy : DR w wy g gc s9 f9 #[.int .i64 1, .int .i64 (vb : Int), .int .i64 0, .int .i64 0, .int .i64 (vs : Int), .int .i64 (vt : Int), .int .i64 vp, .int .i64 vq, .int .i64 (vg : Int)] := by rw [hwy]; exact h15.store 7 _
      rw [← hwy]
      clear hwy h15
      obtain ⟨wz, hwz⟩ : ∃ W : World, W = wy.setRow w.heap.size #[.int .i64 0, .int .i64 0, .int .i64 0, .int .i64 0, .int .i64 0, .int .i64 0, .int .i64 0, .int .i64 0, .int .i64 0] := ⟨_, rfl⟩
      have xz : Ext w wz := by rw [hwz]; exact (hy.row _).1
      have mz : At wz w.heap.size 25 #[.int .i64 0, .int .i64 0, .int .i64 0, .int .i64 0, .int .i64 0, .int .i64 0, .int .i64 0, .int .i64 0, .int .i64 0] := by rw [hwz]; exact (hy.row _).2
      rw [← hwz]
      clear hwz
      have ez := cellsAt_at mz
      have sz := mz.lt
      first | refine fin_ret rfl (fun K hK => ?_) | refine fin_norm rfl (fun K hK => ?_)
      simp [results, Try.results8, go_sem, rsat]
      try go_simp
      refine hK _ ?_
      clear hK K
      exact ⟨xz, zeroC, 4, rfl, by rw [HFIN.out]⟩
    have howi : decide ((1073741824 : Int) < (vo : Int)) = false := decide_eq_false (by omega)
    by_cases hr : 0 < s9.length
    · have hri : (0 : Int) < (s9.length : Int) := by omega
      have HFIN : Hid (finC ⟨1, (vb : Int), (min vd 4611686018427387905 : Nat), (min vo 1073741825 : Nat), (vs : Int), (vt : Int), vp, vq, (vg : Int)⟩ s9 f9 = (zeroC, 4)) := Lib.hid (fin4 HF.out (.inl hr))
      have cX := cellsAt_at h15.c
      have sX := h15.c.lt
      have mX := cellsAt_at h15.m
      have nX := h15.m.lt
      obtain ⟨gX, f1X, f2X, AX, kX, f0X⟩ := h15.r.cells
      have iX := h15.gw
      have jX := h15.cg
      have lX : w.heap.size ≠ gc := by omega
      have uX : gc ≠ g := by omega
      go_wp2_with fail
      clear cX sX mX nX gX f1X f2X f0X iX jX lX uX
      obtain ⟨wy, hwy⟩ : ∃ W : World, W = (w15.setCell ⟨gc, 7, none⟩ (.int .i64 vq)) := ⟨_, rfl⟩
      have hy : DR w wy g gc s9 f9 #[.int .i64 1, .int .i64 (vb : Int), .int .i64 0, .int .i64 0, .int .i64 (vs : Int), .int .i64 (vt : Int), .int .i64 vp, .int .i64 vq, .int .i64 (vg : Int)] := by rw [hwy]; exact h15.store 7 _
      rw [← hwy]
      clear hwy h15
      obtain ⟨wz, hwz⟩ : ∃ W : World, W = wy.setRow w.heap.size #[.int .i64 0, .int .i64 0, .int .i64 0, .int .i64 0, .int .i64 0, .int .i64 0, .int .i64 0, .int .i64 0, .int .i64 0] := ⟨_, rfl⟩
      have xz : Ext w wz := by rw [hwz]; exact (hy.row _).1
      have mz : At wz w.heap.size 25 #[.int .i64 0, .int .i64 0, .int .i64 0, .int .i64 0, .int .i64 0, .int .i64 0, .int .i64 0, .int .i64 0, .int .i64 0] := by rw [hwz]; exact (hy.row _).2
      rw [← hwz]
      clear hwz
      have ez := cellsAt_at mz
      have sz := mz.lt
      first | refine fin_ret rfl (fun K hK => ?_) | refine fin_norm rfl (fun K hK => ?_)
      simp [results, Try.results8, go_sem, rsat]
      try go_simp
      refine hK _ ?_
      clear hK K
      exact ⟨xz, zeroC, 4, rfl, by rw [HFIN.out]⟩
    have hri : decide ((0 : Int) < (s9.length : Int)) = false := decide_eq_false (by omega)
    have w_vd : IntKind.i64.wrap (vd : Int) = (vd : Int) := by rw [IntWalk.i64_left, wrap64_in ⟨by omega, by omega⟩]
    have w_vo : IntKind.i64.wrap (vo : Int) = (vo : Int) := by rw [IntWalk.i64_left, wrap64_in ⟨by omega, by omega⟩]
    have cX := cellsAt_at h15.c
    have sX := h15.c.lt
    have mX := cellsAt_at h15.m
    have nX := h15.m.lt
    obtain ⟨gX, f1X, f2X, AX, kX, f0X⟩ := h15.r.cells
    have iX := h15.gw
    have jX := h15.cg
    have lX : w.heap.size ≠ gc := by omega
    have uX : gc ≠ g := by omega
    go_wp2_with fail
    clear cX sX mX nX gX f1X f2X f0X iX jX lX uX
    obtain ⟨w16, hw16⟩ : ∃ W : World, W = (((w15.setCell ⟨gc, 7, none⟩ (.int .i64 vq)).setCell ⟨gc, 2, none⟩ (.int .i64 (vd : Int))).setCell ⟨gc, 3, none⟩ (.int .i64 (vo : Int))) := ⟨_, rfl⟩
    have h16 : DR w w16 g gc s9 f9 #[.int .i64 1, .int .i64 (vb : Int), .int .i64 (vd : Int), .int .i64 (vo : Int), .int .i64 (vs : Int), .int .i64 (vt : Int), .int .i64 vp, .int .i64 vq, .int .i64 (vg : Int)] := by rw [hw16]; exact (((h15.store 7 _).store 2 _).store 3 _)
    rw [← hw16]
    clear hw16 h15
    obtain ⟨cc, hcc⟩ : ∃ cc : Cm, cc = (⟨1, (vb : Int), (vd : Int), (vo : Int), (vs : Int), (vt : Int), vp, vq, (vg : Int)⟩ : Cm) := ⟨_, rfl⟩
    have hfin : finC ⟨1, (vb : Int), (min vd 4611686018427387905 : Nat), (min vo 1073741825 : Nat), (vs : Int), (vt : Int), vp, vq, (vg : Int)⟩ s9 f9 = finC cc s9 f9 := by rw [hcc, Nat.min_eq_left (show vd ≤ 4611686018427387905 by omega), Nat.min_eq_left (show vo ≤ 1073741825 by omega)]
    have HFINL := Lib.hid hfin
    clear hfin
    have CR := rright5_c cc
    have hcv : (#[.int .i64 1, .int .i64 (vb : Int), .int .i64 (vd : Int), .int .i64 (vo : Int), .int .i64 (vs : Int), .int .i64 (vt : Int), .int .i64 vp, .int .i64 vq, .int .i64 (vg : Int)] : Array Value) = #[.int .i64 cc.kind, .int .i64 cc.sym, .int .i64 cc.id, .int .i64 cc.own, .int .i64 cc.side, .int .i64 cc.typ, .int .i64 cc.price, .int .i64 cc.qty, .int .i64 cc.flags] := by rw [hcc]
    rw [← hcv] at CR
    have HCV := Lib.hid hcv
    clear hcv
    cases hR : rightC cc with
    | false =>
      rw [hR] at CR
      have HCR := Lib.hid CR
      clear CR
      have HFIN : Hid (finC ⟨1, (vb : Int), (min vd 4611686018427387905 : Nat), (min vo 1073741825 : Nat), (vs : Int), (vt : Int), vp, vq, (vg : Int)⟩ s9 f9 = (zeroC, 4)) := Lib.hid (HFINL.out.trans (fin4 HF.out (.inr hR)))
      clear hR
      refine (HCR.out _).mono ?_
      rintro e w17 ⟨rfl, x17⟩
      have h17 := h16.extR x17
      clear h16
      have cX := cellsAt_at h17.c
      have sX := h17.c.lt
      have mX := cellsAt_at h17.m
      have nX := h17.m.lt
      obtain ⟨gX, f1X, f2X, AX, kX, f0X⟩ := h17.r.cells
      have iX := h17.gw
      have jX := h17.cg
      have lX : w.heap.size ≠ gc := by omega
      have uX : gc ≠ g := by omega
      go_wp2_with fail
      clear cX sX mX nX gX f1X f2X f0X iX jX lX uX
      obtain ⟨wz, hwz⟩ : ∃ W : World, W = w17.setRow w.heap.size #[.int .i64 0, .int .i64 0, .int .i64 0, .int .i64 0, .int .i64 0, .int .i64 0, .int .i64 0, .int .i64 0, .int .i64 0] := ⟨_, rfl⟩
      have xz : Ext w wz := by rw [hwz]; exact (h17.row _).1
      have mz : At wz w.heap.size 25 #[.int .i64 0, .int .i64 0, .int .i64 0, .int .i64 0, .int .i64 0, .int .i64 0, .int .i64 0, .int .i64 0, .int .i64 0] := by rw [hwz]; exact (h17.row _).2
      rw [← hwz]
      clear hwz
      have ez := cellsAt_at mz
      have sz := mz.lt
      first | refine fin_ret rfl (fun K hK => ?_) | refine fin_norm rfl (fun K hK => ?_)
      simp [results, Try.results8, go_sem, rsat]
      try go_simp
      refine hK _ ?_
      clear hK K
      exact ⟨xz, zeroC, 4, rfl, by rw [HFIN.out]⟩
    | true =>
      rw [hR] at CR
      have HCR := Lib.hid CR
      clear CR
      have HFIN : Hid (finC ⟨1, (vb : Int), (min vd 4611686018427387905 : Nat), (min vo 1073741825 : Nat), (vs : Int), (vt : Int), vp, vq, (vg : Int)⟩ s9 f9 = (cc, 0)) := Lib.hid (HFINL.out.trans (finOk HF.out hr hR))
      clear hR
      refine (HCR.out _).mono ?_
      rintro e w17 ⟨rfl, x17⟩
      have h17 := h16.extR x17
      clear h16
      have cX := cellsAt_at h17.c
      have sX := h17.c.lt
      have mX := cellsAt_at h17.m
      have nX := h17.m.lt
      obtain ⟨gX, f1X, f2X, AX, kX, f0X⟩ := h17.r.cells
      have iX := h17.gw
      have jX := h17.cg
      have lX : w.heap.size ≠ gc := by omega
      have uX : gc ≠ g := by omega
      go_wp2_with fail
      clear cX sX mX nX gX f1X f2X f0X iX jX lX uX
      obtain ⟨wz, hwz⟩ : ∃ W : World, W = w17.setRow w.heap.size #[.int .i64 1, .int .i64 (vb : Int), .int .i64 (vd : Int), .int .i64 (vo : Int), .int .i64 (vs : Int), .int .i64 (vt : Int), .int .i64 vp, .int .i64 vq, .int .i64 (vg : Int)] := ⟨_, rfl⟩
      have xz : Ext w wz := by rw [hwz]; exact (h17.row _).1
      have mz : At wz w.heap.size 25 #[.int .i64 1, .int .i64 (vb : Int), .int .i64 (vd : Int), .int .i64 (vo : Int), .int .i64 (vs : Int), .int .i64 (vt : Int), .int .i64 vp, .int .i64 vq, .int .i64 (vg : Int)] := by rw [hwz]; exact (h17.row _).2
      rw [← hwz]
      clear hwz
      have ez := cellsAt_at mz
      have sz := mz.lt
      first | refine fin_ret rfl (fun K hK => ?_) | refine fin_norm rfl (fun K hK => ?_)
      simp [results, Try.results8, go_sem, rsat]
      try go_simp
      refine hK _ ?_
      clear hK K
      exact ⟨xz, cc, 0, by rw [← HCV.out], by rw [HFIN.out]⟩
end Go.Proofs.Ytodeplfndebbgaa
