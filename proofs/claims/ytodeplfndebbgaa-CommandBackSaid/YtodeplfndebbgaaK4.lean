/- Commands (layer 5): Decode, by the program. Condition: at most 10^9 bytes. -/
import Derived.Test.YtodeplfndebbgaaK1
import Derived.Test.YtodeplfndebbgaaO7
import Derived.Test.YtodeplfndebbgaaR2
import Derived.Test.YtodeplfndebbgaaL03
import Derived.Laws.EntriesVeiled
namespace Go.Proofs.Ytodeplfndebbgaa
open Go.RowKit
attribute [local go_sem] Later.cell QUpon_value QUpon_enter MUpon_value run_eql_slice_nil Same.cell
attribute [local go_sem ↓ high] loadCmd_is storeCmd_is
attribute [local go_sem] run_loadCmd run_loadCmd_at run_storeCmd one_int one_bool one_slice one_ptr one_str setRow_new setRow_past cell_ca frozen_ca cellsAt_alloc_at cellsAt_alloc_past cellsAt_drew cellsAt_later cellsAt_setCell cellsAt_set_same cellsAt_setRow_same cellsAt_setRow_far subAt_alloc subAt_drew subAt_later subAt_setCell subAt_setRow ltn_2 ltn_3 ltn_4 ltn_5
theorem uintR1_lt {bs : List Int} (h : Byt bs) (f : Int) : (uintR bs f 1).1 < 256 := by
  unfold uintR
  split
  · show 0 < 256; omega
  · split
    · show 0 < 256; omega
    · exact valN_bytes (fun x hx => h x (List.mem_of_mem_take hx)) 1 (by rw [List.length_take]; omega)
/-- one(): the next byte. -/
theorem one_c (gb g : Nat) (A : Option Addr) (bs : List Int) (f : Int) (w : World) (hb : At w gb 37 #[.pointer (some ⟨g, 0, none⟩)]) (hR : Rdr w g A bs f) :
    Calls Try.prog 16 #[.pointer (some ⟨gb, 0, none⟩)] w fun e w' => e = .returned (.int .i64 ((uintR bs f 1).1 : Nat)) ∧ ∃ A', Reads w g A (uintR bs f 1).2.1 (uintR bs f 1).2.2 w' A' := by
  have hl := uintR1_lt hR.by_ f
  have C := rduint_c g A bs f 1 (by decide) w hR
  generalize uintR bs f 1 = r at C hl ⊢
  obtain ⟨n, cs, f'⟩ := r
  simp only at C hl ⊢
  have ew : IntKind.i64.wrap (n : Int) = (n : Int) := by rw [IntWalk.i64_left, wrap64_in ⟨by omega, by omega⟩]
  have c0 : w.cell? ⟨gb, 0, none⟩ = some (.pointer (some ⟨g, 0, none⟩)) := hb.cell 0
  clear hb
  go_enter Try.func16, Try.ntmps16
  go_wp2_with fail
  refine C.mono ?_
  rintro e w1 ⟨rfl, A1, hr⟩
  go_wp2_with fail
  first | refine fin_ret rfl (fun K hK => ?_) | refine fin_norm rfl (fun K hK => ?_)
  simp [results, Try.results16, go_sem, rsat]
  try go_simp
  refine hK _ ?_
  clear hK K
  exact ⟨rfl, A1, hr⟩
theorem Rdr.alloc {w : World} {g : Nat} {A : Option Addr} {bs : List Int} {f : Int} (h : Rdr w g A bs f) (o : Obj) : Rdr (w.alloc o) g A bs f := h.ext ((Ext.refl w).alloc o)
def zeroC : Cm := ⟨0, 0, 0, 0, 0, 0, 0, 0, 0⟩
/-- What comes of all that was read. -/
def finC (c : Cm) (rest : List Int) (f : Int) : Cm × Int := if f ≠ 0 then (zeroC, f) else if 0 < rest.length ∨ rightC c = false then (zeroC, 4) else (c, 0)
/-- Amid a decoding: the command's block, the reader, its box. -/
structure DS (w W : World) (gb g : Nat) (A : Option Addr) (rs : List Int) (f : Int) (cells : Array Value) : Prop where
  ext : Ext w W
  m : At W w.heap.size 25 cells
  x : At W gb 37 #[.pointer (some ⟨g, 0, none⟩)]
  r : Rdr W g A rs f
  aw : ∀ k ∈ ablk A, w.heap.size < k
  gw : w.heap.size < g
  bw : w.heap.size < gb
  bg : gb ≠ g
theorem DS.read {w W W' : World} {gb g : Nat} {A A' : Option Addr} {rs rs' : List Int} {f f' : Int} {cells : Array Value} (h : DS w W gb g A rs f cells) (hr : Reads W g A rs' f' W' A') : DS w W' gb g A' rs' f' cells :=
  ⟨(Chg.step (Chg.of_ext h.ext []) hr.chg (fun i hi => by simp at hi; right; have := h.gw; omega)).ext (by simp), hr.chg.at h.m (by simp; have := h.gw; omega), hr.chg.at h.x (by simp; exact h.bg), hr.rd, fun k hk => h.aw k (by rw [← hr.blk]; exact hk), h.gw, h.bw, h.bg⟩
theorem DS.store {w W : World} {gb g : Nat} {A : Option Addr} {rs : List Int} {f : Int} {cells : Array Value} (h : DS w W gb g A rs f cells) (i : Nat) (v : Value) : DS w (W.setCell ⟨w.heap.size, i, none⟩ v) gb g A rs f (cells.setIfInBounds i v) :=
  ⟨h.ext.setCell (Nat.le_refl _) v, h.m.set i v, h.x.far (by have := h.bw; simp; omega) v, h.r.chg ((Chg.refl W [w.heap.size]).set (.inl (by simp)) v) (by simp; have := h.gw; omega) (fun k hk => by simp; have := h.aw k hk; omega), h.aw, h.gw, h.bw, h.bg⟩
theorem DS.extR {w W W' : World} {gb g : Nat} {A : Option Addr} {rs : List Int} {f : Int} {cells : Array Value} (h : DS w W gb g A rs f cells) (hx : Ext W W') : DS w W' gb g A rs f cells :=
  ⟨h.ext.trans hx, h.m.ext hx, h.x.ext hx, h.r.ext hx, h.aw, h.gw, h.bw, h.bg⟩
theorem DS.row {w W : World} {gb g : Nat} {A : Option Addr} {rs : List Int} {f : Int} {cells : Array Value} (h : DS w W gb g A rs f cells) (cs : Array Value) : Ext w (W.setRow w.heap.size cs) ∧ At (W.setRow w.heap.size cs) w.heap.size 25 cs :=
  ⟨h.ext.setRow (Nat.le_refl _) cs, h.m.setRow cs⟩
set_option maxHeartbeats 8000000 in
set_option maxRecDepth 100000 in
theorem dec2_c (B : Option Addr) (cb : Nat) (bs : List Int) (hb : Byt bs) (hl : bs.length ≤ 1000000000) (w : World) (hS : Src w 1 B bs.length (bc bs)) (s1 s2 s3 : List Int) (f2 f3 : Int) (vb vd : Nat) (e1 : uintR bs 0 1 = (2, s1, 0)) (e2 : uintR s1 0 1 = (vb, s2, f2)) (e3 : numR s2 f2 = (vd, s3, f3)) :
    Calls Try.prog 7 #[.slice B bs.length cb] w fun e w' => Ext w w' ∧ ∃ (c : Cm) (f : Int), e = .returned (.tuple #[.agg #[.int .i64 c.kind, .int .i64 c.sym, .int .i64 c.id, .int .i64 c.own, .int .i64 c.side, .int .i64 c.typ, .int .i64 c.price, .int .i64 c.qty, .int .i64 c.flags], .int .i64 f]) ∧ (c, f) = finC ⟨2, (vb : Int), (min vd 4611686018427387905 : Nat), 0, 0, 0, 0, 0, 0⟩ s3 f3 := by
  have C1 := fun W hx => newreader_c B bs cb W (hS.ext hx) hb hl
  have HC1 := Lib.hid C1
  clear C1
  go_enter Try.func7, Try.ntmps7
  go_wp2_with fail
  refine (HC1.out _ (by repeat (first | (with_reducible exact Ext.refl _) | (with_reducible assumption) | (with_reducible refine Ext.alloc ?_ _) | (with_reducible refine Ext.drew ?_) | (with_reducible refine Ext.drewN ?_ _) | (with_reducible refine Ext.setCell ?_ (by simp; try omega) _) | (with_reducible refine Ext.setRow ?_ (by simp; try omega) _)))).mono ?_
  rintro e w1 ⟨hx1, g, A1, rfl, r1, hg, hA⟩
  have xw1 : Ext w w1 := Ext.trans (by repeat (first | (with_reducible exact Ext.refl _) | (with_reducible assumption) | (with_reducible refine Ext.alloc ?_ _) | (with_reducible refine Ext.drew ?_) | (with_reducible refine Ext.drewN ?_ _) | (with_reducible refine Ext.setCell ?_ (by simp; try omega) _) | (with_reducible refine Ext.setRow ?_ (by simp; try omega) _))) hx1
  have M1 : At w1 w.heap.size 25 #[.int .i64 0, .int .i64 0, .int .i64 0, .int .i64 0, .int .i64 0, .int .i64 0, .int .i64 0, .int .i64 0, .int .i64 0] := At.ext (by repeat (first | (with_reducible exact At.new _ _ _) | ((with_reducible refine At.new' _ _ _ _ ?_); simp; done) | (with_reducible assumption) | (with_reducible refine At.drew ?_) | (with_reducible refine At.alloc ?_ _) | (with_reducible apply At.upd) | (with_reducible apply At.setRow) | (with_reducible refine At.rowFar ?_ (by first | (simp; done) | (simp; omega) | omega) _) | ((with_reducible refine At.far ?_ (by first | (simp; done) | (simp; omega) | omega) _)) | (with_reducible rfl) | (simp; done))) hx1
  have hgw : w.heap.size < g := by simp at hg; omega
  have hgl : g < w1.heap.size := r1.ex.choose_spec.1.lt
  have haw : ∀ k ∈ ablk A1, w.heap.size < k := fun k hk => by have := hA k hk; simp at this; omega
  have s1 := M1.lt
  clear hA hg
  go_wp2_with fail
  refine gen_world (fun W => DS w W w1.heap.size g A1 bs 0 #[.int .i64 0, .int .i64 0, .int .i64 0, .int .i64 0, .int .i64 0, .int .i64 0, .int .i64 0, .int .i64 0, .int .i64 0]) ⟨xw1.alloc _, M1.alloc _, At.new _ _ _, r1.alloc _, haw, hgw, by omega, by omega⟩ (fun w2 h2 => ?_)
  generalize w1.heap.size = gb at *
  clear M1 r1 hgl s1 HC1 hx1 xw1
  have c2 : w2.cell? ⟨gb, 0, none⟩ = some (.pointer (some ⟨g, 0, none⟩)) := h2.x.cell 0
  have hbl := h2.x.lt
  refine wp_region_x 6 [1, 0, 1, 0, 0, 0] (by kernel_rfl) (by kernel_rfl) (by kernel_rfl) ?_
  simp only [List.take_succ_cons, List.take_zero, List.drop_succ_cons, List.drop_zero]
  refine hl_quiet (fun K hK => ?_)
  go_simp
  refine hK _ ?_
  clear hK K
  refine hl_pure (fun K hK => ?_)
  go_simp
  refine hK _ ?_
  clear hK K
  refine hl_quiet (fun K hK => ?_)
  go_simp
  refine hK _ ?_
  clear hK K
  refine hl_pure (fun K hK => ?_)
  go_simp
  refine hK _ ?_
  clear hK K
  refine hl_pure (fun K hK => ?_)
  go_simp
  refine hK _ ?_
  clear hK K
  refine hl_pure (fun K hK => ?_)
  go_simp
  refine hK _ ?_
  clear hK K
  refine hl_nil ?_
  intro w3 hx3 K hK
  have h3 := h2.extR hx3
  clear h2 c2 hbl
  have cX := cellsAt_at h3.m
  have sX := h3.m.lt
  have bX : (World.cell? _ ⟨gb, 0, none⟩) = some (.pointer (some ⟨g, 0, none⟩)) := h3.x.cell 0
  have dX := h3.x.lt
  have gX := h3.bw
  have hX := h3.gw
  go_wp2_with fail
  clear cX sX bX dX gX hX
  have C4 := one_c gb g A1 _ _ _ h3.x h3.r
  rw [e1] at C4
  simp only at C4
  refine C4.mono ?_
  rintro e w4 ⟨rfl, B4, r4⟩
  have h4 := h3.read r4
  clear C4 r4 h3
  have cX := cellsAt_at h4.m
  have sX := h4.m.lt
  have bX : (World.cell? _ ⟨gb, 0, none⟩) = some (.pointer (some ⟨g, 0, none⟩)) := h4.x.cell 0
  have dX := h4.x.lt
  have gX := h4.bw
  have hX := h4.gw
  go_wp2_with fail
  clear cX sX bX dX gX hX
  obtain ⟨w5, hw5⟩ : ∃ W : World, W = (w4.setCell ⟨w.heap.size, 0, none⟩ (.int .i64 2)) := ⟨_, rfl⟩
  have h5 : DS w w5 gb g B4 s1 0 #[.int .i64 2, .int .i64 0, .int .i64 0, .int .i64 0, .int .i64 0, .int .i64 0, .int .i64 0, .int .i64 0, .int .i64 0] := by rw [hw5]; exact (h4.store 0 _)
  rw [← hw5]
  clear hw5 h4
  refine (fault_c g B4 _ _ _ h5.r).mono ?_
  rintro e w6 ⟨rfl, x6⟩
  have h6 := h5.extR x6
  clear h5
  have cX := cellsAt_at h6.m
  have sX := h6.m.lt
  have bX : (World.cell? _ ⟨gb, 0, none⟩) = some (.pointer (some ⟨g, 0, none⟩)) := h6.x.cell 0
  have dX := h6.x.lt
  have gX := h6.bw
  have hX := h6.gw
  go_wp2_with fail
  clear cX sX bX dX gX hX
  have C7 := one_c gb g B4 _ _ _ h6.x h6.r
  rw [e2] at C7
  simp only at C7
  refine C7.mono ?_
  rintro e w7 ⟨rfl, B7, r7⟩
  have h7 := h6.read r7
  clear C7 r7 h6
  have cX := cellsAt_at h7.m
  have sX := h7.m.lt
  have bX : (World.cell? _ ⟨gb, 0, none⟩) = some (.pointer (some ⟨g, 0, none⟩)) := h7.x.cell 0
  have dX := h7.x.lt
  have gX := h7.bw
  have hX := h7.gw
  go_wp2_with fail
  clear cX sX bX dX gX hX
  obtain ⟨w8, hw8⟩ : ∃ W : World, W = (w7.setCell ⟨w.heap.size, 1, none⟩ (.int .i64 (vb : Int))) := ⟨_, rfl⟩
  have h8 : DS w w8 gb g B7 s2 f2 #[.int .i64 2, .int .i64 (vb : Int), .int .i64 0, .int .i64 0, .int .i64 0, .int .i64 0, .int .i64 0, .int .i64 0, .int .i64 0] := by rw [hw8]; exact (h7.store 1 _)
  rw [← hw8]
  clear hw8 h7
  have C9 := rdnum_c g B7 _ _ _ h8.r
  rw [e3] at C9
  simp only at C9
  refine C9.mono ?_
  rintro e w9 ⟨rfl, B9, r9⟩
  have h9 := h8.read r9
  clear C9 r9 h8
  have cX := cellsAt_at h9.m
  have sX := h9.m.lt
  have bX : (World.cell? _ ⟨gb, 0, none⟩) = some (.pointer (some ⟨g, 0, none⟩)) := h9.x.cell 0
  have dX := h9.x.lt
  have gX := h9.bw
  have hX := h9.gw
  go_wp2_with fail
  clear cX sX bX dX gX hX
  refine (fault_c g B9 _ _ _ h9.r).mono ?_
  rintro e w10 ⟨rfl, x10⟩
  have h10 := h9.extR x10
  clear h9
  by_cases hf : f3 = 0
  · have hfb : (f3 != 0) = false := by simp [hf]
    have HF := Lib.hid hf
    clear hf
    by_cases hv2 : vd ≤ 4611686018427387905
    · have ew2 : IntKind.i64.wrap (vd : Int) = (vd : Int) := by rw [IntWalk.i64_left, wrap64_in ⟨by omega, by omega⟩]
      have hm2 : ((min vd 4611686018427387905 : Nat) : Int) = (vd : Int) := by rw [Nat.min_eq_left hv2]
      have HM2 := Lib.hid hm2
      clear hm2
      have hvi2 : (vd : Int) ≤ 4611686018427387905 := by omega
      have cX := cellsAt_at h10.m
      have sX := h10.m.lt
      have bX : (World.cell? _ ⟨gb, 0, none⟩) = some (.pointer (some ⟨g, 0, none⟩)) := h10.x.cell 0
      have dX := h10.x.lt
      have gX := h10.bw
      have hX := h10.gw
      go_wp2_with fail
      clear cX sX bX dX gX hX
      obtain ⟨w11, hw11⟩ : ∃ W : World, W = ((w10.setCell ⟨w.heap.size, 2, none⟩ (.int .i64 (vd : Int))).setCell ⟨w.heap.size, 3, none⟩ (.int .i64 0)) := ⟨_, rfl⟩
      have h11 : DS w w11 gb g B9 s3 f3 #[.int .i64 2, .int .i64 (vb : Int), .int .i64 (vd : Int), .int .i64 0, .int .i64 0, .int .i64 0, .int .i64 0, .int .i64 0, .int .i64 0] := by rw [hw11]; exact ((h10.store 2 _).store 3 _)
      rw [← hw11]
      clear hw11 h10
      refine (left_c g B9 _ _ _ h11.r).mono ?_
      rintro e w12 ⟨rfl, x12⟩
      have h12 := h11.extR x12
      clear h11
      obtain ⟨cc, hcc⟩ : ∃ cc : Cm, cc = (⟨2, (vb : Int), (vd : Int), 0, 0, 0, 0, 0, 0⟩ : Cm) := ⟨_, rfl⟩
      have hfin : finC ⟨2, (vb : Int), (min vd 4611686018427387905 : Nat), 0, 0, 0, 0, 0, 0⟩ s3 f3 = finC cc s3 0 := by rw [HM2.out, HF.out, hcc]
      have HFINL := Lib.hid hfin
      clear hfin
      have CR := cright_c cc
      have hcv : (#[.int .i64 2, .int .i64 (vb : Int), .int .i64 (vd : Int), .int .i64 0, .int .i64 0, .int .i64 0, .int .i64 0, .int .i64 0, .int .i64 0] : Array Value) = #[.int .i64 cc.kind, .int .i64 cc.sym, .int .i64 cc.id, .int .i64 cc.own, .int .i64 cc.side, .int .i64 cc.typ, .int .i64 cc.price, .int .i64 cc.qty, .int .i64 cc.flags] := by rw [hcc]
      rw [← hcv] at CR
      have HCV := Lib.hid hcv
      clear hcv
      by_cases hr : 0 < s3.length
      · have hfz : finC ⟨2, (vb : Int), (min vd 4611686018427387905 : Nat), 0, 0, 0, 0, 0, 0⟩ s3 f3 = (zeroC, 4) := by rw [HFINL.out]; unfold finC; rw [if_neg (by simp), if_pos (.inl hr)]
        have HFIN := Lib.hid hfz
        clear hfz CR
        have hri : (0 : Int) < (s3.length : Int) := by omega
        have cX := cellsAt_at h12.m
        have sX := h12.m.lt
        have bX : (World.cell? _ ⟨gb, 0, none⟩) = some (.pointer (some ⟨g, 0, none⟩)) := h12.x.cell 0
        have dX := h12.x.lt
        have gX := h12.bw
        have hX := h12.gw
        go_wp2_with fail
        clear cX sX bX dX gX hX
        obtain ⟨wz, hwz⟩ : ∃ W : World, W = w12.setRow w.heap.size #[.int .i64 0, .int .i64 0, .int .i64 0, .int .i64 0, .int .i64 0, .int .i64 0, .int .i64 0, .int .i64 0, .int .i64 0] := ⟨_, rfl⟩
        have xz : Ext w wz := by rw [hwz]; exact (h12.row _).1
        have mz : At wz w.heap.size 25 #[.int .i64 0, .int .i64 0, .int .i64 0, .int .i64 0, .int .i64 0, .int .i64 0, .int .i64 0, .int .i64 0, .int .i64 0] := by rw [hwz]; exact (h12.row _).2
        rw [← hwz]
        clear hwz h12
        have ez := cellsAt_at mz
        have sz := mz.lt
        first | refine fin_ret rfl (fun K hK => ?_) | refine fin_norm rfl (fun K hK => ?_)
        simp [results, Try.results7, go_sem, rsat]
        try go_simp
        refine hK _ ?_
        clear hK K
        exact ⟨xz, zeroC, 4, rfl, by rw [HFIN.out]⟩
      have hr0 : s3.length = 0 := by omega
      have hri : ¬ (0 : Int) < (s3.length : Int) := by omega
      cases hR : rightC cc with
      | false =>
        rw [hR] at CR
        have HCR := Lib.hid CR
        clear CR
        have hfz : finC ⟨2, (vb : Int), (min vd 4611686018427387905 : Nat), 0, 0, 0, 0, 0, 0⟩ s3 f3 = (zeroC, 4) := by rw [HFINL.out]; unfold finC; rw [if_neg (by simp), if_pos (.inr hR)]
        have HFIN := Lib.hid hfz
        have HR0 := Lib.hid hr0
        clear hfz hR hr0
        have cX := cellsAt_at h12.m
        have sX := h12.m.lt
        have bX : (World.cell? _ ⟨gb, 0, none⟩) = some (.pointer (some ⟨g, 0, none⟩)) := h12.x.cell 0
        have dX := h12.x.lt
        have gX := h12.bw
        have hX := h12.gw
        go_wp2_with fail
        clear cX sX bX dX gX hX
        refine (HCR.out _).mono ?_
        rintro e w13 ⟨rfl, x13⟩
        have h13 := h12.extR x13
        clear h12
        have cX := cellsAt_at h13.m
        have sX := h13.m.lt
        have bX : (World.cell? _ ⟨gb, 0, none⟩) = some (.pointer (some ⟨g, 0, none⟩)) := h13.x.cell 0
        have dX := h13.x.lt
        have gX := h13.bw
        have hX := h13.gw
        go_wp2_with fail
        clear cX sX bX dX gX hX
        obtain ⟨wz, hwz⟩ : ∃ W : World, W = w13.setRow w.heap.size #[.int .i64 0, .int .i64 0, .int .i64 0, .int .i64 0, .int .i64 0, .int .i64 0, .int .i64 0, .int .i64 0, .int .i64 0] := ⟨_, rfl⟩
        have xz : Ext w wz := by rw [hwz]; exact (h13.row _).1
        have mz : At wz w.heap.size 25 #[.int .i64 0, .int .i64 0, .int .i64 0, .int .i64 0, .int .i64 0, .int .i64 0, .int .i64 0, .int .i64 0, .int .i64 0] := by rw [hwz]; exact (h13.row _).2
        rw [← hwz]
        clear hwz h13
        have ez := cellsAt_at mz
        have sz := mz.lt
        first | refine fin_ret rfl (fun K hK => ?_) | refine fin_norm rfl (fun K hK => ?_)
        simp [results, Try.results7, go_sem, rsat]
        try go_simp
        refine hK _ ?_
        clear hK K
        exact ⟨xz, zeroC, 4, rfl, by rw [HFIN.out]⟩
      | true =>
        rw [hR] at CR
        have HCR := Lib.hid CR
        clear CR
        have hfz : finC ⟨2, (vb : Int), (min vd 4611686018427387905 : Nat), 0, 0, 0, 0, 0, 0⟩ s3 f3 = (cc, 0) := by rw [HFINL.out]; unfold finC; rw [if_neg (by simp), if_neg (by rintro (h9 | h9); exact absurd h9 hr; rw [hR] at h9; cases h9)]
        have HFIN := Lib.hid hfz
        have HR0 := Lib.hid hr0
        clear hfz hR hr0
        have cX := cellsAt_at h12.m
        have sX := h12.m.lt
        have bX : (World.cell? _ ⟨gb, 0, none⟩) = some (.pointer (some ⟨g, 0, none⟩)) := h12.x.cell 0
        have dX := h12.x.lt
        have gX := h12.bw
        have hX := h12.gw
        go_wp2_with fail
        clear cX sX bX dX gX hX
        refine (HCR.out _).mono ?_
        rintro e w13 ⟨rfl, x13⟩
        have h13 := h12.extR x13
        clear h12
        have cX := cellsAt_at h13.m
        have sX := h13.m.lt
        have bX : (World.cell? _ ⟨gb, 0, none⟩) = some (.pointer (some ⟨g, 0, none⟩)) := h13.x.cell 0
        have dX := h13.x.lt
        have gX := h13.bw
        have hX := h13.gw
        go_wp2_with fail
        clear cX sX bX dX gX hX
        obtain ⟨wz, hwz⟩ : ∃ W : World, W = w13.setRow w.heap.size #[.int .i64 2, .int .i64 (vb : Int), .int .i64 (vd : Int), .int .i64 0, .int .i64 0, .int .i64 0, .int .i64 0, .int .i64 0, .int .i64 0] := ⟨_, rfl⟩
        have xz : Ext w wz := by rw [hwz]; exact (h13.row _).1
        have mz : At wz w.heap.size 25 #[.int .i64 2, .int .i64 (vb : Int), .int .i64 (vd : Int), .int .i64 0, .int .i64 0, .int .i64 0, .int .i64 0, .int .i64 0, .int .i64 0] := by rw [hwz]; exact (h13.row _).2
        rw [← hwz]
        clear hwz h13
        have ez := cellsAt_at mz
        have sz := mz.lt
        first | refine fin_ret rfl (fun K hK => ?_) | refine fin_norm rfl (fun K hK => ?_)
        simp [results, Try.results7, go_sem, rsat]
        try go_simp
        refine hK _ ?_
        clear hK K
        exact ⟨xz, cc, 0, by rw [← HCV.out], by rw [HFIN.out]⟩
    · have hm2 : ((min vd 4611686018427387905 : Nat) : Int) = 4611686018427387905 := by rw [Nat.min_eq_right (by omega)]; rfl
      have HM2 := Lib.hid hm2
      clear hm2
      have hvi2 : 4611686018427387905 < (vd : Int) := by omega
      have cX := cellsAt_at h10.m
      have sX := h10.m.lt
      have bX : (World.cell? _ ⟨gb, 0, none⟩) = some (.pointer (some ⟨g, 0, none⟩)) := h10.x.cell 0
      have dX := h10.x.lt
      have gX := h10.bw
      have hX := h10.gw
      go_wp2_with fail
      clear cX sX bX dX gX hX
      obtain ⟨w11, hw11⟩ : ∃ W : World, W = ((w10.setCell ⟨w.heap.size, 2, none⟩ (.int .i64 4611686018427387905)).setCell ⟨w.heap.size, 3, none⟩ (.int .i64 0)) := ⟨_, rfl⟩
      have h11 : DS w w11 gb g B9 s3 f3 #[.int .i64 2, .int .i64 (vb : Int), .int .i64 4611686018427387905, .int .i64 0, .int .i64 0, .int .i64 0, .int .i64 0, .int .i64 0, .int .i64 0] := by rw [hw11]; exact ((h10.store 2 _).store 3 _)
      rw [← hw11]
      clear hw11 h10
      refine (left_c g B9 _ _ _ h11.r).mono ?_
      rintro e w12 ⟨rfl, x12⟩
      have h12 := h11.extR x12
      clear h11
      obtain ⟨cc, hcc⟩ : ∃ cc : Cm, cc = (⟨2, (vb : Int), 4611686018427387905, 0, 0, 0, 0, 0, 0⟩ : Cm) := ⟨_, rfl⟩
      have hfin : finC ⟨2, (vb : Int), (min vd 4611686018427387905 : Nat), 0, 0, 0, 0, 0, 0⟩ s3 f3 = finC cc s3 0 := by rw [HM2.out, HF.out, hcc]
      have HFINL := Lib.hid hfin
      clear hfin
      have CR := cright_c cc
      have hcv : (#[.int .i64 2, .int .i64 (vb : Int), .int .i64 4611686018427387905, .int .i64 0, .int .i64 0, .int .i64 0, .int .i64 0, .int .i64 0, .int .i64 0] : Array Value) = #[.int .i64 cc.kind, .int .i64 cc.sym, .int .i64 cc.id, .int .i64 cc.own, .int .i64 cc.side, .int .i64 cc.typ, .int .i64 cc.price, .int .i64 cc.qty, .int .i64 cc.flags] := by rw [hcc]
      rw [← hcv] at CR
      have HCV := Lib.hid hcv
      clear hcv
      by_cases hr : 0 < s3.length
      · have hfz : finC ⟨2, (vb : Int), (min vd 4611686018427387905 : Nat), 0, 0, 0, 0, 0, 0⟩ s3 f3 = (zeroC, 4) := by rw [HFINL.out]; unfold finC; rw [if_neg (by simp), if_pos (.inl hr)]
        have HFIN := Lib.hid hfz
        clear hfz CR
        have hri : (0 : Int) < (s3.length : Int) := by omega
        have cX := cellsAt_at h12.m
        have sX := h12.m.lt
        have bX : (World.cell? _ ⟨gb, 0, none⟩) = some (.pointer (some ⟨g, 0, none⟩)) := h12.x.cell 0
        have dX := h12.x.lt
        have gX := h12.bw
        have hX := h12.gw
        go_wp2_with fail
        clear cX sX bX dX gX hX
        obtain ⟨wz, hwz⟩ : ∃ W : World, W = w12.setRow w.heap.size #[.int .i64 0, .int .i64 0, .int .i64 0, .int .i64 0, .int .i64 0, .int .i64 0, .int .i64 0, .int .i64 0, .int .i64 0] := ⟨_, rfl⟩
        have xz : Ext w wz := by rw [hwz]; exact (h12.row _).1
        have mz : At wz w.heap.size 25 #[.int .i64 0, .int .i64 0, .int .i64 0, .int .i64 0, .int .i64 0, .int .i64 0, .int .i64 0, .int .i64 0, .int .i64 0] := by rw [hwz]; exact (h12.row _).2
        rw [← hwz]
        clear hwz h12
        have ez := cellsAt_at mz
        have sz := mz.lt
        first | refine fin_ret rfl (fun K hK => ?_) | refine fin_norm rfl (fun K hK => ?_)
        simp [results, Try.results7, go_sem, rsat]
        try go_simp
        refine hK _ ?_
        clear hK K
        exact ⟨xz, zeroC, 4, rfl, by rw [HFIN.out]⟩
      have hr0 : s3.length = 0 := by omega
      have hri : ¬ (0 : Int) < (s3.length : Int) := by omega
      cases hR : rightC cc with
      | false =>
        rw [hR] at CR
        have HCR := Lib.hid CR
        clear CR
        have hfz : finC ⟨2, (vb : Int), (min vd 4611686018427387905 : Nat), 0, 0, 0, 0, 0, 0⟩ s3 f3 = (zeroC, 4) := by rw [HFINL.out]; unfold finC; rw [if_neg (by simp), if_pos (.inr hR)]
        have HFIN := Lib.hid hfz
        have HR0 := Lib.hid hr0
        clear hfz hR hr0
        have cX := cellsAt_at h12.m
        have sX := h12.m.lt
        have bX : (World.cell? _ ⟨gb, 0, none⟩) = some (.pointer (some ⟨g, 0, none⟩)) := h12.x.cell 0
        have dX := h12.x.lt
        have gX := h12.bw
        have hX := h12.gw
        go_wp2_with fail
        clear cX sX bX dX gX hX
        refine (HCR.out _).mono ?_
        rintro e w13 ⟨rfl, x13⟩
        have h13 := h12.extR x13
        clear h12
        have cX := cellsAt_at h13.m
        have sX := h13.m.lt
        have bX : (World.cell? _ ⟨gb, 0, none⟩) = some (.pointer (some ⟨g, 0, none⟩)) := h13.x.cell 0
        have dX := h13.x.lt
        have gX := h13.bw
        have hX := h13.gw
        go_wp2_with fail
        clear cX sX bX dX gX hX
        obtain ⟨wz, hwz⟩ : ∃ W : World, W = w13.setRow w.heap.size #[.int .i64 0, .int .i64 0, .int .i64 0, .int .i64 0, .int .i64 0, .int .i64 0, .int .i64 0, .int .i64 0, .int .i64 0] := ⟨_, rfl⟩
        have xz : Ext w wz := by rw [hwz]; exact (h13.row _).1
        have mz : At wz w.heap.size 25 #[.int .i64 0, .int .i64 0, .int .i64 0, .int .i64 0, .int .i64 0, .int .i64 0, .int .i64 0, .int .i64 0, .int .i64 0] := by rw [hwz]; exact (h13.row _).2
        rw [← hwz]
        clear hwz h13
        have ez := cellsAt_at mz
        have sz := mz.lt
        first | refine fin_ret rfl (fun K hK => ?_) | refine fin_norm rfl (fun K hK => ?_)
        simp [results, Try.results7, go_sem, rsat]
        try go_simp
        refine hK _ ?_
        clear hK K
        exact ⟨xz, zeroC, 4, rfl, by rw [HFIN.out]⟩
      | true =>
        rw [hR] at CR
        have HCR := Lib.hid CR
        clear CR
        have hfz : finC ⟨2, (vb : Int), (min vd 4611686018427387905 : Nat), 0, 0, 0, 0, 0, 0⟩ s3 f3 = (cc, 0) := by rw [HFINL.out]; unfold finC; rw [if_neg (by simp), if_neg (by rintro (h9 | h9); exact absurd h9 hr; rw [hR] at h9; cases h9)]
        have HFIN := Lib.hid hfz
        have HR0 := Lib.hid hr0
        clear hfz hR hr0
        have cX := cellsAt_at h12.m
        have sX := h12.m.lt
        have bX : (World.cell? _ ⟨gb, 0, none⟩) = some (.pointer (some ⟨g, 0, none⟩)) := h12.x.cell 0
        have dX := h12.x.lt
        have gX := h12.bw
        have hX := h12.gw
        go_wp2_with fail
        clear cX sX bX dX gX hX
        refine (HCR.out _).mono ?_
        rintro e w13 ⟨rfl, x13⟩
        have h13 := h12.extR x13
        clear h12
        have cX := cellsAt_at h13.m
        have sX := h13.m.lt
        have bX : (World.cell? _ ⟨gb, 0, none⟩) = some (.pointer (some ⟨g, 0, none⟩)) := h13.x.cell 0
        have dX := h13.x.lt
        have gX := h13.bw
        have hX := h13.gw
        go_wp2_with fail
        clear cX sX bX dX gX hX
        obtain ⟨wz, hwz⟩ : ∃ W : World, W = w13.setRow w.heap.size #[.int .i64 2, .int .i64 (vb : Int), .int .i64 4611686018427387905, .int .i64 0, .int .i64 0, .int .i64 0, .int .i64 0, .int .i64 0, .int .i64 0] := ⟨_, rfl⟩
        have xz : Ext w wz := by rw [hwz]; exact (h13.row _).1
        have mz : At wz w.heap.size 25 #[.int .i64 2, .int .i64 (vb : Int), .int .i64 4611686018427387905, .int .i64 0, .int .i64 0, .int .i64 0, .int .i64 0, .int .i64 0, .int .i64 0] := by rw [hwz]; exact (h13.row _).2
        rw [← hwz]
        clear hwz h13
        have ez := cellsAt_at mz
        have sz := mz.lt
        first | refine fin_ret rfl (fun K hK => ?_) | refine fin_norm rfl (fun K hK => ?_)
        simp [results, Try.results7, go_sem, rsat]
        try go_simp
        refine hK _ ?_
        clear hK K
        exact ⟨xz, cc, 0, by rw [← HCV.out], by rw [HFIN.out]⟩
  · have hfb : (f3 != 0) = true := bne_iff_ne.2 hf
    have hfz : finC ⟨2, (vb : Int), (min vd 4611686018427387905 : Nat), 0, 0, 0, 0, 0, 0⟩ s3 f3 = (zeroC, f3) := by unfold finC; rw [if_pos hf]
    have HFIN := Lib.hid hfz
    clear hfz hf
    have cX := cellsAt_at h10.m
    have sX := h10.m.lt
    have bX : (World.cell? _ ⟨gb, 0, none⟩) = some (.pointer (some ⟨g, 0, none⟩)) := h10.x.cell 0
    have dX := h10.x.lt
    have gX := h10.bw
    have hX := h10.gw
    go_wp2_with fail
    clear cX sX bX dX gX hX
    obtain ⟨wz, hwz⟩ : ∃ W : World, W = w10.setRow w.heap.size #[.int .i64 0, .int .i64 0, .int .i64 0, .int .i64 0, .int .i64 0, .int .i64 0, .int .i64 0, .int .i64 0, .int .i64 0] := ⟨_, rfl⟩
    have xz : Ext w wz := by rw [hwz]; exact (h10.row _).1
    have mz : At wz w.heap.size 25 #[.int .i64 0, .int .i64 0, .int .i64 0, .int .i64 0, .int .i64 0, .int .i64 0, .int .i64 0, .int .i64 0, .int .i64 0] := by rw [hwz]; exact (h10.row _).2
    rw [← hwz]
    clear hwz h10
    have ez := cellsAt_at mz
    have sz := mz.lt
    first | refine fin_ret rfl (fun K hK => ?_) | refine fin_norm rfl (fun K hK => ?_)
    simp [results, Try.results7, go_sem, rsat]
    try go_simp
    refine hK _ ?_
    clear hK K
    exact ⟨xz, zeroC, f3, rfl, by rw [HFIN.out]⟩
set_option maxHeartbeats 8000000 in
set_option maxRecDepth 100000 in
theorem dec3_c (B : Option Addr) (cb : Nat) (bs : List Int) (hb : Byt bs) (hl : bs.length ≤ 1000000000) (w : World) (hS : Src w 1 B bs.length (bc bs)) (s1 s2 s3 : List Int) (f2 f3 : Int) (vb vd : Nat) (e1 : uintR bs 0 1 = (3, s1, 0)) (e2 : uintR s1 0 1 = (vb, s2, f2)) (e3 : numR s2 f2 = (vd, s3, f3)) (s4 s5 : List Int) (f4 f5 : Int) (vp vq : Int) (e4 : (backN (uintR s3 f3 8).1, (uintR s3 f3 8).2) = (vp, s4, f4)) (e5 : (backN (uintR s4 f4 8).1, (uintR s4 f4 8).2) = (vq, s5, f5)) :
    Calls Try.prog 7 #[.slice B bs.length cb] w fun e w' => Ext w w' ∧ ∃ (c : Cm) (f : Int), e = .returned (.tuple #[.agg #[.int .i64 c.kind, .int .i64 c.sym, .int .i64 c.id, .int .i64 c.own, .int .i64 c.side, .int .i64 c.typ, .int .i64 c.price, .int .i64 c.qty, .int .i64 c.flags], .int .i64 f]) ∧ (c, f) = finC ⟨3, (vb : Int), (min vd 4611686018427387905 : Nat), 0, 0, 0, vp, vq, 0⟩ s5 f5 := by
  have C1 := fun W hx => newreader_c B bs cb W (hS.ext hx) hb hl
  have HC1 := Lib.hid C1
  clear C1
  go_enter Try.func7, Try.ntmps7
  go_wp2_with fail
  refine (HC1.out _ (by repeat (first | (with_reducible exact Ext.refl _) | (with_reducible assumption) | (with_reducible refine Ext.alloc ?_ _) | (with_reducible refine Ext.drew ?_) | (with_reducible refine Ext.drewN ?_ _) | (with_reducible refine Ext.setCell ?_ (by simp; try omega) _) | (with_reducible refine Ext.setRow ?_ (by simp; try omega) _)))).mono ?_
  rintro e w1 ⟨hx1, g, A1, rfl, r1, hg, hA⟩
  have xw1 : Ext w w1 := Ext.trans (by repeat (first | (with_reducible exact Ext.refl _) | (with_reducible assumption) | (with_reducible refine Ext.alloc ?_ _) | (with_reducible refine Ext.drew ?_) | (with_reducible refine Ext.drewN ?_ _) | (with_reducible refine Ext.setCell ?_ (by simp; try omega) _) | (with_reducible refine Ext.setRow ?_ (by simp; try omega) _))) hx1
  have M1 : At w1 w.heap.size 25 #[.int .i64 0, .int .i64 0, .int .i64 0, .int .i64 0, .int .i64 0, .int .i64 0, .int .i64 0, .int .i64 0, .int .i64 0] := At.ext (by repeat (first | (with_reducible exact At.new _ _ _) | ((with_reducible refine At.new' _ _ _ _ ?_); simp; done) | (with_reducible assumption) | (with_reducible refine At.drew ?_) | (with_reducible refine At.alloc ?_ _) | (with_reducible apply At.upd) | (with_reducible apply At.setRow) | (with_reducible refine At.rowFar ?_ (by first | (simp; done) | (simp; omega) | omega) _) | ((with_reducible refine At.far ?_ (by first | (simp; done) | (simp; omega) | omega) _)) | (with_reducible rfl) | (simp; done))) hx1
  have hgw : w.heap.size < g := by simp at hg; omega
  have hgl : g < w1.heap.size := r1.ex.choose_spec.1.lt
  have haw : ∀ k ∈ ablk A1, w.heap.size < k := fun k hk => by have := hA k hk; simp at this; omega
  have s1 := M1.lt
  clear hA hg
  go_wp2_with fail
  refine gen_world (fun W => DS w W w1.heap.size g A1 bs 0 #[.int .i64 0, .int .i64 0, .int .i64 0, .int .i64 0, .int .i64 0, .int .i64 0, .int .i64 0, .int .i64 0, .int .i64 0]) ⟨xw1.alloc _, M1.alloc _, At.new _ _ _, r1.alloc _, haw, hgw, by omega, by omega⟩ (fun w2 h2 => ?_)
  generalize w1.heap.size = gb at *
  clear M1 r1 hgl s1 HC1 hx1 xw1
  have c2 : w2.cell? ⟨gb, 0, none⟩ = some (.pointer (some ⟨g, 0, none⟩)) := h2.x.cell 0
  have hbl := h2.x.lt
  refine wp_region_x 6 [1, 0, 1, 0, 0, 0] (by kernel_rfl) (by kernel_rfl) (by kernel_rfl) ?_
  simp only [List.take_succ_cons, List.take_zero, List.drop_succ_cons, List.drop_zero]
  refine hl_quiet (fun K hK => ?_)
  go_simp
  refine hK _ ?_
  clear hK K
  refine hl_pure (fun K hK => ?_)
  go_simp
  refine hK _ ?_
  clear hK K
  refine hl_quiet (fun K hK => ?_)
  go_simp
  refine hK _ ?_
  clear hK K
  refine hl_pure (fun K hK => ?_)
  go_simp
  refine hK _ ?_
  clear hK K
  refine hl_pure (fun K hK => ?_)
  go_simp
  refine hK _ ?_
  clear hK K
  refine hl_pure (fun K hK => ?_)
  go_simp
  refine hK _ ?_
  clear hK K
  refine hl_nil ?_
  intro w3 hx3 K hK
  have h3 := h2.extR hx3
  clear h2 c2 hbl
  have cX := cellsAt_at h3.m
  have sX := h3.m.lt
  have bX : (World.cell? _ ⟨gb, 0, none⟩) = some (.pointer (some ⟨g, 0, none⟩)) := h3.x.cell 0
  have dX := h3.x.lt
  have gX := h3.bw
  have hX := h3.gw
  go_wp2_with fail
  clear cX sX bX dX gX hX
  have C4 := one_c gb g A1 _ _ _ h3.x h3.r
  rw [e1] at C4
  simp only at C4
  refine C4.mono ?_
  rintro e w4 ⟨rfl, B4, r4⟩
  have h4 := h3.read r4
  clear C4 r4 h3
  have cX := cellsAt_at h4.m
  have sX := h4.m.lt
  have bX : (World.cell? _ ⟨gb, 0, none⟩) = some (.pointer (some ⟨g, 0, none⟩)) := h4.x.cell 0
  have dX := h4.x.lt
  have gX := h4.bw
  have hX := h4.gw
  go_wp2_with fail
  clear cX sX bX dX gX hX
  obtain ⟨w5, hw5⟩ : ∃ W : World, W = (w4.setCell ⟨w.heap.size, 0, none⟩ (.int .i64 3)) := ⟨_, rfl⟩
  have h5 : DS w w5 gb g B4 s1 0 #[.int .i64 3, .int .i64 0, .int .i64 0, .int .i64 0, .int .i64 0, .int .i64 0, .int .i64 0, .int .i64 0, .int .i64 0] := by rw [hw5]; exact (h4.store 0 _)
  rw [← hw5]
  clear hw5 h4
  refine (fault_c g B4 _ _ _ h5.r).mono ?_
  rintro e w6 ⟨rfl, x6⟩
  have h6 := h5.extR x6
  clear h5
  have cX := cellsAt_at h6.m
  have sX := h6.m.lt
  have bX : (World.cell? _ ⟨gb, 0, none⟩) = some (.pointer (some ⟨g, 0, none⟩)) := h6.x.cell 0
  have dX := h6.x.lt
  have gX := h6.bw
  have hX := h6.gw
  go_wp2_with fail
  clear cX sX bX dX gX hX
  have C7 := one_c gb g B4 _ _ _ h6.x h6.r
  rw [e2] at C7
  simp only at C7
  refine C7.mono ?_
  rintro e w7 ⟨rfl, B7, r7⟩
  have h7 := h6.read r7
  clear C7 r7 h6
  have cX := cellsAt_at h7.m
  have sX := h7.m.lt
  have bX : (World.cell? _ ⟨gb, 0, none⟩) = some (.pointer (some ⟨g, 0, none⟩)) := h7.x.cell 0
  have dX := h7.x.lt
  have gX := h7.bw
  have hX := h7.gw
  go_wp2_with fail
  clear cX sX bX dX gX hX
  obtain ⟨w8, hw8⟩ : ∃ W : World, W = (w7.setCell ⟨w.heap.size, 1, none⟩ (.int .i64 (vb : Int))) := ⟨_, rfl⟩
  have h8 : DS w w8 gb g B7 s2 f2 #[.int .i64 3, .int .i64 (vb : Int), .int .i64 0, .int .i64 0, .int .i64 0, .int .i64 0, .int .i64 0, .int .i64 0, .int .i64 0] := by rw [hw8]; exact (h7.store 1 _)
  rw [← hw8]
  clear hw8 h7
  have C9 := rdnum_c g B7 _ _ _ h8.r
  rw [e3] at C9
  simp only at C9
  refine C9.mono ?_
  rintro e w9 ⟨rfl, B9, r9⟩
  have h9 := h8.read r9
  clear C9 r9 h8
  have cX := cellsAt_at h9.m
  have sX := h9.m.lt
  have bX : (World.cell? _ ⟨gb, 0, none⟩) = some (.pointer (some ⟨g, 0, none⟩)) := h9.x.cell 0
  have dX := h9.x.lt
  have gX := h9.bw
  have hX := h9.gw
  go_wp2_with fail
  clear cX sX bX dX gX hX
  have C10 := rdint_c g B9 _ _ _ h9.r
  have E10 := Prod.ext_iff.1 e4
  simp only at E10
  rw [E10.1, E10.2] at C10
  simp only at C10
  refine C10.mono ?_
  rintro e w10 ⟨rfl, B10, r10⟩
  have h10 := h9.read r10
  clear C10 r10 h9
  have cX := cellsAt_at h10.m
  have sX := h10.m.lt
  have bX : (World.cell? _ ⟨gb, 0, none⟩) = some (.pointer (some ⟨g, 0, none⟩)) := h10.x.cell 0
  have dX := h10.x.lt
  have gX := h10.bw
  have hX := h10.gw
  go_wp2_with fail
  clear cX sX bX dX gX hX
  have C11 := rdint_c g B10 _ _ _ h10.r
  have E11 := Prod.ext_iff.1 e5
  simp only at E11
  rw [E11.1, E11.2] at C11
  simp only at C11
  refine C11.mono ?_
  rintro e w11 ⟨rfl, B11, r11⟩
  have h11 := h10.read r11
  clear C11 r11 h10
  have cX := cellsAt_at h11.m
  have sX := h11.m.lt
  have bX : (World.cell? _ ⟨gb, 0, none⟩) = some (.pointer (some ⟨g, 0, none⟩)) := h11.x.cell 0
  have dX := h11.x.lt
  have gX := h11.bw
  have hX := h11.gw
  go_wp2_with fail
  clear cX sX bX dX gX hX
  obtain ⟨w12, hw12⟩ : ∃ W : World, W = ((w11.setCell ⟨w.heap.size, 6, none⟩ (.int .i64 vp)).setCell ⟨w.heap.size, 7, none⟩ (.int .i64 vq)) := ⟨_, rfl⟩
  have h12 : DS w w12 gb g B11 s5 f5 #[.int .i64 3, .int .i64 (vb : Int), .int .i64 0, .int .i64 0, .int .i64 0, .int .i64 0, .int .i64 vp, .int .i64 vq, .int .i64 0] := by rw [hw12]; exact ((h11.store 6 _).store 7 _)
  rw [← hw12]
  clear hw12 h11
  refine (fault_c g B11 _ _ _ h12.r).mono ?_
  rintro e w13 ⟨rfl, x13⟩
  have h13 := h12.extR x13
  clear h12
  by_cases hf : f5 = 0
  · have hfb : (f5 != 0) = false := by simp [hf]
    have HF := Lib.hid hf
    clear hf
    by_cases hv2 : vd ≤ 4611686018427387905
    · have ew2 : IntKind.i64.wrap (vd : Int) = (vd : Int) := by rw [IntWalk.i64_left, wrap64_in ⟨by omega, by omega⟩]
      have hm2 : ((min vd 4611686018427387905 : Nat) : Int) = (vd : Int) := by rw [Nat.min_eq_left hv2]
      have HM2 := Lib.hid hm2
      clear hm2
      have hvi2 : (vd : Int) ≤ 4611686018427387905 := by omega
      have cX := cellsAt_at h13.m
      have sX := h13.m.lt
      have bX : (World.cell? _ ⟨gb, 0, none⟩) = some (.pointer (some ⟨g, 0, none⟩)) := h13.x.cell 0
      have dX := h13.x.lt
      have gX := h13.bw
      have hX := h13.gw
      go_wp2_with fail
      clear cX sX bX dX gX hX
      obtain ⟨w14, hw14⟩ : ∃ W : World, W = ((w13.setCell ⟨w.heap.size, 2, none⟩ (.int .i64 (vd : Int))).setCell ⟨w.heap.size, 3, none⟩ (.int .i64 0)) := ⟨_, rfl⟩
      have h14 : DS w w14 gb g B11 s5 f5 #[.int .i64 3, .int .i64 (vb : Int), .int .i64 (vd : Int), .int .i64 0, .int .i64 0, .int .i64 0, .int .i64 vp, .int .i64 vq, .int .i64 0] := by rw [hw14]; exact ((h13.store 2 _).store 3 _)
      rw [← hw14]
      clear hw14 h13
      refine (left_c g B11 _ _ _ h14.r).mono ?_
      rintro e w15 ⟨rfl, x15⟩
      have h15 := h14.extR x15
      clear h14
      obtain ⟨cc, hcc⟩ : ∃ cc : Cm, cc = (⟨3, (vb : Int), (vd : Int), 0, 0, 0, vp, vq, 0⟩ : Cm) := ⟨_, rfl⟩
      have hfin : finC ⟨3, (vb : Int), (min vd 4611686018427387905 : Nat), 0, 0, 0, vp, vq, 0⟩ s5 f5 = finC cc s5 0 := by rw [HM2.out, HF.out, hcc]
      have HFINL := Lib.hid hfin
      clear hfin
      have CR := cright_c cc
      have hcv : (#[.int .i64 3, .int .i64 (vb : Int), .int .i64 (vd : Int), .int .i64 0, .int .i64 0, .int .i64 0, .int .i64 vp, .int .i64 vq, .int .i64 0] : Array Value) = #[.int .i64 cc.kind, .int .i64 cc.sym, .int .i64 cc.id, .int .i64 cc.own, .int .i64 cc.side, .int .i64 cc.typ, .int .i64 cc.price, .int .i64 cc.qty, .int .i64 cc.flags] := by rw [hcc]
      rw [← hcv] at CR
      have HCV := Lib.hid hcv
      clear hcv
      by_cases hr : 0 < s5.length
      · have hfz : finC ⟨3, (vb : Int), (min vd 4611686018427387905 : Nat), 0, 0, 0, vp, vq, 0⟩ s5 f5 = (zeroC, 4) := by rw [HFINL.out]; unfold finC; rw [if_neg (by simp), if_pos (.inl hr)]
        have HFIN := Lib.hid hfz
        clear hfz CR
        have hri : (0 : Int) < (s5.length : Int) := by omega
        have cX := cellsAt_at h15.m
        have sX := h15.m.lt
        have bX : (World.cell? _ ⟨gb, 0, none⟩) = some (.pointer (some ⟨g, 0, none⟩)) := h15.x.cell 0
        have dX := h15.x.lt
        have gX := h15.bw
        have hX := h15.gw
        go_wp2_with fail
        clear cX sX bX dX gX hX
        obtain ⟨wz, hwz⟩ : ∃ W : World, W = w15.setRow w.heap.size #[.int .i64 0, .int .i64 0, .int .i64 0, .int .i64 0, .int .i64 0, .int .i64 0, .int .i64 0, .int .i64 0, .int .i64 0] := ⟨_, rfl⟩
        have xz : Ext w wz := by rw [hwz]; exact (h15.row _).1
        have mz : At wz w.heap.size 25 #[.int .i64 0, .int .i64 0, .int .i64 0, .int .i64 0, .int .i64 0, .int .i64 0, .int .i64 0, .int .i64 0, .int .i64 0] := by rw [hwz]; exact (h15.row _).2
        rw [← hwz]
        clear hwz h15
        have ez := cellsAt_at mz
        have sz := mz.lt
        first | refine fin_ret rfl (fun K hK => ?_) | refine fin_norm rfl (fun K hK => ?_)
        simp [results, Try.results7, go_sem, rsat]
        try go_simp
        refine hK _ ?_
        clear hK K
        exact ⟨xz, zeroC, 4, rfl, by rw [HFIN.out]⟩
      have hr0 : s5.length = 0 := by omega
      have hri : ¬ (0 : Int) < (s5.length : Int) := by omega
      cases hR : rightC cc with
      | false =>
        rw [hR] at CR
        have HCR := Lib.hid CR
        clear CR
        have hfz : finC ⟨3, (vb : Int), (min vd 4611686018427387905 : Nat), 0, 0, 0, vp, vq, 0⟩ s5 f5 = (zeroC, 4) := by rw [HFINL.out]; unfold finC; rw [if_neg (by simp), if_pos (.inr hR)]
        have HFIN := Lib.hid hfz
        have HR0 := Lib.hid hr0
        clear hfz hR hr0
        have cX := cellsAt_at h15.m
        have sX := h15.m.lt
        have bX : (World.cell? _ ⟨gb, 0, none⟩) = some (.pointer (some ⟨g, 0, none⟩)) := h15.x.cell 0
        have dX := h15.x.lt
        have gX := h15.bw
        have hX := h15.gw
        go_wp2_with fail
        clear cX sX bX dX gX hX
        refine (HCR.out _).mono ?_
        rintro e w16 ⟨rfl, x16⟩
        have h16 := h15.extR x16
        clear h15
        have cX := cellsAt_at h16.m
        have sX := h16.m.lt
        have bX : (World.cell? _ ⟨gb, 0, none⟩) = some (.pointer (some ⟨g, 0, none⟩)) := h16.x.cell 0
        have dX := h16.x.lt
        have gX := h16.bw
        have hX := h16.gw
        go_wp2_with fail
        clear cX sX bX dX gX hX
        obtain ⟨wz, hwz⟩ : ∃ W : World, W = w16.setRow w.heap.size #[.int .i64 0, .int .i64 0, .int .i64 0, .int .i64 0, .int .i64 0, .int .i64 0, .int .i64 0, .int .i64 0, .int .i64 0] := ⟨_, rfl⟩
        have xz : Ext w wz := by rw [hwz]; exact (h16.row _).1
        have mz : At wz w.heap.size 25 #[.int .i64 0, .int .i64 0, .int .i64 0, .int .i64 0, .int .i64 0, .int .i64 0, .int .i64 0, .int .i64 0, .int .i64 0] := by rw [hwz]; exact (h16.row _).2
        rw [← hwz]
        clear hwz h16
        have ez := cellsAt_at mz
        have sz := mz.lt
        first | refine fin_ret rfl (fun K hK => ?_) | refine fin_norm rfl (fun K hK => ?_)
        simp [results, Try.results7, go_sem, rsat]
        try go_simp
        refine hK _ ?_
        clear hK K
        exact ⟨xz, zeroC, 4, rfl, by rw [HFIN.out]⟩
      | true =>
        rw [hR] at CR
        have HCR := Lib.hid CR
        clear CR
        have hfz : finC ⟨3, (vb : Int), (min vd 4611686018427387905 : Nat), 0, 0, 0, vp, vq, 0⟩ s5 f5 = (cc, 0) := by rw [HFINL.out]; unfold finC; rw [if_neg (by simp), if_neg (by rintro (h9 | h9); exact absurd h9 hr; rw [hR] at h9; cases h9)]
        have HFIN := Lib.hid hfz
        have HR0 := Lib.hid hr0
        clear hfz hR hr0
        have cX := cellsAt_at h15.m
        have sX := h15.m.lt
        have bX : (World.cell? _ ⟨gb, 0, none⟩) = some (.pointer (some ⟨g, 0, none⟩)) := h15.x.cell 0
        have dX := h15.x.lt
        have gX := h15.bw
        have hX := h15.gw
        go_wp2_with fail
        clear cX sX bX dX gX hX
        refine (HCR.out _).mono ?_
        rintro e w16 ⟨rfl, x16⟩
        have h16 := h15.extR x16
        clear h15
        have cX := cellsAt_at h16.m
        have sX := h16.m.lt
        have bX : (World.cell? _ ⟨gb, 0, none⟩) = some (.pointer (some ⟨g, 0, none⟩)) := h16.x.cell 0
        have dX := h16.x.lt
        have gX := h16.bw
        have hX := h16.gw
        go_wp2_with fail
        clear cX sX bX dX gX hX
        obtain ⟨wz, hwz⟩ : ∃ W : World, W = w16.setRow w.heap.size #[.int .i64 3, .int .i64 (vb : Int), .int .i64 (vd : Int), .int .i64 0, .int .i64 0, .int .i64 0, .int .i64 vp, .int .i64 vq, .int .i64 0] := ⟨_, rfl⟩
        have xz : Ext w wz := by rw [hwz]; exact (h16.row _).1
        have mz : At wz w.heap.size 25 #[.int .i64 3, .int .i64 (vb : Int), .int .i64 (vd : Int), .int .i64 0, .int .i64 0, .int .i64 0, .int .i64 vp, .int .i64 vq, .int .i64 0] := by rw [hwz]; exact (h16.row _).2
        rw [← hwz]
        clear hwz h16
        have ez := cellsAt_at mz
        have sz := mz.lt
        first | refine fin_ret rfl (fun K hK => ?_) | refine fin_norm rfl (fun K hK => ?_)
        simp [results, Try.results7, go_sem, rsat]
        try go_simp
        refine hK _ ?_
        clear hK K
        exact ⟨xz, cc, 0, by rw [← HCV.out], by rw [HFIN.out]⟩
    · have hm2 : ((min vd 4611686018427387905 : Nat) : Int) = 4611686018427387905 := by rw [Nat.min_eq_right (by omega)]; rfl
      have HM2 := Lib.hid hm2
      clear hm2
      have hvi2 : 4611686018427387905 < (vd : Int) := by omega
      have cX := cellsAt_at h13.m
      have sX := h13.m.lt
      have bX : (World.cell? _ ⟨gb, 0, none⟩) = some (.pointer (some ⟨g, 0, none⟩)) := h13.x.cell 0
      have dX := h13.x.lt
      have gX := h13.bw
      have hX := h13.gw
      go_wp2_with fail
      clear cX sX bX dX gX hX
      obtain ⟨w14, hw14⟩ : ∃ W : World, W = ((w13.setCell ⟨w.heap.size, 2, none⟩ (.int .i64 4611686018427387905)).setCell ⟨w.heap.size, 3, none⟩ (.int .i64 0)) := ⟨_, rfl⟩
      have h14 : DS w w14 gb g B11 s5 f5 #[.int .i64 3, .int .i64 (vb : Int), .int .i64 4611686018427387905, .int .i64 0, .int .i64 0, .int .i64 0, .int .i64 vp, .int .i64 vq, .int .i64 0] := by rw [hw14]; exact ((h13.store 2 _).store 3 _)
      rw [← hw14]
      clear hw14 h13
      refine (left_c g B11 _ _ _ h14.r).mono ?_
      rintro e w15 ⟨rfl, x15⟩
      have h15 := h14.extR x15
      clear h14
      obtain ⟨cc, hcc⟩ : ∃ cc : Cm, cc = (⟨3, (vb : Int), 4611686018427387905, 0, 0, 0, vp, vq, 0⟩ : Cm) := ⟨_, rfl⟩
      have hfin : finC ⟨3, (vb : Int), (min vd 4611686018427387905 : Nat), 0, 0, 0, vp, vq, 0⟩ s5 f5 = finC cc s5 0 := by rw [HM2.out, HF.out, hcc]
      have HFINL := Lib.hid hfin
      clear hfin
      have CR := cright_c cc
      have hcv : (#[.int .i64 3, .int .i64 (vb : Int), .int .i64 4611686018427387905, .int .i64 0, .int .i64 0, .int .i64 0, .int .i64 vp, .int .i64 vq, .int .i64 0] : Array Value) = #[.int .i64 cc.kind, .int .i64 cc.sym, .int .i64 cc.id, .int .i64 cc.own, .int .i64 cc.side, .int .i64 cc.typ, .int .i64 cc.price, .int .i64 cc.qty, .int .i64 cc.flags] := by rw [hcc]
      rw [← hcv] at CR
      have HCV := Lib.hid hcv
      clear hcv
      by_cases hr : 0 < s5.length
      · have hfz : finC ⟨3, (vb : Int), (min vd 4611686018427387905 : Nat), 0, 0, 0, vp, vq, 0⟩ s5 f5 = (zeroC, 4) := by rw [HFINL.out]; unfold finC; rw [if_neg (by simp), if_pos (.inl hr)]
        have HFIN := Lib.hid hfz
        clear hfz CR
        have hri : (0 : Int) < (s5.length : Int) := by omega
        have cX := cellsAt_at h15.m
        have sX := h15.m.lt
        have bX : (World.cell? _ ⟨gb, 0, none⟩) = some (.pointer (some ⟨g, 0, none⟩)) := h15.x.cell 0
        have dX := h15.x.lt
        have gX := h15.bw
        have hX := h15.gw
        go_wp2_with fail
        clear cX sX bX dX gX hX
        obtain ⟨wz, hwz⟩ : ∃ W : World, W = w15.setRow w.heap.size #[.int .i64 0, .int .i64 0, .int .i64 0, .int .i64 0, .int .i64 0, .int .i64 0, .int .i64 0, .int .i64 0, .int .i64 0] := ⟨_, rfl⟩
        have xz : Ext w wz := by rw [hwz]; exact (h15.row _).1
        have mz : At wz w.heap.size 25 #[.int .i64 0, .int .i64 0, .int .i64 0, .int .i64 0, .int .i64 0, .int .i64 0, .int .i64 0, .int .i64 0, .int .i64 0] := by rw [hwz]; exact (h15.row _).2
        rw [← hwz]
        clear hwz h15
        have ez := cellsAt_at mz
        have sz := mz.lt
        first | refine fin_ret rfl (fun K hK => ?_) | refine fin_norm rfl (fun K hK => ?_)
        simp [results, Try.results7, go_sem, rsat]
        try go_simp
        refine hK _ ?_
        clear hK K
        exact ⟨xz, zeroC, 4, rfl, by rw [HFIN.out]⟩
      have hr0 : s5.length = 0 := by omega
      have hri : ¬ (0 : Int) < (s5.length : Int) := by omega
      cases hR : rightC cc with
      | false =>
        rw [hR] at CR
        have HCR := Lib.hid CR
        clear CR
        have hfz : finC ⟨3, (vb : Int), (min vd 4611686018427387905 : Nat), 0, 0, 0, vp, vq, 0⟩ s5 f5 = (zeroC, 4) := by rw [HFINL.out]; unfold finC; rw [if_neg (by simp), if_pos (.inr hR)]
        have HFIN := Lib.hid hfz
        have HR0 := Lib.hid hr0
        clear hfz hR hr0
        have cX := cellsAt_at h15.m
        have sX := h15.m.lt
        have bX : (World.cell? _ ⟨gb, 0, none⟩) = some (.pointer (some ⟨g, 0, none⟩)) := h15.x.cell 0
        have dX := h15.x.lt
        have gX := h15.bw
        have hX := h15.gw
        go_wp2_with fail
        clear cX sX bX dX gX hX
        refine (HCR.out _).mono ?_
        rintro e w16 ⟨rfl, x16⟩
        have h16 := h15.extR x16
        clear h15
        have cX := cellsAt_at h16.m
        have sX := h16.m.lt
        have bX : (World.cell? _ ⟨gb, 0, none⟩) = some (.pointer (some ⟨g, 0, none⟩)) := h16.x.cell 0
        have dX := h16.x.lt
        have gX := h16.bw
        have hX := h16.gw
        go_wp2_with fail
        clear cX sX bX dX gX hX
        obtain ⟨wz, hwz⟩ : ∃ W : World, W = w16.setRow w.heap.size #[.int .i64 0, .int .i64 0, .int .i64 0, .int .i64 0, .int .i64 0, .int .i64 0, .int .i64 0, .int .i64 0, .int .i64 0] := ⟨_, rfl⟩
        have xz : Ext w wz := by rw [hwz]; exact (h16.row _).1
        have mz : At wz w.heap.size 25 #[.int .i64 0, .int .i64 0, .int .i64 0, .int .i64 0, .int .i64 0, .int .i64 0, .int .i64 0, .int .i64 0, .int .i64 0] := by rw [hwz]; exact (h16.row _).2
        rw [← hwz]
        clear hwz h16
        have ez := cellsAt_at mz
        have sz := mz.lt
        first | refine fin_ret rfl (fun K hK => ?_) | refine fin_norm rfl (fun K hK => ?_)
        simp [results, Try.results7, go_sem, rsat]
        try go_simp
        refine hK _ ?_
        clear hK K
        exact ⟨xz, zeroC, 4, rfl, by rw [HFIN.out]⟩
      | true =>
        rw [hR] at CR
        have HCR := Lib.hid CR
        clear CR
        have hfz : finC ⟨3, (vb : Int), (min vd 4611686018427387905 : Nat), 0, 0, 0, vp, vq, 0⟩ s5 f5 = (cc, 0) := by rw [HFINL.out]; unfold finC; rw [if_neg (by simp), if_neg (by rintro (h9 | h9); exact absurd h9 hr; rw [hR] at h9; cases h9)]
        have HFIN := Lib.hid hfz
        have HR0 := Lib.hid hr0
        clear hfz hR hr0
        have cX := cellsAt_at h15.m
        have sX := h15.m.lt
        have bX : (World.cell? _ ⟨gb, 0, none⟩) = some (.pointer (some ⟨g, 0, none⟩)) := h15.x.cell 0
        have dX := h15.x.lt
        have gX := h15.bw
        have hX := h15.gw
        go_wp2_with fail
        clear cX sX bX dX gX hX
        refine (HCR.out _).mono ?_
        rintro e w16 ⟨rfl, x16⟩
        have h16 := h15.extR x16
        clear h15
        have cX := cellsAt_at h16.m
        have sX := h16.m.lt
        have bX : (World.cell? _ ⟨gb, 0, none⟩) = some (.pointer (some ⟨g, 0, none⟩)) := h16.x.cell 0
        have dX := h16.x.lt
        have gX := h16.bw
        have hX := h16.gw
        go_wp2_with fail
        clear cX sX bX dX gX hX
        obtain ⟨wz, hwz⟩ : ∃ W : World, W = w16.setRow w.heap.size #[.int .i64 3, .int .i64 (vb : Int), .int .i64 4611686018427387905, .int .i64 0, .int .i64 0, .int .i64 0, .int .i64 vp, .int .i64 vq, .int .i64 0] := ⟨_, rfl⟩
        have xz : Ext w wz := by rw [hwz]; exact (h16.row _).1
        have mz : At wz w.heap.size 25 #[.int .i64 3, .int .i64 (vb : Int), .int .i64 4611686018427387905, .int .i64 0, .int .i64 0, .int .i64 0, .int .i64 vp, .int .i64 vq, .int .i64 0] := by rw [hwz]; exact (h16.row _).2
        rw [← hwz]
        clear hwz h16
        have ez := cellsAt_at mz
        have sz := mz.lt
        first | refine fin_ret rfl (fun K hK => ?_) | refine fin_norm rfl (fun K hK => ?_)
        simp [results, Try.results7, go_sem, rsat]
        try go_simp
        refine hK _ ?_
        clear hK K
        exact ⟨xz, cc, 0, by rw [← HCV.out], by rw [HFIN.out]⟩
  · have hfb : (f5 != 0) = true := bne_iff_ne.2 hf
    have hfz : finC ⟨3, (vb : Int), (min vd 4611686018427387905 : Nat), 0, 0, 0, vp, vq, 0⟩ s5 f5 = (zeroC, f5) := by unfold finC; rw [if_pos hf]
    have HFIN := Lib.hid hfz
    clear hfz hf
    have cX := cellsAt_at h13.m
    have sX := h13.m.lt
    have bX : (World.cell? _ ⟨gb, 0, none⟩) = some (.pointer (some ⟨g, 0, none⟩)) := h13.x.cell 0
    have dX := h13.x.lt
    have gX := h13.bw
    have hX := h13.gw
    go_wp2_with fail
    clear cX sX bX dX gX hX
    obtain ⟨wz, hwz⟩ : ∃ W : World, W = w13.setRow w.heap.size #[.int .i64 0, .int .i64 0, .int .i64 0, .int .i64 0, .int .i64 0, .int .i64 0, .int .i64 0, .int .i64 0, .int .i64 0] := ⟨_, rfl⟩
    have xz : Ext w wz := by rw [hwz]; exact (h13.row _).1
    have mz : At wz w.heap.size 25 #[.int .i64 0, .int .i64 0, .int .i64 0, .int .i64 0, .int .i64 0, .int .i64 0, .int .i64 0, .int .i64 0, .int .i64 0] := by rw [hwz]; exact (h13.row _).2
    rw [← hwz]
    clear hwz h13
    have ez := cellsAt_at mz
    have sz := mz.lt
    first | refine fin_ret rfl (fun K hK => ?_) | refine fin_norm rfl (fun K hK => ?_)
    simp [results, Try.results7, go_sem, rsat]
    try go_simp
    refine hK _ ?_
    clear hK K
    exact ⟨xz, zeroC, f5, rfl, by rw [HFIN.out]⟩
set_option maxHeartbeats 8000000 in
set_option maxRecDepth 100000 in
theorem dec1_c (B : Option Addr) (cb : Nat) (bs : List Int) (hb : Byt bs) (hl : bs.length ≤ 1000000000) (w : World) (hS : Src w 1 B bs.length (bc bs)) (s1 s2 s3 : List Int) (f2 f3 : Int) (vb vd : Nat) (e1 : uintR bs 0 1 = (1, s1, 0)) (e2 : uintR s1 0 1 = (vb, s2, f2)) (e3 : numR s2 f2 = (vd, s3, f3)) (s4 s5 s6 s7 : List Int) (f4 f5 f6 f7 : Int) (vo vs vt vg : Nat) (e4 : numR s3 f3 = (vo, s4, f4)) (e5 : uintR s4 f4 1 = (vs, s5, f5)) (e6 : uintR s5 f5 1 = (vt, s6, f6)) (e7 : uintR s6 f6 1 = (vg, s7, f7)) (s8 s9 : List Int) (f8 f9 : Int) (vp vq : Int) (e8 : (backN (uintR s7 f7 8).1, (uintR s7 f7 8).2) = (vp, s8, f8)) (e9 : (backN (uintR s8 f8 8).1, (uintR s8 f8 8).2) = (vq, s9, f9)) :
    Calls Try.prog 7 #[.slice B bs.length cb] w fun e w' => Ext w w' ∧ ∃ (c : Cm) (f : Int), e = .returned (.tuple #[.agg #[.int .i64 c.kind, .int .i64 c.sym, .int .i64 c.id, .int .i64 c.own, .int .i64 c.side, .int .i64 c.typ, .int .i64 c.price, .int .i64 c.qty, .int .i64 c.flags], .int .i64 f]) ∧ (c, f) = finC ⟨1, (vb : Int), (min vd 4611686018427387905 : Nat), (min vo 1073741825 : Nat), (vs : Int), (vt : Int), vp, vq, (vg : Int)⟩ s9 f9 := by
  have C1 := fun W hx => newreader_c B bs cb W (hS.ext hx) hb hl
  have HC1 := Lib.hid C1
  clear C1
  go_enter Try.func7, Try.ntmps7
  go_wp2_with fail
  refine (HC1.out _ (by repeat (first | (with_reducible exact Ext.refl _) | (with_reducible assumption) | (with_reducible refine Ext.alloc ?_ _) | (with_reducible refine Ext.drew ?_) | (with_reducible refine Ext.drewN ?_ _) | (with_reducible refine Ext.setCell ?_ (by simp; try omega) _) | (with_reducible refine Ext.setRow ?_ (by simp; try omega) _)))).mono ?_
  rintro e w1 ⟨hx1, g, A1, rfl, r1, hg, hA⟩
  have xw1 : Ext w w1 := Ext.trans (by repeat (first | (with_reducible exact Ext.refl _) | (with_reducible assumption) | (with_reducible refine Ext.alloc ?_ _) | (with_reducible refine Ext.drew ?_) | (with_reducible refine Ext.drewN ?_ _) | (with_reducible refine Ext.setCell ?_ (by simp; try omega) _) | (with_reducible refine Ext.setRow ?_ (by simp; try omega) _))) hx1
  have M1 : At w1 w.heap.size 25 #[.int .i64 0, .int .i64 0, .int .i64 0, .int .i64 0, .int .i64 0, .int .i64 0, .int .i64 0, .int .i64 0, .int .i64 0] := At.ext (by repeat (first | (with_reducible exact At.new _ _ _) | ((with_reducible refine At.new' _ _ _ _ ?_); simp; done) | (with_reducible assumption) | (with_reducible refine At.drew ?_) | (with_reducible refine At.alloc ?_ _) | (with_reducible apply At.upd) | (with_reducible apply At.setRow) | (with_reducible refine At.rowFar ?_ (by first | (simp; done) | (simp; omega) | omega) _) | ((with_reducible refine At.far ?_ (by first | (simp; done) | (simp; omega) | omega) _)) | (with_reducible rfl) | (simp; done))) hx1
  have hgw : w.heap.size < g := by simp at hg; omega
  have hgl : g < w1.heap.size := r1.ex.choose_spec.1.lt
  have haw : ∀ k ∈ ablk A1, w.heap.size < k := fun k hk => by have := hA k hk; simp at this; omega
  have s1 := M1.lt
  clear hA hg
  go_wp2_with fail
  refine gen_world (fun W => DS w W w1.heap.size g A1 bs 0 #[.int .i64 0, .int .i64 0, .int .i64 0, .int .i64 0, .int .i64 0, .int .i64 0, .int .i64 0, .int .i64 0, .int .i64 0]) ⟨xw1.alloc _, M1.alloc _, At.new _ _ _, r1.alloc _, haw, hgw, by omega, by omega⟩ (fun w2 h2 => ?_)
  generalize w1.heap.size = gb at *
  clear M1 r1 hgl s1 HC1 hx1 xw1
  have c2 : w2.cell? ⟨gb, 0, none⟩ = some (.pointer (some ⟨g, 0, none⟩)) := h2.x.cell 0
  have hbl := h2.x.lt
  refine wp_region_x 6 [1, 0, 1, 0, 0, 0] (by kernel_rfl) (by kernel_rfl) (by kernel_rfl) ?_
  simp only [List.take_succ_cons, List.take_zero, List.drop_succ_cons, List.drop_zero]
  refine hl_quiet (fun K hK => ?_)
  go_simp
  refine hK _ ?_
  clear hK K
  refine hl_pure (fun K hK => ?_)
  go_simp
  refine hK _ ?_
  clear hK K
  refine hl_quiet (fun K hK => ?_)
  go_simp
  refine hK _ ?_
  clear hK K
  refine hl_pure (fun K hK => ?_)
  go_simp
  refine hK _ ?_
  clear hK K
  refine hl_pure (fun K hK => ?_)
  go_simp
  refine hK _ ?_
  clear hK K
  refine hl_pure (fun K hK => ?_)
  go_simp
  refine hK _ ?_
  clear hK K
  refine hl_nil ?_
  intro w3 hx3 K hK
  have h3 := h2.extR hx3
  clear h2 c2 hbl
  have cX := cellsAt_at h3.m
  have sX := h3.m.lt
  have bX : (World.cell? _ ⟨gb, 0, none⟩) = some (.pointer (some ⟨g, 0, none⟩)) := h3.x.cell 0
  have dX := h3.x.lt
  have gX := h3.bw
  have hX := h3.gw
  go_wp2_with fail
  clear cX sX bX dX gX hX
  have C4 := one_c gb g A1 _ _ _ h3.x h3.r
  rw [e1] at C4
  simp only at C4
  refine C4.mono ?_
  rintro e w4 ⟨rfl, B4, r4⟩
  have h4 := h3.read r4
  clear C4 r4 h3
  have cX := cellsAt_at h4.m
  have sX := h4.m.lt
  have bX : (World.cell? _ ⟨gb, 0, none⟩) = some (.pointer (some ⟨g, 0, none⟩)) := h4.x.cell 0
  have dX := h4.x.lt
  have gX := h4.bw
  have hX := h4.gw
  go_wp2_with fail
  clear cX sX bX dX gX hX
  obtain ⟨w5, hw5⟩ : ∃ W : World, W = (w4.setCell ⟨w.heap.size, 0, none⟩ (.int .i64 1)) := ⟨_, rfl⟩
  have h5 : DS w w5 gb g B4 s1 0 #[.int .i64 1, .int .i64 0, .int .i64 0, .int .i64 0, .int .i64 0, .int .i64 0, .int .i64 0, .int .i64 0, .int .i64 0] := by rw [hw5]; exact (h4.store 0 _)
  rw [← hw5]
  clear hw5 h4
  refine (fault_c g B4 _ _ _ h5.r).mono ?_
  rintro e w6 ⟨rfl, x6⟩
  have h6 := h5.extR x6
  clear h5
  have cX := cellsAt_at h6.m
  have sX := h6.m.lt
  have bX : (World.cell? _ ⟨gb, 0, none⟩) = some (.pointer (some ⟨g, 0, none⟩)) := h6.x.cell 0
  have dX := h6.x.lt
  have gX := h6.bw
  have hX := h6.gw
  go_wp2_with fail
  clear cX sX bX dX gX hX
  have C7 := one_c gb g B4 _ _ _ h6.x h6.r
  rw [e2] at C7
  simp only at C7
  refine C7.mono ?_
  rintro e w7 ⟨rfl, B7, r7⟩
  have h7 := h6.read r7
  clear C7 r7 h6
  have cX := cellsAt_at h7.m
  have sX := h7.m.lt
  have bX : (World.cell? _ ⟨gb, 0, none⟩) = some (.pointer (some ⟨g, 0, none⟩)) := h7.x.cell 0
  have dX := h7.x.lt
  have gX := h7.bw
  have hX := h7.gw
  go_wp2_with fail
  clear cX sX bX dX gX hX
  obtain ⟨w8, hw8⟩ : ∃ W : World, W = (w7.setCell ⟨w.heap.size, 1, none⟩ (.int .i64 (vb : Int))) := ⟨_, rfl⟩
  have h8 : DS w w8 gb g B7 s2 f2 #[.int .i64 1, .int .i64 (vb : Int), .int .i64 0, .int .i64 0, .int .i64 0, .int .i64 0, .int .i64 0, .int .i64 0, .int .i64 0] := by rw [hw8]; exact (h7.store 1 _)
  rw [← hw8]
  clear hw8 h7
  have C9 := rdnum_c g B7 _ _ _ h8.r
  rw [e3] at C9
  simp only at C9
  refine C9.mono ?_
  rintro e w9 ⟨rfl, B9, r9⟩
  have h9 := h8.read r9
  clear C9 r9 h8
  have cX := cellsAt_at h9.m
  have sX := h9.m.lt
  have bX : (World.cell? _ ⟨gb, 0, none⟩) = some (.pointer (some ⟨g, 0, none⟩)) := h9.x.cell 0
  have dX := h9.x.lt
  have gX := h9.bw
  have hX := h9.gw
  go_wp2_with fail
  clear cX sX bX dX gX hX
  have C10 := rdnum_c g B9 _ _ _ h9.r
  rw [e4] at C10
  simp only at C10
  refine C10.mono ?_
  rintro e w10 ⟨rfl, B10, r10⟩
  have h10 := h9.read r10
  clear C10 r10 h9
  have cX := cellsAt_at h10.m
  have sX := h10.m.lt
  have bX : (World.cell? _ ⟨gb, 0, none⟩) = some (.pointer (some ⟨g, 0, none⟩)) := h10.x.cell 0
  have dX := h10.x.lt
  have gX := h10.bw
  have hX := h10.gw
  go_wp2_with fail
  clear cX sX bX dX gX hX
  have C11 := one_c gb g B10 _ _ _ h10.x h10.r
  rw [e5] at C11
  simp only at C11
  refine C11.mono ?_
  rintro e w11 ⟨rfl, B11, r11⟩
  have h11 := h10.read r11
  clear C11 r11 h10
  have cX := cellsAt_at h11.m
  have sX := h11.m.lt
  have bX : (World.cell? _ ⟨gb, 0, none⟩) = some (.pointer (some ⟨g, 0, none⟩)) := h11.x.cell 0
  have dX := h11.x.lt
  have gX := h11.bw
  have hX := h11.gw
  go_wp2_with fail
  clear cX sX bX dX gX hX
  have C12 := one_c gb g B11 _ _ _ h11.x h11.r
  rw [e6] at C12
  simp only at C12
  refine C12.mono ?_
  rintro e w12 ⟨rfl, B12, r12⟩
  have h12 := h11.read r12
  clear C12 r12 h11
  have cX := cellsAt_at h12.m
  have sX := h12.m.lt
  have bX : (World.cell? _ ⟨gb, 0, none⟩) = some (.pointer (some ⟨g, 0, none⟩)) := h12.x.cell 0
  have dX := h12.x.lt
  have gX := h12.bw
  have hX := h12.gw
  go_wp2_with fail
  clear cX sX bX dX gX hX
  have C13 := one_c gb g B12 _ _ _ h12.x h12.r
  rw [e7] at C13
  simp only at C13
  refine C13.mono ?_
  rintro e w13 ⟨rfl, B13, r13⟩
  have h13 := h12.read r13
  clear C13 r13 h12
  have cX := cellsAt_at h13.m
  have sX := h13.m.lt
  have bX : (World.cell? _ ⟨gb, 0, none⟩) = some (.pointer (some ⟨g, 0, none⟩)) := h13.x.cell 0
  have dX := h13.x.lt
  have gX := h13.bw
  have hX := h13.gw
  go_wp2_with fail
  clear cX sX bX dX gX hX
  obtain ⟨w14, hw14⟩ : ∃ W : World, W = (((w13.setCell ⟨w.heap.size, 4, none⟩ (.int .i64 (vs : Int))).setCell ⟨w.heap.size, 5, none⟩ (.int .i64 (vt : Int))).setCell ⟨w.heap.size, 8, none⟩ (.int .i64 (vg : Int))) := ⟨_, rfl⟩
  have h14 : DS w w14 gb g B13 s7 f7 #[.int .i64 1, .int .i64 (vb : Int), .int .i64 0, .int .i64 0, .int .i64 (vs : Int), .int .i64 (vt : Int), .int .i64 0, .int .i64 0, .int .i64 (vg : Int)] := by rw [hw14]; exact (((h13.store 4 _).store 5 _).store 8 _)
  rw [← hw14]
  clear hw14 h13
  have C15 := rdint_c g B13 _ _ _ h14.r
  have E15 := Prod.ext_iff.1 e8
  simp only at E15
  rw [E15.1, E15.2] at C15
  simp only at C15
  refine C15.mono ?_
  rintro e w15 ⟨rfl, B15, r15⟩
  have h15 := h14.read r15
  clear C15 r15 h14
  have cX := cellsAt_at h15.m
  have sX := h15.m.lt
  have bX : (World.cell? _ ⟨gb, 0, none⟩) = some (.pointer (some ⟨g, 0, none⟩)) := h15.x.cell 0
  have dX := h15.x.lt
  have gX := h15.bw
  have hX := h15.gw
  go_wp2_with fail
  clear cX sX bX dX gX hX
  have C16 := rdint_c g B15 _ _ _ h15.r
  have E16 := Prod.ext_iff.1 e9
  simp only at E16
  rw [E16.1, E16.2] at C16
  simp only at C16
  refine C16.mono ?_
  rintro e w16 ⟨rfl, B16, r16⟩
  have h16 := h15.read r16
  clear C16 r16 h15
  have cX := cellsAt_at h16.m
  have sX := h16.m.lt
  have bX : (World.cell? _ ⟨gb, 0, none⟩) = some (.pointer (some ⟨g, 0, none⟩)) := h16.x.cell 0
  have dX := h16.x.lt
  have gX := h16.bw
  have hX := h16.gw
  go_wp2_with fail
  clear cX sX bX dX gX hX
  obtain ⟨w17, hw17⟩ : ∃ W : World, W = ((w16.setCell ⟨w.heap.size, 6, none⟩ (.int .i64 vp)).setCell ⟨w.heap.size, 7, none⟩ (.int .i64 vq)) := ⟨_, rfl⟩
  have h17 : DS w w17 gb g B16 s9 f9 #[.int .i64 1, .int .i64 (vb : Int), .int .i64 0, .int .i64 0, .int .i64 (vs : Int), .int .i64 (vt : Int), .int .i64 vp, .int .i64 vq, .int .i64 (vg : Int)] := by rw [hw17]; exact ((h16.store 6 _).store 7 _)
  rw [← hw17]
  clear hw17 h16
  refine (fault_c g B16 _ _ _ h17.r).mono ?_
  rintro e w18 ⟨rfl, x18⟩
  have h18 := h17.extR x18
  clear h17
  by_cases hf : f9 = 0
  · have hfb : (f9 != 0) = false := by simp [hf]
    have HF := Lib.hid hf
    clear hf
    by_cases hv2 : vd ≤ 4611686018427387905
    · have ew2 : IntKind.i64.wrap (vd : Int) = (vd : Int) := by rw [IntWalk.i64_left, wrap64_in ⟨by omega, by omega⟩]
      have hm2 : ((min vd 4611686018427387905 : Nat) : Int) = (vd : Int) := by rw [Nat.min_eq_left hv2]
      have HM2 := Lib.hid hm2
      clear hm2
      have hvi2 : (vd : Int) ≤ 4611686018427387905 := by omega
      by_cases hv3 : vo ≤ 1073741825
      · have ew3 : IntKind.i64.wrap (vo : Int) = (vo : Int) := by rw [IntWalk.i64_left, wrap64_in ⟨by omega, by omega⟩]
        have hm3 : ((min vo 1073741825 : Nat) : Int) = (vo : Int) := by rw [Nat.min_eq_left hv3]
        have HM3 := Lib.hid hm3
        clear hm3
        have hvi3 : (vo : Int) ≤ 1073741825 := by omega
        have cX := cellsAt_at h18.m
        have sX := h18.m.lt
        have bX : (World.cell? _ ⟨gb, 0, none⟩) = some (.pointer (some ⟨g, 0, none⟩)) := h18.x.cell 0
        have dX := h18.x.lt
        have gX := h18.bw
        have hX := h18.gw
        go_wp2_with fail
        clear cX sX bX dX gX hX
        obtain ⟨w19, hw19⟩ : ∃ W : World, W = ((w18.setCell ⟨w.heap.size, 2, none⟩ (.int .i64 (vd : Int))).setCell ⟨w.heap.size, 3, none⟩ (.int .i64 (vo : Int))) := ⟨_, rfl⟩
        have h19 : DS w w19 gb g B16 s9 f9 #[.int .i64 1, .int .i64 (vb : Int), .int .i64 (vd : Int), .int .i64 (vo : Int), .int .i64 (vs : Int), .int .i64 (vt : Int), .int .i64 vp, .int .i64 vq, .int .i64 (vg : Int)] := by rw [hw19]; exact ((h18.store 2 _).store 3 _)
        rw [← hw19]
        clear hw19 h18
        refine (left_c g B16 _ _ _ h19.r).mono ?_
        rintro e w20 ⟨rfl, x20⟩
        have h20 := h19.extR x20
        clear h19
        obtain ⟨cc, hcc⟩ : ∃ cc : Cm, cc = (⟨1, (vb : Int), (vd : Int), (vo : Int), (vs : Int), (vt : Int), vp, vq, (vg : Int)⟩ : Cm) := ⟨_, rfl⟩
        have hfin : finC ⟨1, (vb : Int), (min vd 4611686018427387905 : Nat), (min vo 1073741825 : Nat), (vs : Int), (vt : Int), vp, vq, (vg : Int)⟩ s9 f9 = finC cc s9 0 := by rw [HM2.out, HM3.out, HF.out, hcc]
        have HFINL := Lib.hid hfin
        clear hfin
        have CR := cright_c cc
        have hcv : (#[.int .i64 1, .int .i64 (vb : Int), .int .i64 (vd : Int), .int .i64 (vo : Int), .int .i64 (vs : Int), .int .i64 (vt : Int), .int .i64 vp, .int .i64 vq, .int .i64 (vg : Int)] : Array Value) = #[.int .i64 cc.kind, .int .i64 cc.sym, .int .i64 cc.id, .int .i64 cc.own, .int .i64 cc.side, .int .i64 cc.typ, .int .i64 cc.price, .int .i64 cc.qty, .int .i64 cc.flags] := by rw [hcc]
        rw [← hcv] at CR
        have HCV := Lib.hid hcv
        clear hcv
        by_cases hr : 0 < s9.length
        · have hfz : finC ⟨1, (vb : Int), (min vd 4611686018427387905 : Nat), (min vo 1073741825 : Nat), (vs : Int), (vt : Int), vp, vq, (vg : Int)⟩ s9 f9 = (zeroC, 4) := by rw [HFINL.out]; unfold finC; rw [if_neg (by simp), if_pos (.inl hr)]
          have HFIN := Lib.hid hfz
          clear hfz CR
          have hri : (0 : Int) < (s9.length : Int) := by omega
          have cX := cellsAt_at h20.m
          have sX := h20.m.lt
          have bX : (World.cell? _ ⟨gb, 0, none⟩) = some (.pointer (some ⟨g, 0, none⟩)) := h20.x.cell 0
          have dX := h20.x.lt
          have gX := h20.bw
          have hX := h20.gw
          go_wp2_with fail
          clear cX sX bX dX gX hX
          obtain ⟨wz, hwz⟩ : ∃ W : World, W = w20.setRow w.heap.size #[.int .i64 0, .int .i64 0, .int .i64 0, .int .i64 0, .int .i64 0, .int .i64 0, .int .i64 0, .int .i64 0, .int .i64 0] := ⟨_, rfl⟩
          have xz : Ext w wz := by rw [hwz]; exact (h20.row _).1
          have mz : At wz w.heap.size 25 #[.int .i64 0, .int .i64 0, .int .i64 0, .int .i64 0, .int .i64 0, .int .i64 0, .int .i64 0, .int .i64 0, .int .i64 0] := by rw [hwz]; exact (h20.row _).2
          rw [← hwz]
          clear hwz h20
          have ez := cellsAt_at mz
          have sz := mz.lt
          first | refine fin_ret rfl (fun K hK => ?_) | refine fin_norm rfl (fun K hK => ?_)
          simp [results, Try.results7, go_sem, rsat]
          try go_simp
          refine hK _ ?_
          clear hK K
          exact ⟨xz, zeroC, 4, rfl, by rw [HFIN.out]⟩
        have hr0 : s9.length = 0 := by omega
        have hri : ¬ (0 : Int) < (s9.length : Int) := by omega
        cases hR : rightC cc with
        | false =>
          rw [hR] at CR
          have HCR := Lib.hid CR
          clear CR
          have hfz : finC ⟨1, (vb : Int), (min vd 4611686018427387905 : Nat), (min vo 1073741825 : Nat), (vs : Int), (vt : Int), vp, vq, (vg : Int)⟩ s9 f9 = (zeroC, 4) := by rw [HFINL.out]; unfold finC; rw [if_neg (by simp), if_pos (.inr hR)]
          have HFIN := Lib.hid hfz
          have HR0 := Lib.hid hr0
          clear hfz hR hr0
          have cX := cellsAt_at h20.m
          have sX := h20.m.lt
          have bX : (World.cell? _ ⟨gb, 0, none⟩) = some (.pointer (some ⟨g, 0, none⟩)) := h20.x.cell 0
          have dX := h20.x.lt
          have gX := h20.bw
          have hX := h20.gw
          go_wp2_with fail
          clear cX sX bX dX gX hX
          refine (HCR.out _).mono ?_
          rintro e w21 ⟨rfl, x21⟩
          have h21 := h20.extR x21
          clear h20
          have cX := cellsAt_at h21.m
          have sX := h21.m.lt
          have bX : (World.cell? _ ⟨gb, 0, none⟩) = some (.pointer (some ⟨g, 0, none⟩)) := h21.x.cell 0
          have dX := h21.x.lt
          have gX := h21.bw
          have hX := h21.gw
          go_wp2_with fail
          clear cX sX bX dX gX hX
          obtain ⟨wz, hwz⟩ : ∃ W : World, W = w21.setRow w.heap.size #[.int .i64 0, .int .i64 0, .int .i64 0, .int .i64 0, .int .i64 0, .int .i64 0, .int .i64 0, .int .i64 0, .int .i64 0] := ⟨_, rfl⟩
          have xz : Ext w wz := by rw [hwz]; exact (h21.row _).1
          have mz : At wz w.heap.size 25 #[.int .i64 0, .int .i64 0, .int .i64 0, .int .i64 0, .int .i64 0, .int .i64 0, .int .i64 0, .int .i64 0, .int .i64 0] := by rw [hwz]; exact (h21.row _).2
          rw [← hwz]
          clear hwz h21
          have ez := cellsAt_at mz
          have sz := mz.lt
          first | refine fin_ret rfl (fun K hK => ?_) | refine fin_norm rfl (fun K hK => ?_)
          simp [results, Try.results7, go_sem, rsat]
          try go_simp
          refine hK _ ?_
          clear hK K
          exact ⟨xz, zeroC, 4, rfl, by rw [HFIN.out]⟩
        | true =>
          rw [hR] at CR
          have HCR := Lib.hid CR
          clear CR
          have hfz : finC ⟨1, (vb : Int), (min vd 4611686018427387905 : Nat), (min vo 1073741825 : Nat), (vs : Int), (vt : Int), vp, vq, (vg : Int)⟩ s9 f9 = (cc, 0) := by rw [HFINL.out]; unfold finC; rw [if_neg (by simp), if_neg (by rintro (h9 | h9); exact absurd h9 hr; rw [hR] at h9; cases h9)]
          have HFIN := Lib.hid hfz
          have HR0 := Lib.hid hr0
          clear hfz hR hr0
          have cX := cellsAt_at h20.m
          have sX := h20.m.lt
          have bX : (World.cell? _ ⟨gb, 0, none⟩) = some (.pointer (some ⟨g, 0, none⟩)) := h20.x.cell 0
          have dX := h20.x.lt
          have gX := h20.bw
          have hX := h20.gw
          go_wp2_with fail
          clear cX sX bX dX gX hX
          refine (HCR.out _).mono ?_
          rintro e w21 ⟨rfl, x21⟩
          have h21 := h20.extR x21
          clear h20
          have cX := cellsAt_at h21.m
          have sX := h21.m.lt
          have bX : (World.cell? _ ⟨gb, 0, none⟩) = some (.pointer (some ⟨g, 0, none⟩)) := h21.x.cell 0
          have dX := h21.x.lt
          have gX := h21.bw
          have hX := h21.gw
          go_wp2_with fail
          clear cX sX bX dX gX hX
          obtain ⟨wz, hwz⟩ : ∃ W : World, W = w21.setRow w.heap.size #[.int .i64 1, .int .i64 (vb : Int), .int .i64 (vd : Int), .int .i64 (vo : Int), .int .i64 (vs : Int), .int .i64 (vt : Int), .int .i64 vp, .int .i64 vq, .int .i64 (vg : Int)] := ⟨_, rfl⟩
          have xz : Ext w wz := by rw [hwz]; exact (h21.row _).1
          have mz : At wz w.heap.size 25 #[.int .i64 1, .int .i64 (vb : Int), .int .i64 (vd : Int), .int .i64 (vo : Int), .int .i64 (vs : Int), .int .i64 (vt : Int), .int .i64 vp, .int .i64 vq, .int .i64 (vg : Int)] := by rw [hwz]; exact (h21.row _).2
          rw [← hwz]
          clear hwz h21
          have ez := cellsAt_at mz
          have sz := mz.lt
          first | refine fin_ret rfl (fun K hK => ?_) | refine fin_norm rfl (fun K hK => ?_)
          simp [results, Try.results7, go_sem, rsat]
          try go_simp
          refine hK _ ?_
          clear hK K
          exact ⟨xz, cc, 0, by rw [← HCV.out], by rw [HFIN.out]⟩
      · have hm3 : ((min vo 1073741825 : Nat) : Int) = 1073741825 := by rw [Nat.min_eq_right (by omega)]; rfl
        have HM3 := Lib.hid hm3
        clear hm3
        have hvi3 : 1073741825 < (vo : Int) := by omega
        have cX := cellsAt_at h18.m
        have sX := h18.m.lt
        have bX : (World.cell? _ ⟨gb, 0, none⟩) = some (.pointer (some ⟨g, 0, none⟩)) := h18.x.cell 0
        have dX := h18.x.lt
        have gX := h18.bw
        have hX := h18.gw
        go_wp2_with fail
        clear cX sX bX dX gX hX
        obtain ⟨w19, hw19⟩ : ∃ W : World, W = ((w18.setCell ⟨w.heap.size, 2, none⟩ (.int .i64 (vd : Int))).setCell ⟨w.heap.size, 3, none⟩ (.int .i64 1073741825)) := ⟨_, rfl⟩
        have h19 : DS w w19 gb g B16 s9 f9 #[.int .i64 1, .int .i64 (vb : Int), .int .i64 (vd : Int), .int .i64 1073741825, .int .i64 (vs : Int), .int .i64 (vt : Int), .int .i64 vp, .int .i64 vq, .int .i64 (vg : Int)] := by rw [hw19]; exact ((h18.store 2 _).store 3 _)
        rw [← hw19]
        clear hw19 h18
        refine (left_c g B16 _ _ _ h19.r).mono ?_
        rintro e w20 ⟨rfl, x20⟩
        have h20 := h19.extR x20
        clear h19
        obtain ⟨cc, hcc⟩ : ∃ cc : Cm, cc = (⟨1, (vb : Int), (vd : Int), 1073741825, (vs : Int), (vt : Int), vp, vq, (vg : Int)⟩ : Cm) := ⟨_, rfl⟩
        have hfin : finC ⟨1, (vb : Int), (min vd 4611686018427387905 : Nat), (min vo 1073741825 : Nat), (vs : Int), (vt : Int), vp, vq, (vg : Int)⟩ s9 f9 = finC cc s9 0 := by rw [HM2.out, HM3.out, HF.out, hcc]
        have HFINL := Lib.hid hfin
        clear hfin
        have CR := cright_c cc
        have hcv : (#[.int .i64 1, .int .i64 (vb : Int), .int .i64 (vd : Int), .int .i64 1073741825, .int .i64 (vs : Int), .int .i64 (vt : Int), .int .i64 vp, .int .i64 vq, .int .i64 (vg : Int)] : Array Value) = #[.int .i64 cc.kind, .int .i64 cc.sym, .int .i64 cc.id, .int .i64 cc.own, .int .i64 cc.side, .int .i64 cc.typ, .int .i64 cc.price, .int .i64 cc.qty, .int .i64 cc.flags] := by rw [hcc]
        rw [← hcv] at CR
        have HCV := Lib.hid hcv
        clear hcv
        by_cases hr : 0 < s9.length
        · have hfz : finC ⟨1, (vb : Int), (min vd 4611686018427387905 : Nat), (min vo 1073741825 : Nat), (vs : Int), (vt : Int), vp, vq, (vg : Int)⟩ s9 f9 = (zeroC, 4) := by rw [HFINL.out]; unfold finC; rw [if_neg (by simp), if_pos (.inl hr)]
          have HFIN := Lib.hid hfz
          clear hfz CR
          have hri : (0 : Int) < (s9.length : Int) := by omega
          have cX := cellsAt_at h20.m
          have sX := h20.m.lt
          have bX : (World.cell? _ ⟨gb, 0, none⟩) = some (.pointer (some ⟨g, 0, none⟩)) := h20.x.cell 0
          have dX := h20.x.lt
          have gX := h20.bw
          have hX := h20.gw
          go_wp2_with fail
          clear cX sX bX dX gX hX
          obtain ⟨wz, hwz⟩ : ∃ W : World, W = w20.setRow w.heap.size #[.int .i64 0, .int .i64 0, .int .i64 0, .int .i64 0, .int .i64 0, .int .i64 0, .int .i64 0, .int .i64 0, .int .i64 0] := ⟨_, rfl⟩
          have xz : Ext w wz := by rw [hwz]; exact (h20.row _).1
          have mz : At wz w.heap.size 25 #[.int .i64 0, .int .i64 0, .int .i64 0, .int .i64 0, .int .i64 0, .int .i64 0, .int .i64 0, .int .i64 0, .int .i64 0] := by rw [hwz]; exact (h20.row _).2
          rw [← hwz]
          clear hwz h20
          have ez := cellsAt_at mz
          have sz := mz.lt
          first | refine fin_ret rfl (fun K hK => ?_) | refine fin_norm rfl (fun K hK => ?_)
          simp [results, Try.results7, go_sem, rsat]
          try go_simp
          refine hK _ ?_
          clear hK K
          exact ⟨xz, zeroC, 4, rfl, by rw [HFIN.out]⟩
        have hr0 : s9.length = 0 := by omega
        have hri : ¬ (0 : Int) < (s9.length : Int) := by omega
        cases hR : rightC cc with
        | false =>
          rw [hR] at CR
          have HCR := Lib.hid CR
          clear CR
          have hfz : finC ⟨1, (vb : Int), (min vd 4611686018427387905 : Nat), (min vo 1073741825 : Nat), (vs : Int), (vt : Int), vp, vq, (vg : Int)⟩ s9 f9 = (zeroC, 4) := by rw [HFINL.out]; unfold finC; rw [if_neg (by simp), if_pos (.inr hR)]
          have HFIN := Lib.hid hfz
          have HR0 := Lib.hid hr0
          clear hfz hR hr0
          have cX := cellsAt_at h20.m
          have sX := h20.m.lt
          have bX : (World.cell? _ ⟨gb, 0, none⟩) = some (.pointer (some ⟨g, 0, none⟩)) := h20.x.cell 0
          have dX := h20.x.lt
          have gX := h20.bw
          have hX := h20.gw
          go_wp2_with fail
          clear cX sX bX dX gX hX
          refine (HCR.out _).mono ?_
          rintro e w21 ⟨rfl, x21⟩
          have h21 := h20.extR x21
          clear h20
          have cX := cellsAt_at h21.m
          have sX := h21.m.lt
          have bX : (World.cell? _ ⟨gb, 0, none⟩) = some (.pointer (some ⟨g, 0, none⟩)) := h21.x.cell 0
          have dX := h21.x.lt
          have gX := h21.bw
          have hX := h21.gw
          go_wp2_with fail
          clear cX sX bX dX gX hX
          obtain ⟨wz, hwz⟩ : ∃ W : World, W = w21.setRow w.heap.size #[.int .i64 0, .int .i64 0, .int .i64 0, .int .i64 0, .int .i64 0, .int .i64 0, .int .i64 0, .int .i64 0, .int .i64 0] := ⟨_, rfl⟩
          have xz : Ext w wz := by rw [hwz]; exact (h21.row _).1
          have mz : At wz w.heap.size 25 #[.int .i64 0, .int .i64 0, .int .i64 0, .int .i64 0, .int .i64 0, .int .i64 0, .int .i64 0, .int .i64 0, .int .i64 0] := by rw [hwz]; exact (h21.row _).2
          rw [← hwz]
          clear hwz h21
          have ez := cellsAt_at mz
          have sz := mz.lt
          first | refine fin_ret rfl (fun K hK => ?_) | refine fin_norm rfl (fun K hK => ?_)
          simp [results, Try.results7, go_sem, rsat]
          try go_simp
          refine hK _ ?_
          clear hK K
          exact ⟨xz, zeroC, 4, rfl, by rw [HFIN.out]⟩
        | true =>
          rw [hR] at CR
          have HCR := Lib.hid CR
          clear CR
          have hfz : finC ⟨1, (vb : Int), (min vd 4611686018427387905 : Nat), (min vo 1073741825 : Nat), (vs : Int), (vt : Int), vp, vq, (vg : Int)⟩ s9 f9 = (cc, 0) := by rw [HFINL.out]; unfold finC; rw [if_neg (by simp), if_neg (by rintro (h9 | h9); exact absurd h9 hr; rw [hR] at h9; cases h9)]
          have HFIN := Lib.hid hfz
          have HR0 := Lib.hid hr0
          clear hfz hR hr0
          have cX := cellsAt_at h20.m
          have sX := h20.m.lt
          have bX : (World.cell? _ ⟨gb, 0, none⟩) = some (.pointer (some ⟨g, 0, none⟩)) := h20.x.cell 0
          have dX := h20.x.lt
          have gX := h20.bw
          have hX := h20.gw
          go_wp2_with fail
          clear cX sX bX dX gX hX
          refine (HCR.out _).mono ?_
          rintro e w21 ⟨rfl, x21⟩
          have h21 := h20.extR x21
          clear h20
          have cX := cellsAt_at h21.m
          have sX := h21.m.lt
          have bX : (World.cell? _ ⟨gb, 0, none⟩) = some (.pointer (some ⟨g, 0, none⟩)) := h21.x.cell 0
          have dX := h21.x.lt
          have gX := h21.bw
          have hX := h21.gw
          go_wp2_with fail
          clear cX sX bX dX gX hX
          obtain ⟨wz, hwz⟩ : ∃ W : World, W = w21.setRow w.heap.size #[.int .i64 1, .int .i64 (vb : Int), .int .i64 (vd : Int), .int .i64 1073741825, .int .i64 (vs : Int), .int .i64 (vt : Int), .int .i64 vp, .int .i64 vq, .int .i64 (vg : Int)] := ⟨_, rfl⟩
          have xz : Ext w wz := by rw [hwz]; exact (h21.row _).1
          have mz : At wz w.heap.size 25 #[.int .i64 1, .int .i64 (vb : Int), .int .i64 (vd : Int), .int .i64 1073741825, .int .i64 (vs : Int), .int .i64 (vt : Int), .int .i64 vp, .int .i64 vq, .int .i64 (vg : Int)] := by rw [hwz]; exact (h21.row _).2
          rw [← hwz]
          clear hwz h21
          have ez := cellsAt_at mz
          have sz := mz.lt
          first | refine fin_ret rfl (fun K hK => ?_) | refine fin_norm rfl (fun K hK => ?_)
          simp [results, Try.results7, go_sem, rsat]
          try go_simp
          refine hK _ ?_
          clear hK K
          exact ⟨xz, cc, 0, by rw [← HCV.out], by rw [HFIN.out]⟩
    · have hm2 : ((min vd 4611686018427387905 : Nat) : Int) = 4611686018427387905 := by rw [Nat.min_eq_right (by omega)]; rfl
      have HM2 := Lib.hid hm2
      clear hm2
      have hvi2 : 4611686018427387905 < (vd : Int) := by omega
      by_cases hv3 : vo ≤ 1073741825
      · have ew3 : IntKind.i64.wrap (vo : Int) = (vo : Int) := by rw [IntWalk.i64_left, wrap64_in ⟨by omega, by omega⟩]
        have hm3 : ((min vo 1073741825 : Nat) : Int) = (vo : Int) := by rw [Nat.min_eq_left hv3]
        have HM3 := Lib.hid hm3
        clear hm3
        have hvi3 : (vo : Int) ≤ 1073741825 := by omega
        have cX := cellsAt_at h18.m
        have sX := h18.m.lt
        have bX : (World.cell? _ ⟨gb, 0, none⟩) = some (.pointer (some ⟨g, 0, none⟩)) := h18.x.cell 0
        have dX := h18.x.lt
        have gX := h18.bw
        have hX := h18.gw
        go_wp2_with fail
        clear cX sX bX dX gX hX
        obtain ⟨w19, hw19⟩ : ∃ W : World, W = ((w18.setCell ⟨w.heap.size, 2, none⟩ (.int .i64 4611686018427387905)).setCell ⟨w.heap.size, 3, none⟩ (.int .i64 (vo : Int))) := ⟨_, rfl⟩
        have h19 : DS w w19 gb g B16 s9 f9 #[.int .i64 1, .int .i64 (vb : Int), .int .i64 4611686018427387905, .int .i64 (vo : Int), .int .i64 (vs : Int), .int .i64 (vt : Int), .int .i64 vp, .int .i64 vq, .int .i64 (vg : Int)] := by rw [hw19]; exact ((h18.store 2 _).store 3 _)
        rw [← hw19]
        clear hw19 h18
        refine (left_c g B16 _ _ _ h19.r).mono ?_
        rintro e w20 ⟨rfl, x20⟩
        have h20 := h19.extR x20
        clear h19
        obtain ⟨cc, hcc⟩ : ∃ cc : Cm, cc = (⟨1, (vb : Int), 4611686018427387905, (vo : Int), (vs : Int), (vt : Int), vp, vq, (vg : Int)⟩ : Cm) := ⟨_, rfl⟩
        have hfin : finC ⟨1, (vb : Int), (min vd 4611686018427387905 : Nat), (min vo 1073741825 : Nat), (vs : Int), (vt : Int), vp, vq, (vg : Int)⟩ s9 f9 = finC cc s9 0 := by rw [HM2.out, HM3.out, HF.out, hcc]
        have HFINL := Lib.hid hfin
        clear hfin
        have CR := cright_c cc
        have hcv : (#[.int .i64 1, .int .i64 (vb : Int), .int .i64 4611686018427387905, .int .i64 (vo : Int), .int .i64 (vs : Int), .int .i64 (vt : Int), .int .i64 vp, .int .i64 vq, .int .i64 (vg : Int)] : Array Value) = #[.int .i64 cc.kind, .int .i64 cc.sym, .int .i64 cc.id, .int .i64 cc.own, .int .i64 cc.side, .int .i64 cc.typ, .int .i64 cc.price, .int .i64 cc.qty, .int .i64 cc.flags] := by rw [hcc]
        rw [← hcv] at CR
        have HCV := Lib.hid hcv
        clear hcv
        by_cases hr : 0 < s9.length
        · have hfz : finC ⟨1, (vb : Int), (min vd 4611686018427387905 : Nat), (min vo 1073741825 : Nat), (vs : Int), (vt : Int), vp, vq, (vg : Int)⟩ s9 f9 = (zeroC, 4) := by rw [HFINL.out]; unfold finC; rw [if_neg (by simp), if_pos (.inl hr)]
          have HFIN := Lib.hid hfz
          clear hfz CR
          have hri : (0 : Int) < (s9.length : Int) := by omega
          have cX := cellsAt_at h20.m
          have sX := h20.m.lt
          have bX : (World.cell? _ ⟨gb, 0, none⟩) = some (.pointer (some ⟨g, 0, none⟩)) := h20.x.cell 0
          have dX := h20.x.lt
          have gX := h20.bw
          have hX := h20.gw
          go_wp2_with fail
          clear cX sX bX dX gX hX
          obtain ⟨wz, hwz⟩ : ∃ W : World, W = w20.setRow w.heap.size #[.int .i64 0, .int .i64 0, .int .i64 0, .int .i64 0, .int .i64 0, .int .i64 0, .int .i64 0, .int .i64 0, .int .i64 0] := ⟨_, rfl⟩
          have xz : Ext w wz := by rw [hwz]; exact (h20.row _).1
          have mz : At wz w.heap.size 25 #[.int .i64 0, .int .i64 0, .int .i64 0, .int .i64 0, .int .i64 0, .int .i64 0, .int .i64 0, .int .i64 0, .int .i64 0] := by rw [hwz]; exact (h20.row _).2
          rw [← hwz]
          clear hwz h20
          have ez := cellsAt_at mz
          have sz := mz.lt
          first | refine fin_ret rfl (fun K hK => ?_) | refine fin_norm rfl (fun K hK => ?_)
          simp [results, Try.results7, go_sem, rsat]
          try go_simp
          refine hK _ ?_
          clear hK K
          exact ⟨xz, zeroC, 4, rfl, by rw [HFIN.out]⟩
        have hr0 : s9.length = 0 := by omega
        have hri : ¬ (0 : Int) < (s9.length : Int) := by omega
        cases hR : rightC cc with
        | false =>
          rw [hR] at CR
          have HCR := Lib.hid CR
          clear CR
          have hfz : finC ⟨1, (vb : Int), (min vd 4611686018427387905 : Nat), (min vo 1073741825 : Nat), (vs : Int), (vt : Int), vp, vq, (vg : Int)⟩ s9 f9 = (zeroC, 4) := by rw [HFINL.out]; unfold finC; rw [if_neg (by simp), if_pos (.inr hR)]
          have HFIN := Lib.hid hfz
          have HR0 := Lib.hid hr0
          clear hfz hR hr0
          have cX := cellsAt_at h20.m
          have sX := h20.m.lt
          have bX : (World.cell? _ ⟨gb, 0, none⟩) = some (.pointer (some ⟨g, 0, none⟩)) := h20.x.cell 0
          have dX := h20.x.lt
          have gX := h20.bw
          have hX := h20.gw
          go_wp2_with fail
          clear cX sX bX dX gX hX
          refine (HCR.out _).mono ?_
          rintro e w21 ⟨rfl, x21⟩
          have h21 := h20.extR x21
          clear h20
          have cX := cellsAt_at h21.m
          have sX := h21.m.lt
          have bX : (World.cell? _ ⟨gb, 0, none⟩) = some (.pointer (some ⟨g, 0, none⟩)) := h21.x.cell 0
          have dX := h21.x.lt
          have gX := h21.bw
          have hX := h21.gw
          go_wp2_with fail
          clear cX sX bX dX gX hX
          obtain ⟨wz, hwz⟩ : ∃ W : World, W = w21.setRow w.heap.size #[.int .i64 0, .int .i64 0, .int .i64 0, .int .i64 0, .int .i64 0, .int .i64 0, .int .i64 0, .int .i64 0, .int .i64 0] := ⟨_, rfl⟩
          have xz : Ext w wz := by rw [hwz]; exact (h21.row _).1
          have mz : At wz w.heap.size 25 #[.int .i64 0, .int .i64 0, .int .i64 0, .int .i64 0, .int .i64 0, .int .i64 0, .int .i64 0, .int .i64 0, .int .i64 0] := by rw [hwz]; exact (h21.row _).2
          rw [← hwz]
          clear hwz h21
          have ez := cellsAt_at mz
          have sz := mz.lt
          first | refine fin_ret rfl (fun K hK => ?_) | refine fin_norm rfl (fun K hK => ?_)
          simp [results, Try.results7, go_sem, rsat]
          try go_simp
          refine hK _ ?_
          clear hK K
          exact ⟨xz, zeroC, 4, rfl, by rw [HFIN.out]⟩
        | true =>
          rw [hR] at CR
          have HCR := Lib.hid CR
          clear CR
          have hfz : finC ⟨1, (vb : Int), (min vd 4611686018427387905 : Nat), (min vo 1073741825 : Nat), (vs : Int), (vt : Int), vp, vq, (vg : Int)⟩ s9 f9 = (cc, 0) := by rw [HFINL.out]; unfold finC; rw [if_neg (by simp), if_neg (by rintro (h9 | h9); exact absurd h9 hr; rw [hR] at h9; cases h9)]
          have HFIN := Lib.hid hfz
          have HR0 := Lib.hid hr0
          clear hfz hR hr0
          have cX := cellsAt_at h20.m
          have sX := h20.m.lt
          have bX : (World.cell? _ ⟨gb, 0, none⟩) = some (.pointer (some ⟨g, 0, none⟩)) := h20.x.cell 0
          have dX := h20.x.lt
          have gX := h20.bw
          have hX := h20.gw
          go_wp2_with fail
          clear cX sX bX dX gX hX
          refine (HCR.out _).mono ?_
          rintro e w21 ⟨rfl, x21⟩
          have h21 := h20.extR x21
          clear h20
          have cX := cellsAt_at h21.m
          have sX := h21.m.lt
          have bX : (World.cell? _ ⟨gb, 0, none⟩) = some (.pointer (some ⟨g, 0, none⟩)) := h21.x.cell 0
          have dX := h21.x.lt
          have gX := h21.bw
          have hX := h21.gw
          go_wp2_with fail
          clear cX sX bX dX gX hX
          obtain ⟨wz, hwz⟩ : ∃ W : World, W = w21.setRow w.heap.size #[.int .i64 1, .int .i64 (vb : Int), .int .i64 4611686018427387905, .int .i64 (vo : Int), .int .i64 (vs : Int), .int .i64 (vt : Int), .int .i64 vp, .int .i64 vq, .int .i64 (vg : Int)] := ⟨_, rfl⟩
          have xz : Ext w wz := by rw [hwz]; exact (h21.row _).1
          have mz : At wz w.heap.size 25 #[.int .i64 1, .int .i64 (vb : Int), .int .i64 4611686018427387905, .int .i64 (vo : Int), .int .i64 (vs : Int), .int .i64 (vt : Int), .int .i64 vp, .int .i64 vq, .int .i64 (vg : Int)] := by rw [hwz]; exact (h21.row _).2
          rw [← hwz]
          clear hwz h21
          have ez := cellsAt_at mz
          have sz := mz.lt
          first | refine fin_ret rfl (fun K hK => ?_) | refine fin_norm rfl (fun K hK => ?_)
          simp [results, Try.results7, go_sem, rsat]
          try go_simp
          refine hK _ ?_
          clear hK K
          exact ⟨xz, cc, 0, by rw [← HCV.out], by rw [HFIN.out]⟩
      · have hm3 : ((min vo 1073741825 : Nat) : Int) = 1073741825 := by rw [Nat.min_eq_right (by omega)]; rfl
        have HM3 := Lib.hid hm3
        clear hm3
        have hvi3 : 1073741825 < (vo : Int) := by omega
        have cX := cellsAt_at h18.m
        have sX := h18.m.lt
        have bX : (World.cell? _ ⟨gb, 0, none⟩) = some (.pointer (some ⟨g, 0, none⟩)) := h18.x.cell 0
        have dX := h18.x.lt
        have gX := h18.bw
        have hX := h18.gw
        go_wp2_with fail
        clear cX sX bX dX gX hX
        obtain ⟨w19, hw19⟩ : ∃ W : World, W = ((w18.setCell ⟨w.heap.size, 2, none⟩ (.int .i64 4611686018427387905)).setCell ⟨w.heap.size, 3, none⟩ (.int .i64 1073741825)) := ⟨_, rfl⟩
        have h19 : DS w w19 gb g B16 s9 f9 #[.int .i64 1, .int .i64 (vb : Int), .int .i64 4611686018427387905, .int .i64 1073741825, .int .i64 (vs : Int), .int .i64 (vt : Int), .int .i64 vp, .int .i64 vq, .int .i64 (vg : Int)] := by rw [hw19]; exact ((h18.store 2 _).store 3 _)
        rw [← hw19]
        clear hw19 h18
        refine (left_c g B16 _ _ _ h19.r).mono ?_
        rintro e w20 ⟨rfl, x20⟩
        have h20 := h19.extR x20
        clear h19
        obtain ⟨cc, hcc⟩ : ∃ cc : Cm, cc = (⟨1, (vb : Int), 4611686018427387905, 1073741825, (vs : Int), (vt : Int), vp, vq, (vg : Int)⟩ : Cm) := ⟨_, rfl⟩
        have hfin : finC ⟨1, (vb : Int), (min vd 4611686018427387905 : Nat), (min vo 1073741825 : Nat), (vs : Int), (vt : Int), vp, vq, (vg : Int)⟩ s9 f9 = finC cc s9 0 := by rw [HM2.out, HM3.out, HF.out, hcc]
        have HFINL := Lib.hid hfin
        clear hfin
        have CR := cright_c cc
        have hcv : (#[.int .i64 1, .int .i64 (vb : Int), .int .i64 4611686018427387905, .int .i64 1073741825, .int .i64 (vs : Int), .int .i64 (vt : Int), .int .i64 vp, .int .i64 vq, .int .i64 (vg : Int)] : Array Value) = #[.int .i64 cc.kind, .int .i64 cc.sym, .int .i64 cc.id, .int .i64 cc.own, .int .i64 cc.side, .int .i64 cc.typ, .int .i64 cc.price, .int .i64 cc.qty, .int .i64 cc.flags] := by rw [hcc]
        rw [← hcv] at CR
        have HCV := Lib.hid hcv
        clear hcv
        by_cases hr : 0 < s9.length
        · have hfz : finC ⟨1, (vb : Int), (min vd 4611686018427387905 : Nat), (min vo 1073741825 : Nat), (vs : Int), (vt : Int), vp, vq, (vg : Int)⟩ s9 f9 = (zeroC, 4) := by rw [HFINL.out]; unfold finC; rw [if_neg (by simp), if_pos (.inl hr)]
          have HFIN := Lib.hid hfz
          clear hfz CR
          have hri : (0 : Int) < (s9.length : Int) := by omega
          have cX := cellsAt_at h20.m
          have sX := h20.m.lt
          have bX : (World.cell? _ ⟨gb, 0, none⟩) = some (.pointer (some ⟨g, 0, none⟩)) := h20.x.cell 0
          have dX := h20.x.lt
          have gX := h20.bw
          have hX := h20.gw
          go_wp2_with fail
          clear cX sX bX dX gX hX
          obtain ⟨wz, hwz⟩ : ∃ W : World, W = w20.setRow w.heap.size #[.int .i64 0, .int .i64 0, .int .i64 0, .int .i64 0, .int .i64 0, .int .i64 0, .int .i64 0, .int .i64 0, .int .i64 0] := ⟨_, rfl⟩
          have xz : Ext w wz := by rw [hwz]; exact (h20.row _).1
          have mz : At wz w.heap.size 25 #[.int .i64 0, .int .i64 0, .int .i64 0, .int .i64 0, .int .i64 0, .int .i64 0, .int .i64 0, .int .i64 0, .int .i64 0] := by rw [hwz]; exact (h20.row _).2
          rw [← hwz]
          clear hwz h20
          have ez := cellsAt_at mz
          have sz := mz.lt
          first | refine fin_ret rfl (fun K hK => ?_) | refine fin_norm rfl (fun K hK => ?_)
          simp [results, Try.results7, go_sem, rsat]
          try go_simp
          refine hK _ ?_
          clear hK K
          exact ⟨xz, zeroC, 4, rfl, by rw [HFIN.out]⟩
        have hr0 : s9.length = 0 := by omega
        have hri : ¬ (0 : Int) < (s9.length : Int) := by omega
        cases hR : rightC cc with
        | false =>
          rw [hR] at CR
          have HCR := Lib.hid CR
          clear CR
          have hfz : finC ⟨1, (vb : Int), (min vd 4611686018427387905 : Nat), (min vo 1073741825 : Nat), (vs : Int), (vt : Int), vp, vq, (vg : Int)⟩ s9 f9 = (zeroC, 4) := by rw [HFINL.out]; unfold finC; rw [if_neg (by simp), if_pos (.inr hR)]
          have HFIN := Lib.hid hfz
          have HR0 := Lib.hid hr0
          clear hfz hR hr0
          have cX := cellsAt_at h20.m
          have sX := h20.m.lt
          have bX : (World.cell? _ ⟨gb, 0, none⟩) = some (.pointer (some ⟨g, 0, none⟩)) := h20.x.cell 0
          have dX := h20.x.lt
          have gX := h20.bw
          have hX := h20.gw
          go_wp2_with fail
          clear cX sX bX dX gX hX
          refine (HCR.out _).mono ?_
          rintro e w21 ⟨rfl, x21⟩
          have h21 := h20.extR x21
          clear h20
          have cX := cellsAt_at h21.m
          have sX := h21.m.lt
          have bX : (World.cell? _ ⟨gb, 0, none⟩) = some (.pointer (some ⟨g, 0, none⟩)) := h21.x.cell 0
          have dX := h21.x.lt
          have gX := h21.bw
          have hX := h21.gw
          go_wp2_with fail
          clear cX sX bX dX gX hX
          obtain ⟨wz, hwz⟩ : ∃ W : World, W = w21.setRow w.heap.size #[.int .i64 0, .int .i64 0, .int .i64 0, .int .i64 0, .int .i64 0, .int .i64 0, .int .i64 0, .int .i64 0, .int .i64 0] := ⟨_, rfl⟩
          have xz : Ext w wz := by rw [hwz]; exact (h21.row _).1
          have mz : At wz w.heap.size 25 #[.int .i64 0, .int .i64 0, .int .i64 0, .int .i64 0, .int .i64 0, .int .i64 0, .int .i64 0, .int .i64 0, .int .i64 0] := by rw [hwz]; exact (h21.row _).2
          rw [← hwz]
          clear hwz h21
          have ez := cellsAt_at mz
          have sz := mz.lt
          first | refine fin_ret rfl (fun K hK => ?_) | refine fin_norm rfl (fun K hK => ?_)
          simp [results, Try.results7, go_sem, rsat]
          try go_simp
          refine hK _ ?_
          clear hK K
          exact ⟨xz, zeroC, 4, rfl, by rw [HFIN.out]⟩
        | true =>
          rw [hR] at CR
          have HCR := Lib.hid CR
          clear CR
          have hfz : finC ⟨1, (vb : Int), (min vd 4611686018427387905 : Nat), (min vo 1073741825 : Nat), (vs : Int), (vt : Int), vp, vq, (vg : Int)⟩ s9 f9 = (cc, 0) := by rw [HFINL.out]; unfold finC; rw [if_neg (by simp), if_neg (by rintro (h9 | h9); exact absurd h9 hr; rw [hR] at h9; cases h9)]
          have HFIN := Lib.hid hfz
          have HR0 := Lib.hid hr0
          clear hfz hR hr0
          have cX := cellsAt_at h20.m
          have sX := h20.m.lt
          have bX : (World.cell? _ ⟨gb, 0, none⟩) = some (.pointer (some ⟨g, 0, none⟩)) := h20.x.cell 0
          have dX := h20.x.lt
          have gX := h20.bw
          have hX := h20.gw
          go_wp2_with fail
          clear cX sX bX dX gX hX
          refine (HCR.out _).mono ?_
          rintro e w21 ⟨rfl, x21⟩
          have h21 := h20.extR x21
          clear h20
          have cX := cellsAt_at h21.m
          have sX := h21.m.lt
          have bX : (World.cell? _ ⟨gb, 0, none⟩) = some (.pointer (some ⟨g, 0, none⟩)) := h21.x.cell 0
          have dX := h21.x.lt
          have gX := h21.bw
          have hX := h21.gw
          go_wp2_with fail
          clear cX sX bX dX gX hX
          obtain ⟨wz, hwz⟩ : ∃ W : World, W = w21.setRow w.heap.size #[.int .i64 1, .int .i64 (vb : Int), .int .i64 4611686018427387905, .int .i64 1073741825, .int .i64 (vs : Int), .int .i64 (vt : Int), .int .i64 vp, .int .i64 vq, .int .i64 (vg : Int)] := ⟨_, rfl⟩
          have xz : Ext w wz := by rw [hwz]; exact (h21.row _).1
          have mz : At wz w.heap.size 25 #[.int .i64 1, .int .i64 (vb : Int), .int .i64 4611686018427387905, .int .i64 1073741825, .int .i64 (vs : Int), .int .i64 (vt : Int), .int .i64 vp, .int .i64 vq, .int .i64 (vg : Int)] := by rw [hwz]; exact (h21.row _).2
          rw [← hwz]
          clear hwz h21
          have ez := cellsAt_at mz
          have sz := mz.lt
          first | refine fin_ret rfl (fun K hK => ?_) | refine fin_norm rfl (fun K hK => ?_)
          simp [results, Try.results7, go_sem, rsat]
          try go_simp
          refine hK _ ?_
          clear hK K
          exact ⟨xz, cc, 0, by rw [← HCV.out], by rw [HFIN.out]⟩
  · have hfb : (f9 != 0) = true := bne_iff_ne.2 hf
    have hfz : finC ⟨1, (vb : Int), (min vd 4611686018427387905 : Nat), (min vo 1073741825 : Nat), (vs : Int), (vt : Int), vp, vq, (vg : Int)⟩ s9 f9 = (zeroC, f9) := by unfold finC; rw [if_pos hf]
    have HFIN := Lib.hid hfz
    clear hfz hf
    have cX := cellsAt_at h18.m
    have sX := h18.m.lt
    have bX : (World.cell? _ ⟨gb, 0, none⟩) = some (.pointer (some ⟨g, 0, none⟩)) := h18.x.cell 0
    have dX := h18.x.lt
    have gX := h18.bw
    have hX := h18.gw
    go_wp2_with fail
    clear cX sX bX dX gX hX
    obtain ⟨wz, hwz⟩ : ∃ W : World, W = w18.setRow w.heap.size #[.int .i64 0, .int .i64 0, .int .i64 0, .int .i64 0, .int .i64 0, .int .i64 0, .int .i64 0, .int .i64 0, .int .i64 0] := ⟨_, rfl⟩
    have xz : Ext w wz := by rw [hwz]; exact (h18.row _).1
    have mz : At wz w.heap.size 25 #[.int .i64 0, .int .i64 0, .int .i64 0, .int .i64 0, .int .i64 0, .int .i64 0, .int .i64 0, .int .i64 0, .int .i64 0] := by rw [hwz]; exact (h18.row _).2
    rw [← hwz]
    clear hwz h18
    have ez := cellsAt_at mz
    have sz := mz.lt
    first | refine fin_ret rfl (fun K hK => ?_) | refine fin_norm rfl (fun K hK => ?_)
    simp [results, Try.results7, go_sem, rsat]
    try go_simp
    refine hK _ ?_
    clear hK K
    exact ⟨xz, zeroC, f9, rfl, by rw [HFIN.out]⟩
set_option maxHeartbeats 8000000 in
set_option maxRecDepth 100000 in
theorem dec0_c (B : Option Addr) (cb : Nat) (bs : List Int) (hb : Byt bs) (hl : bs.length ≤ 1000000000) (w : World) (hS : Src w 1 B bs.length (bc bs)) (s1 s2 s3 : List Int) (f2 f3 : Int) (vb vd : Nat) (f1 : Int) (hf1 : f1 ≠ 0) (e1 : uintR bs 0 1 = (0, s1, f1)) (e2 : uintR s1 f1 1 = (vb, s2, f2)) (e3 : numR s2 f2 = (vd, s3, f3)) (s4 s5 : List Int) (f4 f5 : Int) (vp vq : Int) (e4 : (backN (uintR s3 f3 8).1, (uintR s3 f3 8).2) = (vp, s4, f4)) (e5 : (backN (uintR s4 f4 8).1, (uintR s4 f4 8).2) = (vq, s5, f5)) :
    Calls Try.prog 7 #[.slice B bs.length cb] w fun e w' => Ext w w' ∧ ∃ (c : Cm) (f : Int), e = .returned (.tuple #[.agg #[.int .i64 c.kind, .int .i64 c.sym, .int .i64 c.id, .int .i64 c.own, .int .i64 c.side, .int .i64 c.typ, .int .i64 c.price, .int .i64 c.qty, .int .i64 c.flags], .int .i64 f]) ∧ (c, f) = finC ⟨0, (vb : Int), (min vd 4611686018427387905 : Nat), 0, 0, 0, vp, vq, 0⟩ s5 f5 := by
  have C1 := fun W hx => newreader_c B bs cb W (hS.ext hx) hb hl
  have HC1 := Lib.hid C1
  clear C1
  go_enter Try.func7, Try.ntmps7
  go_wp2_with fail
  refine (HC1.out _ (by repeat (first | (with_reducible exact Ext.refl _) | (with_reducible assumption) | (with_reducible refine Ext.alloc ?_ _) | (with_reducible refine Ext.drew ?_) | (with_reducible refine Ext.drewN ?_ _) | (with_reducible refine Ext.setCell ?_ (by simp; try omega) _) | (with_reducible refine Ext.setRow ?_ (by simp; try omega) _)))).mono ?_
  rintro e w1 ⟨hx1, g, A1, rfl, r1, hg, hA⟩
  have xw1 : Ext w w1 := Ext.trans (by repeat (first | (with_reducible exact Ext.refl _) | (with_reducible assumption) | (with_reducible refine Ext.alloc ?_ _) | (with_reducible refine Ext.drew ?_) | (with_reducible refine Ext.drewN ?_ _) | (with_reducible refine Ext.setCell ?_ (by simp; try omega) _) | (with_reducible refine Ext.setRow ?_ (by simp; try omega) _))) hx1
  have M1 : At w1 w.heap.size 25 #[.int .i64 0, .int .i64 0, .int .i64 0, .int .i64 0, .int .i64 0, .int .i64 0, .int .i64 0, .int .i64 0, .int .i64 0] := At.ext (by repeat (first | (with_reducible exact At.new _ _ _) | ((with_reducible refine At.new' _ _ _ _ ?_); simp; done) | (with_reducible assumption) | (with_reducible refine At.drew ?_) | (with_reducible refine At.alloc ?_ _) | (with_reducible apply At.upd) | (with_reducible apply At.setRow) | (with_reducible refine At.rowFar ?_ (by first | (simp; done) | (simp; omega) | omega) _) | ((with_reducible refine At.far ?_ (by first | (simp; done) | (simp; omega) | omega) _)) | (with_reducible rfl) | (simp; done))) hx1
  have hgw : w.heap.size < g := by simp at hg; omega
  have hgl : g < w1.heap.size := r1.ex.choose_spec.1.lt
  have haw : ∀ k ∈ ablk A1, w.heap.size < k := fun k hk => by have := hA k hk; simp at this; omega
  have s1 := M1.lt
  clear hA hg
  go_wp2_with fail
  refine gen_world (fun W => DS w W w1.heap.size g A1 bs 0 #[.int .i64 0, .int .i64 0, .int .i64 0, .int .i64 0, .int .i64 0, .int .i64 0, .int .i64 0, .int .i64 0, .int .i64 0]) ⟨xw1.alloc _, M1.alloc _, At.new _ _ _, r1.alloc _, haw, hgw, by omega, by omega⟩ (fun w2 h2 => ?_)
  generalize w1.heap.size = gb at *
  clear M1 r1 hgl s1 HC1 hx1 xw1
  have c2 : w2.cell? ⟨gb, 0, none⟩ = some (.pointer (some ⟨g, 0, none⟩)) := h2.x.cell 0
  have hbl := h2.x.lt
  refine wp_region_x 6 [1, 0, 1, 0, 0, 0] (by kernel_rfl) (by kernel_rfl) (by kernel_rfl) ?_
  simp only [List.take_succ_cons, List.take_zero, List.drop_succ_cons, List.drop_zero]
  refine hl_quiet (fun K hK => ?_)
  go_simp
  refine hK _ ?_
  clear hK K
  refine hl_pure (fun K hK => ?_)
  go_simp
  refine hK _ ?_
  clear hK K
  refine hl_quiet (fun K hK => ?_)
  go_simp
  refine hK _ ?_
  clear hK K
  refine hl_pure (fun K hK => ?_)
  go_simp
  refine hK _ ?_
  clear hK K
  refine hl_pure (fun K hK => ?_)
  go_simp
  refine hK _ ?_
  clear hK K
  refine hl_pure (fun K hK => ?_)
  go_simp
  refine hK _ ?_
  clear hK K
  refine hl_nil ?_
  intro w3 hx3 K hK
  have h3 := h2.extR hx3
  clear h2 c2 hbl
  have cX := cellsAt_at h3.m
  have sX := h3.m.lt
  have bX : (World.cell? _ ⟨gb, 0, none⟩) = some (.pointer (some ⟨g, 0, none⟩)) := h3.x.cell 0
  have dX := h3.x.lt
  have gX := h3.bw
  have hX := h3.gw
  go_wp2_with fail
  clear cX sX bX dX gX hX
  have C4 := one_c gb g A1 _ _ _ h3.x h3.r
  rw [e1] at C4
  simp only at C4
  refine C4.mono ?_
  rintro e w4 ⟨rfl, B4, r4⟩
  have h4 := h3.read r4
  clear C4 r4 h3
  have cX := cellsAt_at h4.m
  have sX := h4.m.lt
  have bX : (World.cell? _ ⟨gb, 0, none⟩) = some (.pointer (some ⟨g, 0, none⟩)) := h4.x.cell 0
  have dX := h4.x.lt
  have gX := h4.bw
  have hX := h4.gw
  go_wp2_with fail
  clear cX sX bX dX gX hX
  obtain ⟨w5, hw5⟩ : ∃ W : World, W = (w4.setCell ⟨w.heap.size, 0, none⟩ (.int .i64 0)) := ⟨_, rfl⟩
  have h5 : DS w w5 gb g B4 s1 f1 #[.int .i64 0, .int .i64 0, .int .i64 0, .int .i64 0, .int .i64 0, .int .i64 0, .int .i64 0, .int .i64 0, .int .i64 0] := by rw [hw5]; exact (h4.store 0 _)
  rw [← hw5]
  clear hw5 h4
  have hfb : (f1 == 0) = false := beq_eq_false_iff_ne.2 hf1
  refine (fault_c g B4 _ _ _ h5.r).mono ?_
  rintro e w6 ⟨rfl, x6⟩
  have h6 := h5.extR x6
  clear h5
  have cX := cellsAt_at h6.m
  have sX := h6.m.lt
  have bX : (World.cell? _ ⟨gb, 0, none⟩) = some (.pointer (some ⟨g, 0, none⟩)) := h6.x.cell 0
  have dX := h6.x.lt
  have gX := h6.bw
  have hX := h6.gw
  go_wp2_with fail
  clear cX sX bX dX gX hX
  have C7 := one_c gb g B4 _ _ _ h6.x h6.r
  rw [e2] at C7
  simp only at C7
  refine C7.mono ?_
  rintro e w7 ⟨rfl, B7, r7⟩
  have h7 := h6.read r7
  clear C7 r7 h6
  have cX := cellsAt_at h7.m
  have sX := h7.m.lt
  have bX : (World.cell? _ ⟨gb, 0, none⟩) = some (.pointer (some ⟨g, 0, none⟩)) := h7.x.cell 0
  have dX := h7.x.lt
  have gX := h7.bw
  have hX := h7.gw
  go_wp2_with fail
  clear cX sX bX dX gX hX
  obtain ⟨w8, hw8⟩ : ∃ W : World, W = (w7.setCell ⟨w.heap.size, 1, none⟩ (.int .i64 (vb : Int))) := ⟨_, rfl⟩
  have h8 : DS w w8 gb g B7 s2 f2 #[.int .i64 0, .int .i64 (vb : Int), .int .i64 0, .int .i64 0, .int .i64 0, .int .i64 0, .int .i64 0, .int .i64 0, .int .i64 0] := by rw [hw8]; exact (h7.store 1 _)
  rw [← hw8]
  clear hw8 h7
  have C9 := rdnum_c g B7 _ _ _ h8.r
  rw [e3] at C9
  simp only at C9
  refine C9.mono ?_
  rintro e w9 ⟨rfl, B9, r9⟩
  have h9 := h8.read r9
  clear C9 r9 h8
  have cX := cellsAt_at h9.m
  have sX := h9.m.lt
  have bX : (World.cell? _ ⟨gb, 0, none⟩) = some (.pointer (some ⟨g, 0, none⟩)) := h9.x.cell 0
  have dX := h9.x.lt
  have gX := h9.bw
  have hX := h9.gw
  go_wp2_with fail
  clear cX sX bX dX gX hX
  have C10 := rdint_c g B9 _ _ _ h9.r
  have E10 := Prod.ext_iff.1 e4
  simp only at E10
  rw [E10.1, E10.2] at C10
  simp only at C10
  refine C10.mono ?_
  rintro e w10 ⟨rfl, B10, r10⟩
  have h10 := h9.read r10
  clear C10 r10 h9
  have cX := cellsAt_at h10.m
  have sX := h10.m.lt
  have bX : (World.cell? _ ⟨gb, 0, none⟩) = some (.pointer (some ⟨g, 0, none⟩)) := h10.x.cell 0
  have dX := h10.x.lt
  have gX := h10.bw
  have hX := h10.gw
  go_wp2_with fail
  clear cX sX bX dX gX hX
  have C11 := rdint_c g B10 _ _ _ h10.r
  have E11 := Prod.ext_iff.1 e5
  simp only at E11
  rw [E11.1, E11.2] at C11
  simp only at C11
  refine C11.mono ?_
  rintro e w11 ⟨rfl, B11, r11⟩
  have h11 := h10.read r11
  clear C11 r11 h10
  have cX := cellsAt_at h11.m
  have sX := h11.m.lt
  have bX : (World.cell? _ ⟨gb, 0, none⟩) = some (.pointer (some ⟨g, 0, none⟩)) := h11.x.cell 0
  have dX := h11.x.lt
  have gX := h11.bw
  have hX := h11.gw
  go_wp2_with fail
  clear cX sX bX dX gX hX
  obtain ⟨w12, hw12⟩ : ∃ W : World, W = ((w11.setCell ⟨w.heap.size, 6, none⟩ (.int .i64 vp)).setCell ⟨w.heap.size, 7, none⟩ (.int .i64 vq)) := ⟨_, rfl⟩
  have h12 : DS w w12 gb g B11 s5 f5 #[.int .i64 0, .int .i64 (vb : Int), .int .i64 0, .int .i64 0, .int .i64 0, .int .i64 0, .int .i64 vp, .int .i64 vq, .int .i64 0] := by rw [hw12]; exact ((h11.store 6 _).store 7 _)
  rw [← hw12]
  clear hw12 h11
  refine (fault_c g B11 _ _ _ h12.r).mono ?_
  rintro e w13 ⟨rfl, x13⟩
  have h13 := h12.extR x13
  clear h12
  by_cases hf : f5 = 0
  · have hfb : (f5 != 0) = false := by simp [hf]
    have HF := Lib.hid hf
    clear hf
    by_cases hv2 : vd ≤ 4611686018427387905
    · have ew2 : IntKind.i64.wrap (vd : Int) = (vd : Int) := by rw [IntWalk.i64_left, wrap64_in ⟨by omega, by omega⟩]
      have hm2 : ((min vd 4611686018427387905 : Nat) : Int) = (vd : Int) := by rw [Nat.min_eq_left hv2]
      have HM2 := Lib.hid hm2
      clear hm2
      have hvi2 : (vd : Int) ≤ 4611686018427387905 := by omega
      have cX := cellsAt_at h13.m
      have sX := h13.m.lt
      have bX : (World.cell? _ ⟨gb, 0, none⟩) = some (.pointer (some ⟨g, 0, none⟩)) := h13.x.cell 0
      have dX := h13.x.lt
      have gX := h13.bw
      have hX := h13.gw
      go_wp2_with fail
      clear cX sX bX dX gX hX
      obtain ⟨w14, hw14⟩ : ∃ W : World, W = ((w13.setCell ⟨w.heap.size, 2, none⟩ (.int .i64 (vd : Int))).setCell ⟨w.heap.size, 3, none⟩ (.int .i64 0)) := ⟨_, rfl⟩
      have h14 : DS w w14 gb g B11 s5 f5 #[.int .i64 0, .int .i64 (vb : Int), .int .i64 (vd : Int), .int .i64 0, .int .i64 0, .int .i64 0, .int .i64 vp, .int .i64 vq, .int .i64 0] := by rw [hw14]; exact ((h13.store 2 _).store 3 _)
      rw [← hw14]
      clear hw14 h13
      refine (left_c g B11 _ _ _ h14.r).mono ?_
      rintro e w15 ⟨rfl, x15⟩
      have h15 := h14.extR x15
      clear h14
      obtain ⟨cc, hcc⟩ : ∃ cc : Cm, cc = (⟨0, (vb : Int), (vd : Int), 0, 0, 0, vp, vq, 0⟩ : Cm) := ⟨_, rfl⟩
      have hfin : finC ⟨0, (vb : Int), (min vd 4611686018427387905 : Nat), 0, 0, 0, vp, vq, 0⟩ s5 f5 = finC cc s5 0 := by rw [HM2.out, HF.out, hcc]
      have HFINL := Lib.hid hfin
      clear hfin
      have CR := cright_c cc
      have hcv : (#[.int .i64 0, .int .i64 (vb : Int), .int .i64 (vd : Int), .int .i64 0, .int .i64 0, .int .i64 0, .int .i64 vp, .int .i64 vq, .int .i64 0] : Array Value) = #[.int .i64 cc.kind, .int .i64 cc.sym, .int .i64 cc.id, .int .i64 cc.own, .int .i64 cc.side, .int .i64 cc.typ, .int .i64 cc.price, .int .i64 cc.qty, .int .i64 cc.flags] := by rw [hcc]
      rw [← hcv] at CR
      have HCV := Lib.hid hcv
      clear hcv
      by_cases hr : 0 < s5.length
      · have hfz : finC ⟨0, (vb : Int), (min vd 4611686018427387905 : Nat), 0, 0, 0, vp, vq, 0⟩ s5 f5 = (zeroC, 4) := by rw [HFINL.out]; unfold finC; rw [if_neg (by simp), if_pos (.inl hr)]
        have HFIN := Lib.hid hfz
        clear hfz CR
        have hri : (0 : Int) < (s5.length : Int) := by omega
        have cX := cellsAt_at h15.m
        have sX := h15.m.lt
        have bX : (World.cell? _ ⟨gb, 0, none⟩) = some (.pointer (some ⟨g, 0, none⟩)) := h15.x.cell 0
        have dX := h15.x.lt
        have gX := h15.bw
        have hX := h15.gw
        go_wp2_with fail
        clear cX sX bX dX gX hX
        obtain ⟨wz, hwz⟩ : ∃ W : World, W = w15.setRow w.heap.size #[.int .i64 0, .int .i64 0, .int .i64 0, .int .i64 0, .int .i64 0, .int .i64 0, .int .i64 0, .int .i64 0, .int .i64 0] := ⟨_, rfl⟩
        have xz : Ext w wz := by rw [hwz]; exact (h15.row _).1
        have mz : At wz w.heap.size 25 #[.int .i64 0, .int .i64 0, .int .i64 0, .int .i64 0, .int .i64 0, .int .i64 0, .int .i64 0, .int .i64 0, .int .i64 0] := by rw [hwz]; exact (h15.row _).2
        rw [← hwz]
        clear hwz h15
        have ez := cellsAt_at mz
        have sz := mz.lt
        first | refine fin_ret rfl (fun K hK => ?_) | refine fin_norm rfl (fun K hK => ?_)
        simp [results, Try.results7, go_sem, rsat]
        try go_simp
        refine hK _ ?_
        clear hK K
        exact ⟨xz, zeroC, 4, rfl, by rw [HFIN.out]⟩
      have hr0 : s5.length = 0 := by omega
      have hri : ¬ (0 : Int) < (s5.length : Int) := by omega
      cases hR : rightC cc with
      | false =>
        rw [hR] at CR
        have HCR := Lib.hid CR
        clear CR
        have hfz : finC ⟨0, (vb : Int), (min vd 4611686018427387905 : Nat), 0, 0, 0, vp, vq, 0⟩ s5 f5 = (zeroC, 4) := by rw [HFINL.out]; unfold finC; rw [if_neg (by simp), if_pos (.inr hR)]
        have HFIN := Lib.hid hfz
        have HR0 := Lib.hid hr0
        clear hfz hR hr0
        have cX := cellsAt_at h15.m
        have sX := h15.m.lt
        have bX : (World.cell? _ ⟨gb, 0, none⟩) = some (.pointer (some ⟨g, 0, none⟩)) := h15.x.cell 0
        have dX := h15.x.lt
        have gX := h15.bw
        have hX := h15.gw
        go_wp2_with fail
        clear cX sX bX dX gX hX
        refine (HCR.out _).mono ?_
        rintro e w16 ⟨rfl, x16⟩
        have h16 := h15.extR x16
        clear h15
        have cX := cellsAt_at h16.m
        have sX := h16.m.lt
        have bX : (World.cell? _ ⟨gb, 0, none⟩) = some (.pointer (some ⟨g, 0, none⟩)) := h16.x.cell 0
        have dX := h16.x.lt
        have gX := h16.bw
        have hX := h16.gw
        go_wp2_with fail
        clear cX sX bX dX gX hX
        obtain ⟨wz, hwz⟩ : ∃ W : World, W = w16.setRow w.heap.size #[.int .i64 0, .int .i64 0, .int .i64 0, .int .i64 0, .int .i64 0, .int .i64 0, .int .i64 0, .int .i64 0, .int .i64 0] := ⟨_, rfl⟩
        have xz : Ext w wz := by rw [hwz]; exact (h16.row _).1
        have mz : At wz w.heap.size 25 #[.int .i64 0, .int .i64 0, .int .i64 0, .int .i64 0, .int .i64 0, .int .i64 0, .int .i64 0, .int .i64 0, .int .i64 0] := by rw [hwz]; exact (h16.row _).2
        rw [← hwz]
        clear hwz h16
        have ez := cellsAt_at mz
        have sz := mz.lt
        first | refine fin_ret rfl (fun K hK => ?_) | refine fin_norm rfl (fun K hK => ?_)
        simp [results, Try.results7, go_sem, rsat]
        try go_simp
        refine hK _ ?_
        clear hK K
        exact ⟨xz, zeroC, 4, rfl, by rw [HFIN.out]⟩
      | true =>
        rw [hR] at CR
        have HCR := Lib.hid CR
        clear CR
        have hfz : finC ⟨0, (vb : Int), (min vd 4611686018427387905 : Nat), 0, 0, 0, vp, vq, 0⟩ s5 f5 = (cc, 0) := by rw [HFINL.out]; unfold finC; rw [if_neg (by simp), if_neg (by rintro (h9 | h9); exact absurd h9 hr; rw [hR] at h9; cases h9)]
        have HFIN := Lib.hid hfz
        have HR0 := Lib.hid hr0
        clear hfz hR hr0
        have cX := cellsAt_at h15.m
        have sX := h15.m.lt
        have bX : (World.cell? _ ⟨gb, 0, none⟩) = some (.pointer (some ⟨g, 0, none⟩)) := h15.x.cell 0
        have dX := h15.x.lt
        have gX := h15.bw
        have hX := h15.gw
        go_wp2_with fail
        clear cX sX bX dX gX hX
        refine (HCR.out _).mono ?_
        rintro e w16 ⟨rfl, x16⟩
        have h16 := h15.extR x16
        clear h15
        have cX := cellsAt_at h16.m
        have sX := h16.m.lt
        have bX : (World.cell? _ ⟨gb, 0, none⟩) = some (.pointer (some ⟨g, 0, none⟩)) := h16.x.cell 0
        have dX := h16.x.lt
        have gX := h16.bw
        have hX := h16.gw
        go_wp2_with fail
        clear cX sX bX dX gX hX
        obtain ⟨wz, hwz⟩ : ∃ W : World, W = w16.setRow w.heap.size #[.int .i64 0, .int .i64 (vb : Int), .int .i64 (vd : Int), .int .i64 0, .int .i64 0, .int .i64 0, .int .i64 vp, .int .i64 vq, .int .i64 0] := ⟨_, rfl⟩
        have xz : Ext w wz := by rw [hwz]; exact (h16.row _).1
        have mz : At wz w.heap.size 25 #[.int .i64 0, .int .i64 (vb : Int), .int .i64 (vd : Int), .int .i64 0, .int .i64 0, .int .i64 0, .int .i64 vp, .int .i64 vq, .int .i64 0] := by rw [hwz]; exact (h16.row _).2
        rw [← hwz]
        clear hwz h16
        have ez := cellsAt_at mz
        have sz := mz.lt
        first | refine fin_ret rfl (fun K hK => ?_) | refine fin_norm rfl (fun K hK => ?_)
        simp [results, Try.results7, go_sem, rsat]
        try go_simp
        refine hK _ ?_
        clear hK K
        exact ⟨xz, cc, 0, by rw [← HCV.out], by rw [HFIN.out]⟩
    · have hm2 : ((min vd 4611686018427387905 : Nat) : Int) = 4611686018427387905 := by rw [Nat.min_eq_right (by omega)]; rfl
      have HM2 := Lib.hid hm2
      clear hm2
      have hvi2 : 4611686018427387905 < (vd : Int) := by omega
      have cX := cellsAt_at h13.m
      have sX := h13.m.lt
      have bX : (World.cell? _ ⟨gb, 0, none⟩) = some (.pointer (some ⟨g, 0, none⟩)) := h13.x.cell 0
      have dX := h13.x.lt
      have gX := h13.bw
      have hX := h13.gw
      go_wp2_with fail
      clear cX sX bX dX gX hX
      obtain ⟨w14, hw14⟩ : ∃ W : World, W = ((w13.setCell ⟨w.heap.size, 2, none⟩ (.int .i64 4611686018427387905)).setCell ⟨w.heap.size, 3, none⟩ (.int .i64 0)) := ⟨_, rfl⟩
      have h14 : DS w w14 gb g B11 s5 f5 #[.int .i64 0, .int .i64 (vb : Int), .int .i64 4611686018427387905, .int .i64 0, .int .i64 0, .int .i64 0, .int .i64 vp, .int .i64 vq, .int .i64 0] := by rw [hw14]; exact ((h13.store 2 _).store 3 _)
      rw [← hw14]
      clear hw14 h13
      refine (left_c g B11 _ _ _ h14.r).mono ?_
      rintro e w15 ⟨rfl, x15⟩
      have h15 := h14.extR x15
      clear h14
      obtain ⟨cc, hcc⟩ : ∃ cc : Cm, cc = (⟨0, (vb : Int), 4611686018427387905, 0, 0, 0, vp, vq, 0⟩ : Cm) := ⟨_, rfl⟩
      have hfin : finC ⟨0, (vb : Int), (min vd 4611686018427387905 : Nat), 0, 0, 0, vp, vq, 0⟩ s5 f5 = finC cc s5 0 := by rw [HM2.out, HF.out, hcc]
      have HFINL := Lib.hid hfin
      clear hfin
      have CR := cright_c cc
      have hcv : (#[.int .i64 0, .int .i64 (vb : Int), .int .i64 4611686018427387905, .int .i64 0, .int .i64 0, .int .i64 0, .int .i64 vp, .int .i64 vq, .int .i64 0] : Array Value) = #[.int .i64 cc.kind, .int .i64 cc.sym, .int .i64 cc.id, .int .i64 cc.own, .int .i64 cc.side, .int .i64 cc.typ, .int .i64 cc.price, .int .i64 cc.qty, .int .i64 cc.flags] := by rw [hcc]
      rw [← hcv] at CR
      have HCV := Lib.hid hcv
      clear hcv
      by_cases hr : 0 < s5.length
      · have hfz : finC ⟨0, (vb : Int), (min vd 4611686018427387905 : Nat), 0, 0, 0, vp, vq, 0⟩ s5 f5 = (zeroC, 4) := by rw [HFINL.out]; unfold finC; rw [if_neg (by simp), if_pos (.inl hr)]
        have HFIN := Lib.hid hfz
        clear hfz CR
        have hri : (0 : Int) < (s5.length : Int) := by omega
        have cX := cellsAt_at h15.m
        have sX := h15.m.lt
        have bX : (World.cell? _ ⟨gb, 0, none⟩) = some (.pointer (some ⟨g, 0, none⟩)) := h15.x.cell 0
        have dX := h15.x.lt
        have gX := h15.bw
        have hX := h15.gw
        go_wp2_with fail
        clear cX sX bX dX gX hX
        obtain ⟨wz, hwz⟩ : ∃ W : World, W = w15.setRow w.heap.size #[.int .i64 0, .int .i64 0, .int .i64 0, .int .i64 0, .int .i64 0, .int .i64 0, .int .i64 0, .int .i64 0, .int .i64 0] := ⟨_, rfl⟩
        have xz : Ext w wz := by rw [hwz]; exact (h15.row _).1
        have mz : At wz w.heap.size 25 #[.int .i64 0, .int .i64 0, .int .i64 0, .int .i64 0, .int .i64 0, .int .i64 0, .int .i64 0, .int .i64 0, .int .i64 0] := by rw [hwz]; exact (h15.row _).2
        rw [← hwz]
        clear hwz h15
        have ez := cellsAt_at mz
        have sz := mz.lt
        first | refine fin_ret rfl (fun K hK => ?_) | refine fin_norm rfl (fun K hK => ?_)
        simp [results, Try.results7, go_sem, rsat]
        try go_simp
        refine hK _ ?_
        clear hK K
        exact ⟨xz, zeroC, 4, rfl, by rw [HFIN.out]⟩
      have hr0 : s5.length = 0 := by omega
      have hri : ¬ (0 : Int) < (s5.length : Int) := by omega
      cases hR : rightC cc with
      | false =>
        rw [hR] at CR
        have HCR := Lib.hid CR
        clear CR
        have hfz : finC ⟨0, (vb : Int), (min vd 4611686018427387905 : Nat), 0, 0, 0, vp, vq, 0⟩ s5 f5 = (zeroC, 4) := by rw [HFINL.out]; unfold finC; rw [if_neg (by simp), if_pos (.inr hR)]
        have HFIN := Lib.hid hfz
        have HR0 := Lib.hid hr0
        clear hfz hR hr0
        have cX := cellsAt_at h15.m
        have sX := h15.m.lt
        have bX : (World.cell? _ ⟨gb, 0, none⟩) = some (.pointer (some ⟨g, 0, none⟩)) := h15.x.cell 0
        have dX := h15.x.lt
        have gX := h15.bw
        have hX := h15.gw
        go_wp2_with fail
        clear cX sX bX dX gX hX
        refine (HCR.out _).mono ?_
        rintro e w16 ⟨rfl, x16⟩
        have h16 := h15.extR x16
        clear h15
        have cX := cellsAt_at h16.m
        have sX := h16.m.lt
        have bX : (World.cell? _ ⟨gb, 0, none⟩) = some (.pointer (some ⟨g, 0, none⟩)) := h16.x.cell 0
        have dX := h16.x.lt
        have gX := h16.bw
        have hX := h16.gw
        go_wp2_with fail
        clear cX sX bX dX gX hX
        obtain ⟨wz, hwz⟩ : ∃ W : World, W = w16.setRow w.heap.size #[.int .i64 0, .int .i64 0, .int .i64 0, .int .i64 0, .int .i64 0, .int .i64 0, .int .i64 0, .int .i64 0, .int .i64 0] := ⟨_, rfl⟩
        have xz : Ext w wz := by rw [hwz]; exact (h16.row _).1
        have mz : At wz w.heap.size 25 #[.int .i64 0, .int .i64 0, .int .i64 0, .int .i64 0, .int .i64 0, .int .i64 0, .int .i64 0, .int .i64 0, .int .i64 0] := by rw [hwz]; exact (h16.row _).2
        rw [← hwz]
        clear hwz h16
        have ez := cellsAt_at mz
        have sz := mz.lt
        first | refine fin_ret rfl (fun K hK => ?_) | refine fin_norm rfl (fun K hK => ?_)
        simp [results, Try.results7, go_sem, rsat]
        try go_simp
        refine hK _ ?_
        clear hK K
        exact ⟨xz, zeroC, 4, rfl, by rw [HFIN.out]⟩
      | true =>
        rw [hR] at CR
        have HCR := Lib.hid CR
        clear CR
        have hfz : finC ⟨0, (vb : Int), (min vd 4611686018427387905 : Nat), 0, 0, 0, vp, vq, 0⟩ s5 f5 = (cc, 0) := by rw [HFINL.out]; unfold finC; rw [if_neg (by simp), if_neg (by rintro (h9 | h9); exact absurd h9 hr; rw [hR] at h9; cases h9)]
        have HFIN := Lib.hid hfz
        have HR0 := Lib.hid hr0
        clear hfz hR hr0
        have cX := cellsAt_at h15.m
        have sX := h15.m.lt
        have bX : (World.cell? _ ⟨gb, 0, none⟩) = some (.pointer (some ⟨g, 0, none⟩)) := h15.x.cell 0
        have dX := h15.x.lt
        have gX := h15.bw
        have hX := h15.gw
        go_wp2_with fail
        clear cX sX bX dX gX hX
        refine (HCR.out _).mono ?_
        rintro e w16 ⟨rfl, x16⟩
        have h16 := h15.extR x16
        clear h15
        have cX := cellsAt_at h16.m
        have sX := h16.m.lt
        have bX : (World.cell? _ ⟨gb, 0, none⟩) = some (.pointer (some ⟨g, 0, none⟩)) := h16.x.cell 0
        have dX := h16.x.lt
        have gX := h16.bw
        have hX := h16.gw
        go_wp2_with fail
        clear cX sX bX dX gX hX
        obtain ⟨wz, hwz⟩ : ∃ W : World, W = w16.setRow w.heap.size #[.int .i64 0, .int .i64 (vb : Int), .int .i64 4611686018427387905, .int .i64 0, .int .i64 0, .int .i64 0, .int .i64 vp, .int .i64 vq, .int .i64 0] := ⟨_, rfl⟩
        have xz : Ext w wz := by rw [hwz]; exact (h16.row _).1
        have mz : At wz w.heap.size 25 #[.int .i64 0, .int .i64 (vb : Int), .int .i64 4611686018427387905, .int .i64 0, .int .i64 0, .int .i64 0, .int .i64 vp, .int .i64 vq, .int .i64 0] := by rw [hwz]; exact (h16.row _).2
        rw [← hwz]
        clear hwz h16
        have ez := cellsAt_at mz
        have sz := mz.lt
        first | refine fin_ret rfl (fun K hK => ?_) | refine fin_norm rfl (fun K hK => ?_)
        simp [results, Try.results7, go_sem, rsat]
        try go_simp
        refine hK _ ?_
        clear hK K
        exact ⟨xz, cc, 0, by rw [← HCV.out], by rw [HFIN.out]⟩
  · have hfb : (f5 != 0) = true := bne_iff_ne.2 hf
    have hfz : finC ⟨0, (vb : Int), (min vd 4611686018427387905 : Nat), 0, 0, 0, vp, vq, 0⟩ s5 f5 = (zeroC, f5) := by unfold finC; rw [if_pos hf]
    have HFIN := Lib.hid hfz
    clear hfz hf
    have cX := cellsAt_at h13.m
    have sX := h13.m.lt
    have bX : (World.cell? _ ⟨gb, 0, none⟩) = some (.pointer (some ⟨g, 0, none⟩)) := h13.x.cell 0
    have dX := h13.x.lt
    have gX := h13.bw
    have hX := h13.gw
    go_wp2_with fail
    clear cX sX bX dX gX hX
    obtain ⟨wz, hwz⟩ : ∃ W : World, W = w13.setRow w.heap.size #[.int .i64 0, .int .i64 0, .int .i64 0, .int .i64 0, .int .i64 0, .int .i64 0, .int .i64 0, .int .i64 0, .int .i64 0] := ⟨_, rfl⟩
    have xz : Ext w wz := by rw [hwz]; exact (h13.row _).1
    have mz : At wz w.heap.size 25 #[.int .i64 0, .int .i64 0, .int .i64 0, .int .i64 0, .int .i64 0, .int .i64 0, .int .i64 0, .int .i64 0, .int .i64 0] := by rw [hwz]; exact (h13.row _).2
    rw [← hwz]
    clear hwz h13
    have ez := cellsAt_at mz
    have sz := mz.lt
    first | refine fin_ret rfl (fun K hK => ?_) | refine fin_norm rfl (fun K hK => ?_)
    simp [results, Try.results7, go_sem, rsat]
    try go_simp
    refine hK _ ?_
    clear hK K
    exact ⟨xz, zeroC, f5, rfl, by rw [HFIN.out]⟩
end Go.Proofs.Ytodeplfndebbgaa
