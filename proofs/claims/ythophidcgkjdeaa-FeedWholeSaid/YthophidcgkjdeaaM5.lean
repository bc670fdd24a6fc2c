/- Messages (layer 6): Decode, by the program. Condition: at most 10^9 bytes. -/
import Derived.Test.YthophidcgkjdeaaM1b
import Derived.Test.YthophidcgkjdeaaO7
import Derived.Test.YthophidcgkjdeaaR2
import Derived.Test.YthophidcgkjdeaaL03
import Derived.Test.YthophidcgkjdeaaRs
import Derived.Laws.EntriesVeiled
namespace Go.Proofs.Ythophidcgkjdeaa
open Go.RowKit
attribute [local go_sem] Later.cell QUpon_value QUpon_enter MUpon_value run_eql_slice_nil Same.cell
attribute [local go_sem ↓ high] loadMsg_is storeMsg_is
attribute [local go_sem] run_loadMsg run_loadMsg_at run_storeMsg one_int one_bool one_slice one_ptr one_str setRow_new setRow_past cell_ca frozen_ca cellsAt_alloc_at cellsAt_alloc_past cellsAt_drew cellsAt_later cellsAt_setCell cellsAt_set_same cellsAt_setRow_same cellsAt_setRow_far subAt_alloc subAt_drew subAt_later subAt_setCell subAt_setRow ltn_2 ltn_3 ltn_4 ltn_5
theorem uintR1_lt6 {bs : List Int} (h : Byt bs) (f : Int) : (uintR bs f 1).1 < 256 := by
  unfold uintR
  split
  · show 0 < 256; omega
  · split
    · show 0 < 256; omega
    · exact valN_bytes (fun x hx => h x (List.mem_of_mem_take hx)) 1 (by rw [List.length_take]; omega)
/-- one(): the next byte. -/
theorem one6_c (gb g : Nat) (A : Option Addr) (bs : List Int) (f : Int) (w : World) (hb : At w gb 73 #[.pointer (some ⟨g, 0, none⟩)]) (hR : Rdr w g A bs f) :
    Calls Try.prog 42 #[.pointer (some ⟨gb, 0, none⟩)] w fun e w' => e = .returned (.int .i64 ((uintR bs f 1).1 : Nat)) ∧ ∃ A', Reads w g A (uintR bs f 1).2.1 (uintR bs f 1).2.2 w' A' := by
  have hl := uintR1_lt6 hR.by_ f
  have C := rduint_c g A bs f 1 (by decide) w hR
  generalize uintR bs f 1 = r at C hl ⊢
  obtain ⟨n, cs, f'⟩ := r
  simp only at C hl ⊢
  have ew : IntKind.i64.wrap (n : Int) = (n : Int) := by rw [IntWalk.i64_left, wrap64_in ⟨by omega, by omega⟩]
  have c0 : w.cell? ⟨gb, 0, none⟩ = some (.pointer (some ⟨g, 0, none⟩)) := hb.cell 0
  clear hb
  go_enter Try.func42, Try.ntmps42
  go_wp2_with fail
  refine C.mono ?_
  rintro e w1 ⟨rfl, A1, hr⟩
  go_wp2_with fail
  first | refine fin_ret rfl (fun K hK => ?_) | refine fin_norm rfl (fun K hK => ?_)
  simp [results, Try.results42, go_sem, rsat]
  try go_simp
  refine hK _ ?_
  clear hK K
  exact ⟨rfl, A1, hr⟩
theorem Rdr.alloc6 {w : World} {g : Nat} {A : Option Addr} {bs : List Int} {f : Int} (h : Rdr w g A bs f) (o : Obj) : Rdr (w.alloc o) g A bs f := h.ext ((Ext.refl w).alloc o)
def zeroM : Mg := ⟨0, 0, 0, 0, 0, 0, 0, 0, 0⟩
/-- What comes of all that was read. -/
def finM (m : Mg) (rest : List Int) (f : Int) : Mg × Int := if f ≠ 0 then (zeroM, f) else if 0 < rest.length ∨ rightB m = false then (zeroM, 4) else (m, 0)
/-- Amid a decoding: the message's block, the reader, its box. -/
structure DM (w W : World) (gb g : Nat) (A : Option Addr) (rs : List Int) (f : Int) (cells : Array Value) : Prop where
  ext : Ext w W
  m : At W w.heap.size 34 cells
  x : At W gb 73 #[.pointer (some ⟨g, 0, none⟩)]
  r : Rdr W g A rs f
  aw : ∀ k ∈ ablk A, w.heap.size < k
  gw : w.heap.size < g
  bw : w.heap.size < gb
  bg : gb ≠ g
theorem DM.read {w W W' : World} {gb g : Nat} {A A' : Option Addr} {rs rs' : List Int} {f f' : Int} {cells : Array Value} (h : DM w W gb g A rs f cells) (hr : Reads W g A rs' f' W' A') : DM w W' gb g A' rs' f' cells :=
  ⟨(Chg.step (Chg.of_ext h.ext []) hr.chg (fun i hi => by simp at hi; right; have := h.gw; omega)).ext (by simp), hr.chg.at h.m (by simp; have := h.gw; omega), hr.chg.at h.x (by simp; exact h.bg), hr.rd, fun k hk => h.aw k (by rw [← hr.blk]; exact hk), h.gw, h.bw, h.bg⟩
theorem DM.store {w W : World} {gb g : Nat} {A : Option Addr} {rs : List Int} {f : Int} {cells : Array Value} (h : DM w W gb g A rs f cells) (i : Nat) (v : Value) : DM w (W.setCell ⟨w.heap.size, i, none⟩ v) gb g A rs f (cells.setIfInBounds i v) :=
  ⟨h.ext.setCell (Nat.le_refl _) v, h.m.set i v, h.x.far (by have := h.bw; simp; omega) v, h.r.chg ((Chg.refl W [w.heap.size]).set (.inl (by simp)) v) (by simp; have := h.gw; omega) (fun k hk => by simp; have := h.aw k hk; omega), h.aw, h.gw, h.bw, h.bg⟩
theorem DM.extR {w W W' : World} {gb g : Nat} {A : Option Addr} {rs : List Int} {f : Int} {cells : Array Value} (h : DM w W gb g A rs f cells) (hx : Ext W W') : DM w W' gb g A rs f cells :=
  ⟨h.ext.trans hx, h.m.ext hx, h.x.ext hx, h.r.ext hx, h.aw, h.gw, h.bw, h.bg⟩
theorem DM.row {w W : World} {gb g : Nat} {A : Option Addr} {rs : List Int} {f : Int} {cells : Array Value} (h : DM w W gb g A rs f cells) (cs : Array Value) : Ext w (W.setRow w.heap.size cs) ∧ At (W.setRow w.heap.size cs) w.heap.size 34 cs :=
  ⟨h.ext.setRow (Nat.le_refl _) cs, h.m.setRow cs⟩
set_option maxHeartbeats 8000000 in
set_option maxRecDepth 100000 in
theorem decM_c (B : Option Addr) (cb : Nat) (bs : List Int) (hb : Byt bs) (hl : bs.length ≤ 1000000000) (w : World) (hS : Src w 1 B bs.length (bc bs)) (s1 s2 s3 s4 s5 s6 s7 s8 s9 : List Int) (f1 f2 f3 f4 f5 f6 f7 f8 f9 : Int) (va vb vc vd ve : Nat) (vi vj vp vq : Int) (e1 : uintR bs 0 1 = (va, s1, f1)) (e2 : uintR s1 f1 1 = (vb, s2, f2)) (e3 : uintR s2 f2 1 = (vc, s3, f3)) (e4 : numR s3 f3 = (vd, s4, f4)) (e5 : numR s4 f4 = (ve, s5, f5)) (e6 : (backN (uintR s5 f5 8).1, (uintR s5 f5 8).2) = (vi, s6, f6)) (e7 : (backN (uintR s6 f6 8).1, (uintR s6 f6 8).2) = (vj, s7, f7)) (e8 : (backN (uintR s7 f7 8).1, (uintR s7 f7 8).2) = (vp, s8, f8)) (e9 : (backN (uintR s8 f8 8).1, (uintR s8 f8 8).2) = (vq, s9, f9)) :
    Calls Try.prog 30 #[.slice B bs.length cb] w fun e w' => Ext w w' ∧ ∃ (m : Mg) (f : Int), e = .returned (.tuple #[.agg #[.int .i64 m.kind, .int .i64 m.sym, .int .i64 m.seq, .int .i64 m.tick, .int .i64 m.id, .int .i64 m.wth, .int .i64 m.price, .int .i64 m.qty, .int .i64 m.code], .int .i64 f]) ∧ (m, f) = finM ⟨(va : Int), (vb : Int), (min vd 4611686018427387905 : Nat), (min ve 4611686018427387905 : Nat), vi, vj, vp, vq, (vc : Int)⟩ s9 f9 := by
  have C1 := fun W hx => newreader_c B bs cb W (hS.ext hx) hb hl
  have HC1 := Lib.hid C1
  clear C1
  go_enter Try.func30, Try.ntmps30
  go_wp2_with fail
  refine (HC1.out _ (by repeat (first | (with_reducible exact Ext.refl _) | (with_reducible assumption) | (with_reducible refine Ext.alloc ?_ _) | (with_reducible refine Ext.drew ?_) | (with_reducible refine Ext.drewN ?_ _) | (with_reducible refine Ext.setCell ?_ (by simp; try omega) _) | (with_reducible refine Ext.setRow ?_ (by simp; try omega) _)))).mono ?_
  rintro e w1 ⟨hx1, g, A1, rfl, r1, hg, hA⟩
  have xw1 : Ext w w1 := Ext.trans (by repeat (first | (with_reducible exact Ext.refl _) | (with_reducible assumption) | (with_reducible refine Ext.alloc ?_ _) | (with_reducible refine Ext.drew ?_) | (with_reducible refine Ext.drewN ?_ _) | (with_reducible refine Ext.setCell ?_ (by simp; try omega) _) | (with_reducible refine Ext.setRow ?_ (by simp; try omega) _))) hx1
  have M1 : At w1 w.heap.size 34 #[.int .i64 0, .int .i64 0, .int .i64 0, .int .i64 0, .int .i64 0, .int .i64 0, .int .i64 0, .int .i64 0, .int .i64 0] := At.ext (by repeat (first | (with_reducible exact At.new _ _ _) | ((with_reducible refine At.new' _ _ _ _ ?_); simp; done) | (with_reducible assumption) | (with_reducible refine At.drew ?_) | (with_reducible refine At.alloc ?_ _) | (with_reducible apply At.upd) | (with_reducible apply At.setRow) | (with_reducible refine At.rowFar ?_ (by first | (simp; done) | (simp; omega) | omega) _) | ((with_reducible refine At.far ?_ (by first | (simp; done) | (simp; omega) | omega) _)) | (with_reducible rfl) | (simp; done))) hx1
  have hgw : w.heap.size < g := by simp at hg; omega
  have hgl : g < w1.heap.size := r1.ex.choose_spec.1.lt
  have haw : ∀ k ∈ ablk A1, w.heap.size < k := fun k hk => by have := hA k hk; simp at this; omega
  have s1 := M1.lt
  clear hA hg
  go_wp2_with fail
  obtain ⟨w3, hw3⟩ : ∃ W : World, W = w1.alloc (.cells #[.pointer (some ⟨g, 0, none⟩)] 73) := ⟨_, rfl⟩
  have h3 : DM w w3 w1.heap.size g A1 bs 0 #[.int .i64 0, .int .i64 0, .int .i64 0, .int .i64 0, .int .i64 0, .int .i64 0, .int .i64 0, .int .i64 0, .int .i64 0] := by rw [hw3]; exact ⟨xw1.alloc _, M1.alloc _, At.new _ _ _, r1.alloc6 _, haw, hgw, by omega, by omega⟩
  rw [← hw3]
  clear hw3
  generalize w1.heap.size = gb at *
  clear M1 r1 hgl s1 HC1 hx1 xw1
  have C4 := one6_c gb g A1 _ _ _ h3.x h3.r
  rw [e1] at C4
  simp only at C4
  refine C4.mono ?_
  rintro e w4 ⟨rfl, B4, r4⟩
  have h4 := h3.read r4
  clear C4 r4 h3
  have cX := cellsAt_at h4.m
  have sX := h4.m.lt
  have bX : (World.cell? _ ⟨gb, 0, none⟩) = some (.pointer (some ⟨g, 0, none⟩)) := h4.x.cell 0
  have dX := h4.x.lt
  have gX := h4.bw
  have hX := h4.gw
  go_wp2_with fail
  clear cX sX bX dX gX hX
  have C5 := one6_c gb g B4 _ _ _ h4.x h4.r
  rw [e2] at C5
  simp only at C5
  refine C5.mono ?_
  rintro e w5 ⟨rfl, B5, r5⟩
  have h5 := h4.read r5
  clear C5 r5 h4
  have cX := cellsAt_at h5.m
  have sX := h5.m.lt
  have bX : (World.cell? _ ⟨gb, 0, none⟩) = some (.pointer (some ⟨g, 0, none⟩)) := h5.x.cell 0
  have dX := h5.x.lt
  have gX := h5.bw
  have hX := h5.gw
  go_wp2_with fail
  clear cX sX bX dX gX hX
  have C6 := one6_c gb g B5 _ _ _ h5.x h5.r
  rw [e3] at C6
  simp only at C6
  refine C6.mono ?_
  rintro e w6 ⟨rfl, B6, r6⟩
  have h6 := h5.read r6
  clear C6 r6 h5
  have cX := cellsAt_at h6.m
  have sX := h6.m.lt
  have bX : (World.cell? _ ⟨gb, 0, none⟩) = some (.pointer (some ⟨g, 0, none⟩)) := h6.x.cell 0
  have dX := h6.x.lt
  have gX := h6.bw
  have hX := h6.gw
  go_wp2_with fail
  clear cX sX bX dX gX hX
  obtain ⟨w7, hw7⟩ : ∃ W : World, W = (((w6.setCell ⟨w.heap.size, 0, none⟩ (.int .i64 (va : Int))).setCell ⟨w.heap.size, 1, none⟩ (.int .i64 (vb : Int))).setCell ⟨w.heap.size, 8, none⟩ (.int .i64 (vc : Int))) := ⟨_, rfl⟩
  have h7 : DM w w7 gb g B6 s3 f3 #[.int .i64 (va : Int), .int .i64 (vb : Int), .int .i64 0, .int .i64 0, .int .i64 0, .int .i64 0, .int .i64 0, .int .i64 0, .int .i64 (vc : Int)] := by rw [hw7]; exact (((h6.store 0 _).store 1 _).store 8 _)
  rw [← hw7]
  clear hw7 h6
  have cX := cellsAt_at h7.m
  have sX := h7.m.lt
  have bX : (World.cell? _ ⟨gb, 0, none⟩) = some (.pointer (some ⟨g, 0, none⟩)) := h7.x.cell 0
  have dX := h7.x.lt
  have gX := h7.bw
  have hX := h7.gw
  have hM0 := h7.x
  refine wp_region_s [0, 1, 0, 1, 1, 1] (fun x => ∀ b ∈ [gb], x.heap[b]? = w7.heap[b]?) (by kernel_rfl) (by kernel_rfl) ?_
  refine hls_same (fun K hK => ?_)
  go_simp
  refine hK _ ?_
  clear hK K
  refine hls_skip (by decide) ?_
  refine hls_same (fun K hK => ?_)
  go_simp
  refine hK _ ?_
  clear hK K
  refine hls_skip (by decide) ?_
  refine hls_skip (by decide) ?_
  refine hls_skip (by decide) ?_
  refine hls_nil ?_
  intro w8 hxw8 K hK
  clear cX sX bX dX gX hX
  have h8 := h7.extR hxw8
  clear h7
  refine ms_pass ?_
  refine ms_do (by decide) (fun b hb => by simp at hb; subst hb; exact h8.x.trans hM0.symm) (fun K' hK' => ?_)
  have cX := cellsAt_at h8.m
  have sX := h8.m.lt
  have bX : (World.cell? _ ⟨gb, 0, none⟩) = some (.pointer (some ⟨g, 0, none⟩)) := h8.x.cell 0
  have dX := h8.x.lt
  have gX := h8.bw
  have hX := h8.gw
  go_wp2_with fail
  clear cX sX bX dX gX hX
  have C9 := rdnum_c g B6 _ _ _ h8.r
  rw [e4] at C9
  simp only at C9
  refine C9.mono ?_
  rintro e w9 ⟨rfl, B9, r9⟩
  have h9 := h8.read r9
  clear C9 r9
  have cX := cellsAt_at h9.m
  have sX := h9.m.lt
  have bX : (World.cell? _ ⟨gb, 0, none⟩) = some (.pointer (some ⟨g, 0, none⟩)) := h9.x.cell 0
  have dX := h9.x.lt
  have gX := h9.bw
  have hX := h9.gw
  go_wp2_with fail
  clear cX sX bX dX gX hX
  refine ms_pass ?_
  refine ms_do (by decide) (fun b hb => by simp at hb; subst hb; exact h9.x.trans hM0.symm) (fun K' hK' => ?_)
  have cX := cellsAt_at h9.m
  have sX := h9.m.lt
  have bX : (World.cell? _ ⟨gb, 0, none⟩) = some (.pointer (some ⟨g, 0, none⟩)) := h9.x.cell 0
  have dX := h9.x.lt
  have gX := h9.bw
  have hX := h9.gw
  go_wp2_with fail
  clear cX sX bX dX gX hX
  have C10 := rdnum_c g B9 _ _ _ h9.r
  rw [e5] at C10
  simp only at C10
  refine C10.mono ?_
  rintro e w10 ⟨rfl, B10, r10⟩
  have h10 := h9.read r10
  clear C10 r10
  have cX := cellsAt_at h10.m
  have sX := h10.m.lt
  have bX : (World.cell? _ ⟨gb, 0, none⟩) = some (.pointer (some ⟨g, 0, none⟩)) := h10.x.cell 0
  have dX := h10.x.lt
  have gX := h10.bw
  have hX := h10.gw
  go_wp2_with fail
  clear cX sX bX dX gX hX
  refine ms_do (by decide) (fun b hb => by simp at hb; subst hb; exact h10.x.trans hM0.symm) (fun K' hK' => ?_)
  have cX := cellsAt_at h10.m
  have sX := h10.m.lt
  have bX : (World.cell? _ ⟨gb, 0, none⟩) = some (.pointer (some ⟨g, 0, none⟩)) := h10.x.cell 0
  have dX := h10.x.lt
  have gX := h10.bw
  have hX := h10.gw
  go_wp2_with fail
  clear cX sX bX dX gX hX
  refine ms_do (by decide) (fun b hb => by simp at hb; subst hb; exact h10.x.trans hM0.symm) (fun K' hK' => ?_)
  have cX := cellsAt_at h10.m
  have sX := h10.m.lt
  have bX : (World.cell? _ ⟨gb, 0, none⟩) = some (.pointer (some ⟨g, 0, none⟩)) := h10.x.cell 0
  have dX := h10.x.lt
  have gX := h10.bw
  have hX := h10.gw
  go_wp2_with fail
  clear cX sX bX dX gX hX
  refine ms_nil (fun b hb => by simp at hb; subst hb; exact h10.x.trans hM0.symm) (hK _ _ ?_)
  have cX := cellsAt_at h10.m
  have sX := h10.m.lt
  have bX : (World.cell? _ ⟨gb, 0, none⟩) = some (.pointer (some ⟨g, 0, none⟩)) := h10.x.cell 0
  have dX := h10.x.lt
  have gX := h10.bw
  have hX := h10.gw
  go_wp2_with fail
  clear cX sX bX dX gX hX
  have C11 := rdint_c g B10 _ _ _ h10.r
  have E11 := Prod.ext_iff.1 e6
  simp only at E11
  rw [E11.1, E11.2] at C11
  simp only at C11
  refine C11.mono ?_
  rintro e w11 ⟨rfl, B11, r11⟩
  have h11 := h10.read r11
  clear C11 r11 h10
  have cX := cellsAt_at h11.m
  have sX := h11.m.lt
  have bX : (World.cell? _ ⟨gb, 0, none⟩) = some (.pointer (some ⟨g, 0, none⟩)) := h11.x.cell 0
  have dX := h11.x.lt
  have gX := h11.bw
  have hX := h11.gw
  go_wp2_with fail
  clear cX sX bX dX gX hX
  have C12 := rdint_c g B11 _ _ _ h11.r
  have E12 := Prod.ext_iff.1 e7
  simp only at E12
  rw [E12.1, E12.2] at C12
  simp only at C12
  refine C12.mono ?_
  rintro e w12 ⟨rfl, B12, r12⟩
  have h12 := h11.read r12
  clear C12 r12 h11
  have cX := cellsAt_at h12.m
  have sX := h12.m.lt
  have bX : (World.cell? _ ⟨gb, 0, none⟩) = some (.pointer (some ⟨g, 0, none⟩)) := h12.x.cell 0
  have dX := h12.x.lt
  have gX := h12.bw
  have hX := h12.gw
  go_wp2_with fail
  clear cX sX bX dX gX hX
  have C13 := rdint_c g B12 _ _ _ h12.r
  have E13 := Prod.ext_iff.1 e8
  simp only at E13
  rw [E13.1, E13.2] at C13
  simp only at C13
  refine C13.mono ?_
  rintro e w13 ⟨rfl, B13, r13⟩
  have h13 := h12.read r13
  clear C13 r13 h12
  have cX := cellsAt_at h13.m
  have sX := h13.m.lt
  have bX : (World.cell? _ ⟨gb, 0, none⟩) = some (.pointer (some ⟨g, 0, none⟩)) := h13.x.cell 0
  have dX := h13.x.lt
  have gX := h13.bw
  have hX := h13.gw
  go_wp2_with fail
  clear cX sX bX dX gX hX
  have C14 := rdint_c g B13 _ _ _ h13.r
  have E14 := Prod.ext_iff.1 e9
  simp only at E14
  rw [E14.1, E14.2] at C14
  simp only at C14
  refine C14.mono ?_
  rintro e w14 ⟨rfl, B14, r14⟩
  have h14 := h13.read r14
  clear C14 r14 h13
  have cX := cellsAt_at h14.m
  have sX := h14.m.lt
  have bX : (World.cell? _ ⟨gb, 0, none⟩) = some (.pointer (some ⟨g, 0, none⟩)) := h14.x.cell 0
  have dX := h14.x.lt
  have gX := h14.bw
  have hX := h14.gw
  go_wp2_with fail
  clear cX sX bX dX gX hX
  obtain ⟨w15, hw15⟩ : ∃ W : World, W = ((((w14.setCell ⟨w.heap.size, 4, none⟩ (.int .i64 vi)).setCell ⟨w.heap.size, 5, none⟩ (.int .i64 vj)).setCell ⟨w.heap.size, 6, none⟩ (.int .i64 vp)).setCell ⟨w.heap.size, 7, none⟩ (.int .i64 vq)) := ⟨_, rfl⟩
  have h15 : DM w w15 gb g B14 s9 f9 #[.int .i64 (va : Int), .int .i64 (vb : Int), .int .i64 0, .int .i64 0, .int .i64 vi, .int .i64 vj, .int .i64 vp, .int .i64 vq, .int .i64 (vc : Int)] := by rw [hw15]; exact ((((h14.store 4 _).store 5 _).store 6 _).store 7 _)
  rw [← hw15]
  clear hw15 h14
  refine (fault_c g B14 _ _ _ h15.r).mono ?_
  rintro e w16 ⟨rfl, x16⟩
  have h16 := h15.extR x16
  clear h15
  by_cases hf : f9 = 0
  · have hfb : (f9 != 0) = false := by simp [hf]
    have HF := Lib.hid hf
    clear hf
    by_cases hv2 : vd ≤ 4611686018427387905
    · have ew2 : IntKind.i64.wrap (vd : Int) = (vd : Int) := by rw [IntWalk.i64_left, wrap64_in ⟨by omega, by omega⟩]
      have hm2 : ((min vd 4611686018427387905 : Nat) : Int) = (vd : Int) := by rw [Nat.min_eq_left hv2]
      have HM2 := Lib.hid hm2
      clear hm2
      have hvi2 : (vd : Int) ≤ 4611686018427387905 := by omega
      by_cases hv3 : ve ≤ 4611686018427387905
      · have ew3 : IntKind.i64.wrap (ve : Int) = (ve : Int) := by rw [IntWalk.i64_left, wrap64_in ⟨by omega, by omega⟩]
        have hm3 : ((min ve 4611686018427387905 : Nat) : Int) = (ve : Int) := by rw [Nat.min_eq_left hv3]
        have HM3 := Lib.hid hm3
        clear hm3
        have hvi3 : (ve : Int) ≤ 4611686018427387905 := by omega
        have cX := cellsAt_at h16.m
        have sX := h16.m.lt
        have bX : (World.cell? _ ⟨gb, 0, none⟩) = some (.pointer (some ⟨g, 0, none⟩)) := h16.x.cell 0
        have dX := h16.x.lt
        have gX := h16.bw
        have hX := h16.gw
        go_wp2_with fail
        clear cX sX bX dX gX hX
        obtain ⟨w17, hw17⟩ : ∃ W : World, W = ((w16.setCell ⟨w.heap.size, 2, none⟩ (.int .i64 (vd : Int))).setCell ⟨w.heap.size, 3, none⟩ (.int .i64 (ve : Int))) := ⟨_, rfl⟩
        have h17 : DM w w17 gb g B14 s9 f9 #[.int .i64 (va : Int), .int .i64 (vb : Int), .int .i64 (vd : Int), .int .i64 (ve : Int), .int .i64 vi, .int .i64 vj, .int .i64 vp, .int .i64 vq, .int .i64 (vc : Int)] := by rw [hw17]; exact ((h16.store 2 _).store 3 _)
        rw [← hw17]
        clear hw17 h16
        refine (left_c g B14 _ _ _ h17.r).mono ?_
        rintro e w18 ⟨rfl, x18⟩
        have h18 := h17.extR x18
        clear h17
        obtain ⟨cc, hcc⟩ : ∃ cc : Mg, cc = (⟨(va : Int), (vb : Int), (vd : Int), (ve : Int), vi, vj, vp, vq, (vc : Int)⟩ : Mg) := ⟨_, rfl⟩
        have hfin : finM ⟨(va : Int), (vb : Int), (min vd 4611686018427387905 : Nat), (min ve 4611686018427387905 : Nat), vi, vj, vp, vq, (vc : Int)⟩ s9 f9 = finM cc s9 0 := by rw [HM2.out, HM3.out, HF.out, hcc]
        have HFINL := Lib.hid hfin
        clear hfin
        have CR := right_c cc
        have hcv : (#[.int .i64 (va : Int), .int .i64 (vb : Int), .int .i64 (vd : Int), .int .i64 (ve : Int), .int .i64 vi, .int .i64 vj, .int .i64 vp, .int .i64 vq, .int .i64 (vc : Int)] : Array Value) = #[.int .i64 cc.kind, .int .i64 cc.sym, .int .i64 cc.seq, .int .i64 cc.tick, .int .i64 cc.id, .int .i64 cc.wth, .int .i64 cc.price, .int .i64 cc.qty, .int .i64 cc.code] := by rw [hcc]
        rw [← hcv] at CR
        have HCV := Lib.hid hcv
        clear hcv
        by_cases hr : 0 < s9.length
        · have hfz : finM ⟨(va : Int), (vb : Int), (min vd 4611686018427387905 : Nat), (min ve 4611686018427387905 : Nat), vi, vj, vp, vq, (vc : Int)⟩ s9 f9 = (zeroM, 4) := by rw [HFINL.out]; unfold finM; rw [if_neg (by simp), if_pos (.inl hr)]
          have HFIN := Lib.hid hfz
          clear hfz CR
          have hri : (0 : Int) < (s9.length : Int) := by omega
          have cX := cellsAt_at h18.m
          have sX := h18.m.lt
          have bX : (World.cell? _ ⟨gb, 0, none⟩) = some (.pointer (some ⟨g, 0, none⟩)) := h18.x.cell 0
          have dX := h18.x.lt
          have gX := h18.bw
          have hX := h18.gw
          go_wp2_with fail
          clear cX sX bX dX gX hX
          obtain ⟨wz, hwz⟩ : ∃ W : World, W = w18.setRow w.heap.size #[.int .i64 0, .int .i64 0, .int .i64 0, .int .i64 0, .int .i64 0, .int .i64 0, .int .i64 0, .int .i64 0, .int .i64 0] := ⟨_, rfl⟩
          have xz : Ext w wz := by rw [hwz]; exact (h18.row _).1
          have mz : At wz w.heap.size 34 #[.int .i64 0, .int .i64 0, .int .i64 0, .int .i64 0, .int .i64 0, .int .i64 0, .int .i64 0, .int .i64 0, .int .i64 0] := by rw [hwz]; exact (h18.row _).2
          rw [← hwz]
          clear hwz h18
          have ez := cellsAt_at mz
          have sz := mz.lt
          first | refine fin_ret rfl (fun K hK => ?_) | refine fin_norm rfl (fun K hK => ?_)
          simp [results, Try.results30, go_sem, rsat]
          try go_simp
          refine hK _ ?_
          clear hK K
          exact ⟨xz, zeroM, 4, rfl, by rw [HFIN.out]⟩
        have hr0 : s9.length = 0 := by omega
        have hri : ¬ (0 : Int) < (s9.length : Int) := by omega
        cases hR : rightB cc with
        | false =>
          rw [hR] at CR
          have HCR := Lib.hid CR
          clear CR
          have hfz : finM ⟨(va : Int), (vb : Int), (min vd 4611686018427387905 : Nat), (min ve 4611686018427387905 : Nat), vi, vj, vp, vq, (vc : Int)⟩ s9 f9 = (zeroM, 4) := by rw [HFINL.out]; unfold finM; rw [if_neg (by simp), if_pos (.inr hR)]
          have HFIN := Lib.hid hfz
          have HR0 := Lib.hid hr0
          clear hfz hR hr0
          have cX := cellsAt_at h18.m
          have sX := h18.m.lt
          have bX : (World.cell? _ ⟨gb, 0, none⟩) = some (.pointer (some ⟨g, 0, none⟩)) := h18.x.cell 0
          have dX := h18.x.lt
          have gX := h18.bw
          have hX := h18.gw
          go_wp2_with fail
          clear cX sX bX dX gX hX
          refine (HCR.out _).mono ?_
          rintro e w19 ⟨rfl, x19⟩
          have h19 := h18.extR x19
          clear h18
          have cX := cellsAt_at h19.m
          have sX := h19.m.lt
          have bX : (World.cell? _ ⟨gb, 0, none⟩) = some (.pointer (some ⟨g, 0, none⟩)) := h19.x.cell 0
          have dX := h19.x.lt
          have gX := h19.bw
          have hX := h19.gw
          go_wp2_with fail
          clear cX sX bX dX gX hX
          obtain ⟨wz, hwz⟩ : ∃ W : World, W = w19.setRow w.heap.size #[.int .i64 0, .int .i64 0, .int .i64 0, .int .i64 0, .int .i64 0, .int .i64 0, .int .i64 0, .int .i64 0, .int .i64 0] := ⟨_, rfl⟩
          have xz : Ext w wz := by rw [hwz]; exact (h19.row _).1
          have mz : At wz w.heap.size 34 #[.int .i64 0, .int .i64 0, .int .i64 0, .int .i64 0, .int .i64 0, .int .i64 0, .int .i64 0, .int .i64 0, .int .i64 0] := by rw [hwz]; exact (h19.row _).2
          rw [← hwz]
          clear hwz h19
          have ez := cellsAt_at mz
          have sz := mz.lt
          first | refine fin_ret rfl (fun K hK => ?_) | refine fin_norm rfl (fun K hK => ?_)
          simp [results, Try.results30, go_sem, rsat]
          try go_simp
          refine hK _ ?_
          clear hK K
          exact ⟨xz, zeroM, 4, rfl, by rw [HFIN.out]⟩
        | true =>
          rw [hR] at CR
          have HCR := Lib.hid CR
          clear CR
          have hfz : finM ⟨(va : Int), (vb : Int), (min vd 4611686018427387905 : Nat), (min ve 4611686018427387905 : Nat), vi, vj, vp, vq, (vc : Int)⟩ s9 f9 = (cc, 0) := by rw [HFINL.out]; unfold finM; rw [if_neg (by simp), if_neg (by rintro (h9 | h9); exact absurd h9 hr; rw [hR] at h9; cases h9)]
          have HFIN := Lib.hid hfz
          have HR0 := Lib.hid hr0
          clear hfz hR hr0
          have cX := cellsAt_at h18.m
          have sX := h18.m.lt
          have bX : (World.cell? _ ⟨gb, 0, none⟩) = some (.pointer (some ⟨g, 0, none⟩)) := h18.x.cell 0
          have dX := h18.x.lt
          have gX := h18.bw
          have hX := h18.gw
          go_wp2_with fail
          clear cX sX bX dX gX hX
          refine (HCR.out _).mono ?_
          rintro e w19 ⟨rfl, x19⟩
          have h19 := h18.extR x19
          clear h18
          have cX := cellsAt_at h19.m
          have sX := h19.m.lt
          have bX : (World.cell? _ ⟨gb, 0, none⟩) = some (.pointer (some ⟨g, 0, none⟩)) := h19.x.cell 0
          have dX := h19.x.lt
          have gX := h19.bw
          have hX := h19.gw
          go_wp2_with fail
          clear cX sX bX dX gX hX
          obtain ⟨wz, hwz⟩ : ∃ W : World, W = w19.setRow w.heap.size #[.int .i64 (va : Int), .int .i64 (vb : Int), .int .i64 (vd : Int), .int .i64 (ve : Int), .int .i64 vi, .int .i64 vj, .int .i64 vp, .int .i64 vq, .int .i64 (vc : Int)] := ⟨_, rfl⟩
          have xz : Ext w wz := by rw [hwz]; exact (h19.row _).1
          have mz : At wz w.heap.size 34 #[.int .i64 (va : Int), .int .i64 (vb : Int), .int .i64 (vd : Int), .int .i64 (ve : Int), .int .i64 vi, .int .i64 vj, .int .i64 vp, .int .i64 vq, .int .i64 (vc : Int)] := by rw [hwz]; exact (h19.row _).2
          rw [← hwz]
          clear hwz h19
          have ez := cellsAt_at mz
          have sz := mz.lt
          first | refine fin_ret rfl (fun K hK => ?_) | refine fin_norm rfl (fun K hK => ?_)
          simp [results, Try.results30, go_sem, rsat]
          try go_simp
          refine hK _ ?_
          clear hK K
          exact ⟨xz, cc, 0, by rw [← HCV.out], by rw [HFIN.out]⟩
      · have hm3 : ((min ve 4611686018427387905 : Nat) : Int) = 4611686018427387905 := by rw [Nat.min_eq_right (by omega)]; rfl
        have HM3 := Lib.hid hm3
        clear hm3
        have hvi3 : 4611686018427387905 < (ve : Int) := by omega
        have cX := cellsAt_at h16.m
        have sX := h16.m.lt
        have bX : (World.cell? _ ⟨gb, 0, none⟩) = some (.pointer (some ⟨g, 0, none⟩)) := h16.x.cell 0
        have dX := h16.x.lt
        have gX := h16.bw
        have hX := h16.gw
        go_wp2_with fail
        clear cX sX bX dX gX hX
        obtain ⟨w17, hw17⟩ : ∃ W : World, W = ((w16.setCell ⟨w.heap.size, 2, none⟩ (.int .i64 (vd : Int))).setCell ⟨w.heap.size, 3, none⟩ (.int .i64 4611686018427387905)) := ⟨_, rfl⟩
        have h17 : DM w w17 gb g B14 s9 f9 #[.int .i64 (va : Int), .int .i64 (vb : Int), .int .i64 (vd : Int), .int .i64 4611686018427387905, .int .i64 vi, .int .i64 vj, .int .i64 vp, .int .i64 vq, .int .i64 (vc : Int)] := by rw [hw17]; exact ((h16.store 2 _).store 3 _)
        rw [← hw17]
        clear hw17 h16
        refine (left_c g B14 _ _ _ h17.r).mono ?_
        rintro e w18 ⟨rfl, x18⟩
        have h18 := h17.extR x18
        clear h17
        obtain ⟨cc, hcc⟩ : ∃ cc : Mg, cc = (⟨(va : Int), (vb : Int), (vd : Int), 4611686018427387905, vi, vj, vp, vq, (vc : Int)⟩ : Mg) := ⟨_, rfl⟩
        have hfin : finM ⟨(va : Int), (vb : Int), (min vd 4611686018427387905 : Nat), (min ve 4611686018427387905 : Nat), vi, vj, vp, vq, (vc : Int)⟩ s9 f9 = finM cc s9 0 := by rw [HM2.out, HM3.out, HF.out, hcc]
        have HFINL := Lib.hid hfin
        clear hfin
        have CR := right_c cc
        have hcv : (#[.int .i64 (va : Int), .int .i64 (vb : Int), .int .i64 (vd : Int), .int .i64 4611686018427387905, .int .i64 vi, .int .i64 vj, .int .i64 vp, .int .i64 vq, .int .i64 (vc : Int)] : Array Value) = #[.int .i64 cc.kind, .int .i64 cc.sym, .int .i64 cc.seq, .int .i64 cc.tick, .int .i64 cc.id, .int .i64 cc.wth, .int .i64 cc.price, .int .i64 cc.qty, .int .i64 cc.code] := by rw [hcc]
        rw [← hcv] at CR
        have HCV := Lib.hid hcv
        clear hcv
        by_cases hr : 0 < s9.length
        · have hfz : finM ⟨(va : Int), (vb : Int), (min vd 4611686018427387905 : Nat), (min ve 4611686018427387905 : Nat), vi, vj, vp, vq, (vc : Int)⟩ s9 f9 = (zeroM, 4) := by rw [HFINL.out]; unfold finM; rw [if_neg (by simp), if_pos (.inl hr)]
          have HFIN := Lib.hid hfz
          clear hfz CR
          have hri : (0 : Int) < (s9.length : Int) := by omega
          have cX := cellsAt_at h18.m
          have sX := h18.m.lt
          have bX : (World.cell? _ ⟨gb, 0, none⟩) = some (.pointer (some ⟨g, 0, none⟩)) := h18.x.cell 0
          have dX := h18.x.lt
          have gX := h18.bw
          have hX := h18.gw
          go_wp2_with fail
          clear cX sX bX dX gX hX
          obtain ⟨wz, hwz⟩ : ∃ W : World, W = w18.setRow w.heap.size #[.int .i64 0, .int .i64 0, .int .i64 0, .int .i64 0, .int .i64 0, .int .i64 0, .int .i64 0, .int .i64 0, .int .i64 0] := ⟨_, rfl⟩
          have xz : Ext w wz := by rw [hwz]; exact (h18.row _).1
          have mz : At wz w.heap.size 34 #[.int .i64 0, .int .i64 0, .int .i64 0, .int .i64 0, .int .i64 0, .int .i64 0, .int .i64 0, .int .i64 0, .int .i64 0] := by rw [hwz]; exact (h18.row _).2
          rw [← hwz]
          clear hwz h18
          have ez := cellsAt_at mz
          have sz := mz.lt
          first | refine fin_ret rfl (fun K hK => ?_) | refine fin_norm rfl (fun K hK => ?_)
          simp [results, Try.results30, go_sem, rsat]
          try go_simp
          refine hK _ ?_
          clear hK K
          exact ⟨xz, zeroM, 4, rfl, by rw [HFIN.out]⟩
        have hr0 : s9.length = 0 := by omega
        have hri : ¬ (0 : Int) < (s9.length : Int) := by omega
        cases hR : rightB cc with
        | false =>
          rw [hR] at CR
          have HCR := Lib.hid CR
          clear CR
          have hfz : finM ⟨(va : Int), (vb : Int), (min vd 4611686018427387905 : Nat), (min ve 4611686018427387905 : Nat), vi, vj, vp, vq, (vc : Int)⟩ s9 f9 = (zeroM, 4) := by rw [HFINL.out]; unfold finM; rw [if_neg (by simp), if_pos (.inr hR)]
          have HFIN := Lib.hid hfz
          have HR0 := Lib.hid hr0
          clear hfz hR hr0
          have cX := cellsAt_at h18.m
          have sX := h18.m.lt
          have bX : (World.cell? _ ⟨gb, 0, none⟩) = some (.pointer (some ⟨g, 0, none⟩)) := h18.x.cell 0
          have dX := h18.x.lt
          have gX := h18.bw
          have hX := h18.gw
          go_wp2_with fail
          clear cX sX bX dX gX hX
          refine (HCR.out _).mono ?_
          rintro e w19 ⟨rfl, x19⟩
          have h19 := h18.extR x19
          clear h18
          have cX := cellsAt_at h19.m
          have sX := h19.m.lt
          have bX : (World.cell? _ ⟨gb, 0, none⟩) = some (.pointer (some ⟨g, 0, none⟩)) := h19.x.cell 0
          have dX := h19.x.lt
          have gX := h19.bw
          have hX := h19.gw
          go_wp2_with fail
          clear cX sX bX dX gX hX
          obtain ⟨wz, hwz⟩ : ∃ W : World, W = w19.setRow w.heap.size #[.int .i64 0, .int .i64 0, .int .i64 0, .int .i64 0, .int .i64 0, .int .i64 0, .int .i64 0, .int .i64 0, .int .i64 0] := ⟨_, rfl⟩
          have xz : Ext w wz := by rw [hwz]; exact (h19.row _).1
          have mz : At wz w.heap.size 34 #[.int .i64 0, .int .i64 0, .int .i64 0, .int .i64 0, .int .i64 0, .int .i64 0, .int .i64 0, .int .i64 0, .int .i64 0] := by rw [hwz]; exact (h19.row _).2
          rw [← hwz]
          clear hwz h19
          have ez := cellsAt_at mz
          have sz := mz.lt
          first | refine fin_ret rfl (fun K hK => ?_) | refine fin_norm rfl (fun K hK => ?_)
          simp [results, Try.results30, go_sem, rsat]
          try go_simp
          refine hK _ ?_
          clear hK K
          exact ⟨xz, zeroM, 4, rfl, by rw [HFIN.out]⟩
        | true =>
          rw [hR] at CR
          have HCR := Lib.hid CR
          clear CR
          have hfz : finM ⟨(va : Int), (vb : Int), (min vd 4611686018427387905 : Nat), (min ve 4611686018427387905 : Nat), vi, vj, vp, vq, (vc : Int)⟩ s9 f9 = (cc, 0) := by rw [HFINL.out]; unfold finM; rw [if_neg (by simp), if_neg (by rintro (h9 | h9); exact absurd h9 hr; rw [hR] at h9; cases h9)]
          have HFIN := Lib.hid hfz
          have HR0 := Lib.hid hr0
          clear hfz hR hr0
          have cX := cellsAt_at h18.m
          have sX := h18.m.lt
          have bX : (World.cell? _ ⟨gb, 0, none⟩) = some (.pointer (some ⟨g, 0, none⟩)) := h18.x.cell 0
          have dX := h18.x.lt
          have gX := h18.bw
          have hX := h18.gw
          go_wp2_with fail
          clear cX sX bX dX gX hX
          refine (HCR.out _).mono ?_
          rintro e w19 ⟨rfl, x19⟩
          have h19 := h18.extR x19
          clear h18
          have cX := cellsAt_at h19.m
          have sX := h19.m.lt
          have bX : (World.cell? _ ⟨gb, 0, none⟩) = some (.pointer (some ⟨g, 0, none⟩)) := h19.x.cell 0
          have dX := h19.x.lt
          have gX := h19.bw
          have hX := h19.gw
          go_wp2_with fail
          clear cX sX bX dX gX hX
          obtain ⟨wz, hwz⟩ : ∃ W : World, W = w19.setRow w.heap.size #[.int .i64 (va : Int), .int .i64 (vb : Int), .int .i64 (vd : Int), .int .i64 4611686018427387905, .int .i64 vi, .int .i64 vj, .int .i64 vp, .int .i64 vq, .int .i64 (vc : Int)] := ⟨_, rfl⟩
          have xz : Ext w wz := by rw [hwz]; exact (h19.row _).1
          have mz : At wz w.heap.size 34 #[.int .i64 (va : Int), .int .i64 (vb : Int), .int .i64 (vd : Int), .int .i64 4611686018427387905, .int .i64 vi, .int .i64 vj, .int .i64 vp, .int .i64 vq, .int .i64 (vc : Int)] := by rw [hwz]; exact (h19.row _).2
          rw [← hwz]
          clear hwz h19
          have ez := cellsAt_at mz
          have sz := mz.lt
          first | refine fin_ret rfl (fun K hK => ?_) | refine fin_norm rfl (fun K hK => ?_)
          simp [results, Try.results30, go_sem, rsat]
          try go_simp
          refine hK _ ?_
          clear hK K
          exact ⟨xz, cc, 0, by rw [← HCV.out], by rw [HFIN.out]⟩
    · have hm2 : ((min vd 4611686018427387905 : Nat) : Int) = 4611686018427387905 := by rw [Nat.min_eq_right (by omega)]; rfl
      have HM2 := Lib.hid hm2
      clear hm2
      have hvi2 : 4611686018427387905 < (vd : Int) := by omega
      by_cases hv3 : ve ≤ 4611686018427387905
      · have ew3 : IntKind.i64.wrap (ve : Int) = (ve : Int) := by rw [IntWalk.i64_left, wrap64_in ⟨by omega, by omega⟩]
        have hm3 : ((min ve 4611686018427387905 : Nat) : Int) = (ve : Int) := by rw [Nat.min_eq_left hv3]
        have HM3 := Lib.hid hm3
        clear hm3
        have hvi3 : (ve : Int) ≤ 4611686018427387905 := by omega
        have cX := cellsAt_at h16.m
        have sX := h16.m.lt
        have bX : (World.cell? _ ⟨gb, 0, none⟩) = some (.pointer (some ⟨g, 0, none⟩)) := h16.x.cell 0
        have dX := h16.x.lt
        have gX := h16.bw
        have hX := h16.gw
        go_wp2_with fail
        clear cX sX bX dX gX hX
        obtain ⟨w17, hw17⟩ : ∃ W : World, W = ((w16.setCell ⟨w.heap.size, 2, none⟩ (.int .i64 4611686018427387905)).setCell ⟨w.heap.size, 3, none⟩ (.int .i64 (ve : Int))) := ⟨_, rfl⟩
        have h17 : DM w w17 gb g B14 s9 f9 #[.int .i64 (va : Int), .int .i64 (vb : Int), .int .i64 4611686018427387905, .int .i64 (ve : Int), .int .i64 vi, .int .i64 vj, .int .i64 vp, .int .i64 vq, .int .i64 (vc : Int)] := by rw [hw17]; exact ((h16.store 2 _).store 3 _)
        rw [← hw17]
        clear hw17 h16
        refine (left_c g B14 _ _ _ h17.r).mono ?_
        rintro e w18 ⟨rfl, x18⟩
        have h18 := h17.extR x18
        clear h17
        obtain ⟨cc, hcc⟩ : ∃ cc : Mg, cc = (⟨(va : Int), (vb : Int), 4611686018427387905, (ve : Int), vi, vj, vp, vq, (vc : Int)⟩ : Mg) := ⟨_, rfl⟩
        have hfin : finM ⟨(va : Int), (vb : Int), (min vd 4611686018427387905 : Nat), (min ve 4611686018427387905 : Nat), vi, vj, vp, vq, (vc : Int)⟩ s9 f9 = finM cc s9 0 := by rw [HM2.out, HM3.out, HF.out, hcc]
        have HFINL := Lib.hid hfin
        clear hfin
        have CR := right_c cc
        have hcv : (#[.int .i64 (va : Int), .int .i64 (vb : Int), .int .i64 4611686018427387905, .int .i64 (ve : Int), .int .i64 vi, .int .i64 vj, .int .i64 vp, .int .i64 vq, .int .i64 (vc : Int)] : Array Value) = #[.int .i64 cc.kind, .int .i64 cc.sym, .int .i64 cc.seq, .int .i64 cc.tick, .int .i64 cc.id, .int .i64 cc.wth, .int .i64 cc.price, .int .i64 cc.qty, .int .i64 cc.code] := by rw [hcc]
        rw [← hcv] at CR
        have HCV := Lib.hid hcv
        clear hcv
        by_cases hr : 0 < s9.length
        · have hfz : finM ⟨(va : Int), (vb : Int), (min vd 4611686018427387905 : Nat), (min ve 4611686018427387905 : Nat), vi, vj, vp, vq, (vc : Int)⟩ s9 f9 = (zeroM, 4) := by rw [HFINL.out]; unfold finM; rw [if_neg (by simp), if_pos (.inl hr)]
          have HFIN := Lib.hid hfz
          clear hfz CR
          have hri : (0 : Int) < (s9.length : Int) := by omega
          have cX := cellsAt_at h18.m
          have sX := h18.m.lt
          have bX : (World.cell? _ ⟨gb, 0, none⟩) = some (.pointer (some ⟨g, 0, none⟩)) := h18.x.cell 0
          have dX := h18.x.lt
          have gX := h18.bw
          have hX := h18.gw
          go_wp2_with fail
          clear cX sX bX dX gX hX
          obtain ⟨wz, hwz⟩ : ∃ W : World, W = w18.setRow w.heap.size #[.int .i64 0, .int .i64 0, .int .i64 0, .int .i64 0, .int .i64 0, .int .i64 0, .int .i64 0, .int .i64 0, .int .i64 0] := ⟨_, rfl⟩
          have xz : Ext w wz := by rw [hwz]; exact (h18.row _).1
          have mz : At wz w.heap.size 34 #[.int .i64 0, .int .i64 0, .int .i64 0, .int .i64 0, .int .i64 0, .int .i64 0, .int .i64 0, .int .i64 0, .int .i64 0] := by rw [hwz]; exact (h18.row _).2
          rw [← hwz]
          clear hwz h18
          have ez := cellsAt_at mz
          have sz := mz.lt
          first | refine fin_ret rfl (fun K hK => ?_) | refine fin_norm rfl (fun K hK => ?_)
          simp [results, Try.results30, go_sem, rsat]
          try go_simp
          refine hK _ ?_
          clear hK K
          exact ⟨xz, zeroM, 4, rfl, by rw [HFIN.out]⟩
        have hr0 : s9.length = 0 := by omega
        have hri : ¬ (0 : Int) < (s9.length : Int) := by omega
        cases hR : rightB cc with
        | false =>
          rw [hR] at CR
          have HCR := Lib.hid CR
          clear CR
          have hfz : finM ⟨(va : Int), (vb : Int), (min vd 4611686018427387905 : Nat), (min ve 4611686018427387905 : Nat), vi, vj, vp, vq, (vc : Int)⟩ s9 f9 = (zeroM, 4) := by rw [HFINL.out]; unfold finM; rw [if_neg (by simp), if_pos (.inr hR)]
          have HFIN := Lib.hid hfz
          have HR0 := Lib.hid hr0
          clear hfz hR hr0
          have cX := cellsAt_at h18.m
          have sX := h18.m.lt
          have bX : (World.cell? _ ⟨gb, 0, none⟩) = some (.pointer (some ⟨g, 0, none⟩)) := h18.x.cell 0
          have dX := h18.x.lt
          have gX := h18.bw
          have hX := h18.gw
          go_wp2_with fail
          clear cX sX bX dX gX hX
          refine (HCR.out _).mono ?_
          rintro e w19 ⟨rfl, x19⟩
          have h19 := h18.extR x19
          clear h18
          have cX := cellsAt_at h19.m
          have sX := h19.m.lt
          have bX : (World.cell? _ ⟨gb, 0, none⟩) = some (.pointer (some ⟨g, 0, none⟩)) := h19.x.cell 0
          have dX := h19.x.lt
          have gX := h19.bw
          have hX := h19.gw
          go_wp2_with fail
          clear cX sX bX dX gX hX
          obtain ⟨wz, hwz⟩ : ∃ W : World, W = w19.setRow w.heap.size #[.int .i64 0, .int .i64 0, .int .i64 0, .int .i64 0, .int .i64 0, .int .i64 0, .int .i64 0, .int .i64 0, .int .i64 0] := ⟨_, rfl⟩
          have xz : Ext w wz := by rw [hwz]; exact (h19.row _).1
          have mz : At wz w.heap.size 34 #[.int .i64 0, .int .i64 0, .int .i64 0, .int .i64 0, .int .i64 0, .int .i64 0, .int .i64 0, .int .i64 0, .int .i64 0] := by rw [hwz]; exact (h19.row _).2
          rw [← hwz]
          clear hwz h19
          have ez := cellsAt_at mz
          have sz := mz.lt
          first | refine fin_ret rfl (fun K hK => ?_) | refine fin_norm rfl (fun K hK => ?_)
          simp [results, Try.results30, go_sem, rsat]
          try go_simp
          refine hK _ ?_
          clear hK K
          exact ⟨xz, zeroM, 4, rfl, by rw [HFIN.out]⟩
        | true =>
          rw [hR] at CR
          have HCR := Lib.hid CR
          clear CR
          have hfz : finM ⟨(va : Int), (vb : Int), (min vd 4611686018427387905 : Nat), (min ve 4611686018427387905 : Nat), vi, vj, vp, vq, (vc : Int)⟩ s9 f9 = (cc, 0) := by rw [HFINL.out]; unfold finM; rw [if_neg (by simp), if_neg (by rintro (h9 | h9); exact absurd h9 hr; rw [hR] at h9; cases h9)]
          have HFIN := Lib.hid hfz
          have HR0 := Lib.hid hr0
          clear hfz hR hr0
          have cX := cellsAt_at h18.m
          have sX := h18.m.lt
          have bX : (World.cell? _ ⟨gb, 0, none⟩) = some (.pointer (some ⟨g, 0, none⟩)) := h18.x.cell 0
          have dX := h18.x.lt
          have gX := h18.bw
          have hX := h18.gw
          go_wp2_with fail
          clear cX sX bX dX gX hX
          refine (HCR.out _).mono ?_
          rintro e w19 ⟨rfl, x19⟩
          have h19 := h18.extR x19
          clear h18
          have cX := cellsAt_at h19.m
          have sX := h19.m.lt
          have bX : (World.cell? _ ⟨gb, 0, none⟩) = some (.pointer (some ⟨g, 0, none⟩)) := h19.x.cell 0
          have dX := h19.x.lt
          have gX := h19.bw
          have hX := h19.gw
          go_wp2_with fail
          clear cX sX bX dX gX hX
          obtain ⟨wz, hwz⟩ : ∃ W : World, W = w19.setRow w.heap.size #[.int .i64 (va : Int), .int .i64 (vb : Int), .int .i64 4611686018427387905, .int .i64 (ve : Int), .int .i64 vi, .int .i64 vj, .int .i64 vp, .int .i64 vq, .int .i64 (vc : Int)] := ⟨_, rfl⟩
          have xz : Ext w wz := by rw [hwz]; exact (h19.row _).1
          have mz : At wz w.heap.size 34 #[.int .i64 (va : Int), .int .i64 (vb : Int), .int .i64 4611686018427387905, .int .i64 (ve : Int), .int .i64 vi, .int .i64 vj, .int .i64 vp, .int .i64 vq, .int .i64 (vc : Int)] := by rw [hwz]; exact (h19.row _).2
          rw [← hwz]
          clear hwz h19
          have ez := cellsAt_at mz
          have sz := mz.lt
          first | refine fin_ret rfl (fun K hK => ?_) | refine fin_norm rfl (fun K hK => ?_)
          simp [results, Try.results30, go_sem, rsat]
          try go_simp
          refine hK _ ?_
          clear hK K
          exact ⟨xz, cc, 0, by rw [← HCV.out], by rw [HFIN.out]⟩
      · have hm3 : ((min ve 4611686018427387905 : Nat) : Int) = 4611686018427387905 := by rw [Nat.min_eq_right (by omega)]; rfl
        have HM3 := Lib.hid hm3
        clear hm3
        have hvi3 : 4611686018427387905 < (ve : Int) := by omega
        have cX := cellsAt_at h16.m
        have sX := h16.m.lt
        have bX : (World.cell? _ ⟨gb, 0, none⟩) = some (.pointer (some ⟨g, 0, none⟩)) := h16.x.cell 0
        have dX := h16.x.lt
        have gX := h16.bw
        have hX := h16.gw
        go_wp2_with fail
        clear cX sX bX dX gX hX
        obtain ⟨w17, hw17⟩ : ∃ W : World, W = ((w16.setCell ⟨w.heap.size, 2, none⟩ (.int .i64 4611686018427387905)).setCell ⟨w.heap.size, 3, none⟩ (.int .i64 4611686018427387905)) := ⟨_, rfl⟩
        have h17 : DM w w17 gb g B14 s9 f9 #[.int .i64 (va : Int), .int .i64 (vb : Int), .int .i64 4611686018427387905, .int .i64 4611686018427387905, .int .i64 vi, .int .i64 vj, .int .i64 vp, .int .i64 vq, .int .i64 (vc : Int)] := by rw [hw17]; exact ((h16.store 2 _).store 3 _)
        rw [← hw17]
        clear hw17 h16
        refine (left_c g B14 _ _ _ h17.r).mono ?_
        rintro e w18 ⟨rfl, x18⟩
        have h18 := h17.extR x18
        clear h17
        obtain ⟨cc, hcc⟩ : ∃ cc : Mg, cc = (⟨(va : Int), (vb : Int), 4611686018427387905, 4611686018427387905, vi, vj, vp, vq, (vc : Int)⟩ : Mg) := ⟨_, rfl⟩
        have hfin : finM ⟨(va : Int), (vb : Int), (min vd 4611686018427387905 : Nat), (min ve 4611686018427387905 : Nat), vi, vj, vp, vq, (vc : Int)⟩ s9 f9 = finM cc s9 0 := by rw [HM2.out, HM3.out, HF.out, hcc]
        have HFINL := Lib.hid hfin
        clear hfin
        have CR := right_c cc
        have hcv : (#[.int .i64 (va : Int), .int .i64 (vb : Int), .int .i64 4611686018427387905, .int .i64 4611686018427387905, .int .i64 vi, .int .i64 vj, .int .i64 vp, .int .i64 vq, .int .i64 (vc : Int)] : Array Value) = #[.int .i64 cc.kind, .int .i64 cc.sym, .int .i64 cc.seq, .int .i64 cc.tick, .int .i64 cc.id, .int .i64 cc.wth, .int .i64 cc.price, .int .i64 cc.qty, .int .i64 cc.code] := by rw [hcc]
        rw [← hcv] at CR
        have HCV := Lib.hid hcv
        clear hcv
        by_cases hr : 0 < s9.length
        · have hfz : finM ⟨(va : Int), (vb : Int), (min vd 4611686018427387905 : Nat), (min ve 4611686018427387905 : Nat), vi, vj, vp, vq, (vc : Int)⟩ s9 f9 = (zeroM, 4) := by rw [HFINL.out]; unfold finM; rw [if_neg (by simp), if_pos (.inl hr)]
          have HFIN := Lib.hid hfz
          clear hfz CR
          have hri : (0 : Int) < (s9.length : Int) := by omega
          have cX := cellsAt_at h18.m
          have sX := h18.m.lt
          have bX : (World.cell? _ ⟨gb, 0, none⟩) = some (.pointer (some ⟨g, 0, none⟩)) := h18.x.cell 0
          have dX := h18.x.lt
          have gX := h18.bw
          have hX := h18.gw
          go_wp2_with fail
          clear cX sX bX dX gX hX
          obtain ⟨wz, hwz⟩ : ∃ W : World, W = w18.setRow w.heap.size #[.int .i64 0, .int .i64 0, .int .i64 0, .int .i64 0, .int .i64 0, .int .i64 0, .int .i64 0, .int .i64 0, .int .i64 0] := ⟨_, rfl⟩
          have xz : Ext w wz := by rw [hwz]; exact (h18.row _).1
          have mz : At wz w.heap.size 34 #[.int .i64 0, .int .i64 0, .int .i64 0, .int .i64 0, .int .i64 0, .int .i64 0, .int .i64 0, .int .i64 0, .int .i64 0] := by rw [hwz]; exact (h18.row _).2
          rw [← hwz]
          clear hwz h18
          have ez := cellsAt_at mz
          have sz := mz.lt
          first | refine fin_ret rfl (fun K hK => ?_) | refine fin_norm rfl (fun K hK => ?_)
          simp [results, Try.results30, go_sem, rsat]
          try go_simp
          refine hK _ ?_
          clear hK K
          exact ⟨xz, zeroM, 4, rfl, by rw [HFIN.out]⟩
        have hr0 : s9.length = 0 := by omega
        have hri : ¬ (0 : Int) < (s9.length : Int) := by omega
        cases hR : rightB cc with
        | false =>
          rw [hR] at CR
          have HCR := Lib.hid CR
          clear CR
          have hfz : finM ⟨(va : Int), (vb : Int), (min vd 4611686018427387905 : Nat), (min ve 4611686018427387905 : Nat), vi, vj, vp, vq, (vc : Int)⟩ s9 f9 = (zeroM, 4) := by rw [HFINL.out]; unfold finM; rw [if_neg (by simp), if_pos (.inr hR)]
          have HFIN := Lib.hid hfz
          have HR0 := Lib.hid hr0
          clear hfz hR hr0
          have cX := cellsAt_at h18.m
          have sX := h18.m.lt
          have bX : (World.cell? _ ⟨gb, 0, none⟩) = some (.pointer (some ⟨g, 0, none⟩)) := h18.x.cell 0
          have dX := h18.x.lt
          have gX := h18.bw
          have hX := h18.gw
          go_wp2_with fail
          clear cX sX bX dX gX hX
          refine (HCR.out _).mono ?_
          rintro e w19 ⟨rfl, x19⟩
          have h19 := h18.extR x19
          clear h18
          have cX := cellsAt_at h19.m
          have sX := h19.m.lt
          have bX : (World.cell? _ ⟨gb, 0, none⟩) = some (.pointer (some ⟨g, 0, none⟩)) := h19.x.cell 0
          have dX := h19.x.lt
          have gX := h19.bw
          have hX := h19.gw
          go_wp2_with fail
          clear cX sX bX dX gX hX
          obtain ⟨wz, hwz⟩ : ∃ W : World, W = w19.setRow w.heap.size #[.int .i64 0, .int .i64 0, .int .i64 0, .int .i64 0, .int .i64 0, .int .i64 0, .int .i64 0, .int .i64 0, .int .i64 0] := ⟨_, rfl⟩
          have xz : Ext w wz := by rw [hwz]; exact (h19.row _).1
          have mz : At wz w.heap.size 34 #[.int .i64 0, .int .i64 0, .int .i64 0, .int .i64 0, .int .i64 0, .int .i64 0, .int .i64 0, .int .i64 0, .int .i64 0] := by rw [hwz]; exact (h19.row _).2
          rw [← hwz]
          clear hwz h19
          have ez := cellsAt_at mz
          have sz := mz.lt
          first | refine fin_ret rfl (fun K hK => ?_) | refine fin_norm rfl (fun K hK => ?_)
          simp [results, Try.results30, go_sem, rsat]
          try go_simp
          refine hK _ ?_
          clear hK K
          exact ⟨xz, zeroM, 4, rfl, by rw [HFIN.out]⟩
        | true =>
          rw [hR] at CR
          have HCR := Lib.hid CR
          clear CR
          have hfz : finM ⟨(va : Int), (vb : Int), (min vd 4611686018427387905 : Nat), (min ve 4611686018427387905 : Nat), vi, vj, vp, vq, (vc : Int)⟩ s9 f9 = (cc, 0) := by rw [HFINL.out]; unfold finM; rw [if_neg (by simp), if_neg (by rintro (h9 | h9); exact absurd h9 hr; rw [hR] at h9; cases h9)]
          have HFIN := Lib.hid hfz
          have HR0 := Lib.hid hr0
          clear hfz hR hr0
          have cX := cellsAt_at h18.m
          have sX := h18.m.lt
          have bX : (World.cell? _ ⟨gb, 0, none⟩) = some (.pointer (some ⟨g, 0, none⟩)) := h18.x.cell 0
          have dX := h18.x.lt
          have gX := h18.bw
          have hX := h18.gw
          go_wp2_with fail
          clear cX sX bX dX gX hX
          refine (HCR.out _).mono ?_
          rintro e w19 ⟨rfl, x19⟩
          have h19 := h18.extR x19
          clear h18
          have cX := cellsAt_at h19.m
          have sX := h19.m.lt
          have bX : (World.cell? _ ⟨gb, 0, none⟩) = some (.pointer (some ⟨g, 0, none⟩)) := h19.x.cell 0
          have dX := h19.x.lt
          have gX := h19.bw
          have hX := h19.gw
          go_wp2_with fail
          clear cX sX bX dX gX hX
          obtain ⟨wz, hwz⟩ : ∃ W : World, W = w19.setRow w.heap.size #[.int .i64 (va : Int), .int .i64 (vb : Int), .int .i64 4611686018427387905, .int .i64 4611686018427387905, .int .i64 vi, .int .i64 vj, .int .i64 vp, .int .i64 vq, .int .i64 (vc : Int)] := ⟨_, rfl⟩
          have xz : Ext w wz := by rw [hwz]; exact (h19.row _).1
          have mz : At wz w.heap.size 34 #[.int .i64 (va : Int), .int .i64 (vb : Int), .int .i64 4611686018427387905, .int .i64 4611686018427387905, .int .i64 vi, .int .i64 vj, .int .i64 vp, .int .i64 vq, .int .i64 (vc : Int)] := by rw [hwz]; exact (h19.row _).2
          rw [← hwz]
          clear hwz h19
          have ez := cellsAt_at mz
          have sz := mz.lt
          first | refine fin_ret rfl (fun K hK => ?_) | refine fin_norm rfl (fun K hK => ?_)
          simp [results, Try.results30, go_sem, rsat]
          try go_simp
          refine hK _ ?_
          clear hK K
          exact ⟨xz, cc, 0, by rw [← HCV.out], by rw [HFIN.out]⟩
  · have hfb : (f9 != 0) = true := bne_iff_ne.2 hf
    have hfz : finM ⟨(va : Int), (vb : Int), (min vd 4611686018427387905 : Nat), (min ve 4611686018427387905 : Nat), vi, vj, vp, vq, (vc : Int)⟩ s9 f9 = (zeroM, f9) := by unfold finM; rw [if_pos hf]
    have HFIN := Lib.hid hfz
    clear hfz hf
    have cX := cellsAt_at h16.m
    have sX := h16.m.lt
    have bX : (World.cell? _ ⟨gb, 0, none⟩) = some (.pointer (some ⟨g, 0, none⟩)) := h16.x.cell 0
    have dX := h16.x.lt
    have gX := h16.bw
    have hX := h16.gw
    go_wp2_with fail
    clear cX sX bX dX gX hX
    obtain ⟨wz, hwz⟩ : ∃ W : World, W = w16.setRow w.heap.size #[.int .i64 0, .int .i64 0, .int .i64 0, .int .i64 0, .int .i64 0, .int .i64 0, .int .i64 0, .int .i64 0, .int .i64 0] := ⟨_, rfl⟩
    have xz : Ext w wz := by rw [hwz]; exact (h16.row _).1
    have mz : At wz w.heap.size 34 #[.int .i64 0, .int .i64 0, .int .i64 0, .int .i64 0, .int .i64 0, .int .i64 0, .int .i64 0, .int .i64 0, .int .i64 0] := by rw [hwz]; exact (h16.row _).2
    rw [← hwz]
    clear hwz h16
    have ez := cellsAt_at mz
    have sz := mz.lt
    first | refine fin_ret rfl (fun K hK => ?_) | refine fin_norm rfl (fun K hK => ?_)
    simp [results, Try.results30, go_sem, rsat]
    try go_simp
    refine hK _ ?_
    clear hK K
    exact ⟨xz, zeroM, f9, rfl, by rw [HFIN.out]⟩
end Go.Proofs.Ythophidcgkjdeaa
