/- Steps (layer 29): one step read and Read, by the document. Condition: at most 10^9 bytes. -/
import Derived.Test.YthfomohophmbaaaSA
/- Steps (layer 29): one step read, by the document. Condition: at most 10^9 bytes. -/
namespace Go.Proofs.Ythfomohophmbaaa
open Go.RowKit
attribute [local go_sem] Later.cell QUpon_value QUpon_enter MUpon_value run_eql_slice_nil Same.cell
attribute [local go_sem ↓ high] loadStp_is storeStp_is loadPrt_is storePrt_is
attribute [local go_sem] run_loadStp run_loadStp_at run_storeStp run_loadPrt run_loadPrt_at run_storePrt one_int one_bool one_slice one_ptr one_str setRow_new setRow_past cell_ca frozen_ca cellsAt_alloc_at cellsAt_alloc_past cellsAt_drew cellsAt_later cellsAt_setCell cellsAt_set_same cellsAt_setRow_same cellsAt_setRow_far subAt_alloc subAt_drew subAt_later subAt_setCell subAt_setRow ltn_2 ltn_3 ltn_4 ltn_5
theorem Same.cells {W : World} {bl : List Nat} (x : Same W bl) (b : Nat) (h : b ∈ bl) : cellsAt x.1 b = cellsAt W b := by unfold cellsAt; rw [x.2 b h]
attribute [local go_sem] Same.cells
theorem Src.cutS {w : World} {b off n i k : Nat} {bs : List Int} (h : Src w 1 (some ⟨b, off, none⟩) n (bc bs)) (hi : i + k ≤ n) : Src w 1 (some ⟨b, off + i, none⟩) k (bc ((bs.drop i).take k)) := by
  have hl := h.len
  rw [bc_len, Nat.mul_one] at hl
  refine ⟨by rw [bc_len, List.length_take, List.length_drop]; omega, fun h0 => ⟨_, rfl, fun j u hj => ?_⟩⟩
  obtain ⟨ad, hA, hc⟩ := h.at_ (by omega)
  injection hA with hA
  subst hA
  have hjl := (List.getElem?_eq_some_iff.1 hj).1
  rw [bc_len, List.length_take, List.length_drop] at hjl
  unfold bc at hj
  rw [List.getElem?_map, List.getElem?_take_of_lt (by omega), List.getElem?_drop, ← List.getElem?_map] at hj
  have := hc (i + j) u hj
  rw [Addr.add_lit] at this ⊢
  rw [Nat.add_assoc]
  exact this
theorem readraw_no (A : Option Addr) (m c n : Nat) (h : m < n) (w : World) : Calls Try.prog 57 #[.slice A m c, .int .i64 n] w fun e w' => e = .returned (.agg #[.int .u64 0, .int .i64 0, .slice none 0 0, .int .i64 0, .int .i64 3]) ∧ Ext w w' := by
  go_enter Try.func57, Try.ntmps57
  go_wp2_with fail
  first | refine fin_ret rfl (fun K hK => ?_) | refine fin_norm rfl (fun K hK => ?_)
  simp [results, Try.results57, go_sem, rsat]
  try go_simp
  refine hK _ ?_
  clear hK K
  exact ⟨rfl, (by repeat (first | (with_reducible exact Ext.refl _) | (with_reducible assumption) | (with_reducible refine Ext.alloc ?_ _) | (with_reducible refine Ext.drew ?_) | (with_reducible refine Ext.drewN ?_ _) | (with_reducible refine Ext.setCell ?_ (by simp; try omega) _) | (with_reducible refine Ext.setRow ?_ (by simp; try omega) _)))⟩
theorem readraw_yes (A : Option Addr) (m c n : Nat) (h : n ≤ m) (hc : m ≤ c) (hm : c ≤ 9223372036854775807) (w : World) : Calls Try.prog 57 #[.slice A m c, .int .i64 n] w fun e w' => e = .returned (.agg #[.int .u64 0, .int .i64 0, .slice A n c, .int .i64 n, .int .i64 0]) ∧ Ext w w' := by
  go_enter Try.func57, Try.ntmps57
  go_wp2_with fail
  all_goals first | (exfalso; omega) | skip
  all_goals
    first | refine fin_ret rfl (fun K hK => ?_) | refine fin_norm rfl (fun K hK => ?_)
    simp [results, Try.results57, go_sem, rsat]
    try go_simp
    refine hK _ ?_
    clear hK K
    exact ⟨rfl, (by repeat (first | (with_reducible exact Ext.refl _) | (with_reducible assumption) | (with_reducible refine Ext.alloc ?_ _) | (with_reducible refine Ext.drew ?_) | (with_reducible refine Ext.drewN ?_ _) | (with_reducible refine Ext.setCell ?_ (by simp; try omega) _) | (with_reducible refine Ext.setRow ?_ (by simp; try omega) _)))⟩
/-- What 'one' answers. -/
def OneOf (bs : List Int) (A : Option Addr) (w : World) (e : Ending) (w' : World) : Prop :=
  Ext w w' ∧ ∃ (p : Sp) (size : Nat) (f : Int), e = .returned (.tuple #[.agg p.cells.toArray, .int .i64 size, .int .i64 f]) ∧
    ((f ≠ 0 ∧ (stepD bs).2.2 = f) ∨ (f = 0 ∧ stepD bs = (p.key, bs.drop size, 0) ∧ size ≤ bs.length ∧ p.Ok w' ∧ ∀ k ∈ ablk p.raw.A, k ∈ ablk A))
set_option maxHeartbeats 4000000 in
set_option maxRecDepth 100000 in
theorem one1_c (A : Option Addr) (c : Nat) (s : List Int) (hb : Byt (1 :: s)) (hl : (1 :: s).length ≤ 1000000000) (hc : (1 :: s).length ≤ c) (hm : c ≤ maxLen) (hc1 : ¬ c - 1 = 0) (w : World) (hS : Src w 1 A (1 :: s).length (bc (1 :: s))) : Calls Try.prog 41 #[.slice A (1 :: s).length c] w fun e w' => OneOf (1 :: s) A w e w' := by
  unfold OneOf
  unfold maxLen at hm
  have hb0 := hb 1 (by simp)
  have hs : Byt s := fun x hx => hb x (by simp [hx])
  have hsl : s.length ≤ 1000000000 := by simp at hl; omega
  obtain ⟨q, off, hA, hqw, hcell⟩ := hS.lt (by simp) (by decide)
  subst hA
  have e0 : w.cell? ⟨q, off, none⟩ = some (.int .u8 1) := by
    have := hcell 0 (by simp)
    rwa [Nat.add_zero] at this
  have hci : s.length + 1 ≤ c := by simpa using hc
  have hlen : ((1 :: s).length : Nat) = s.length + 1 := rfl
  have ew : IntKind.i64.wrap 1 = 1 := by rw [IntWalk.i64_left, wrap64_in ⟨by omega, by omega⟩]
  have hS1 : ∀ B, (0 < s.length → B = some ⟨q, off + 1, none⟩) → Src w 1 B s.length (bc s) := fun B hB => by
    have := hS.drop5 (s := 1) (by simp) B (fun h => by rw [hB (by simp at h; omega)]; simp [Addr.add_lit])
    simpa using this
  rw [hlen] at hS ⊢
  obtain ⟨v, r, f, en⟩ : ∃ v r f, numR s 0 = (v, r, f) := ⟨_, _, _, rfl⟩
  have hz := numR_zero en
  have hr := numR_rest en
  have hrd := numR_read (f0 := 0) en rfl
  have hD : stepD (1 :: s) = (if f ≠ 0 then ((1, 0, 0, []), r, f) else if 64 < v then ((1, 0, 0, []), r, 4) else ((1, 0, 0, (rawR r 0 v).1), (rawR r 0 v).2)) := by
    unfold stepD
    simp only [if_true]
    rw [en]
  generalize stepD (1 :: s) = D at hD ⊢
  have HD := Lib.hid hD
  clear hD en
  have hS2 := hS1 (some ⟨q, off + 1, none⟩) (fun _ => rfl)
  have C1 := readnum_c (some ⟨q, off + 1, none⟩) (c - 1) s hs hsl
  by_cases hf : f = 0
  · subst hf
    have hn := (hrd.1 rfl).1
    obtain ⟨z, hz2⟩ : ∃ z, z = s.length - r.length := ⟨_, rfl⟩
    have hrz := (hrd.1 rfl).2.2
    rw [← hz2] at hn hrz
    rw [hn] at C1
    simp only at C1
    have HC1 := Lib.hid C1
    have hrl : r.length = s.length - z := by rw [hrz, List.length_drop]
    have hzl : z ≤ s.length := by omega
    have HRZ := Lib.hid hrz
    have HRL := Lib.hid hrl
    have HS := Lib.hid hS
    clear hn hrd C1 hz hz2 hrz hr hrl hS hcell hS1
    by_cases hv : 64 < v
    · have hvi : (64 : Int) < (v : Int) := by omega
      have HV := Lib.hid hv
      clear hv
      go_enter Try.func41, Try.ntmps41
      go_wp2_with fail
      refine (HC1.out _ (hS2.ext (by repeat (first | (with_reducible exact Ext.refl _) | (with_reducible assumption) | (with_reducible refine Ext.alloc ?_ _) | (with_reducible refine Ext.drew ?_) | (with_reducible refine Ext.drewN ?_ _) | (with_reducible refine Ext.setCell ?_ (by simp; try omega) _) | (with_reducible refine Ext.setRow ?_ (by simp; try omega) _))))).mono ?_
      rintro e w1 ⟨rfl, hx1⟩
      have x1 : Ext w w1 := Ext.trans (by repeat (first | (with_reducible exact Ext.refl _) | (with_reducible assumption) | (with_reducible refine Ext.alloc ?_ _) | (with_reducible refine Ext.drew ?_) | (with_reducible refine Ext.drewN ?_ _) | (with_reducible refine Ext.setCell ?_ (by simp; try omega) _) | (with_reducible refine Ext.setRow ?_ (by simp; try omega) _))) hx1
      have hM : At w1 w.heap.size 31 #[.int .i64 0, .int .i64 0, .int .i64 0, .slice none 0 0] := At.ext (by repeat (first | (with_reducible exact At.new _ _ _) | ((with_reducible refine At.new' _ _ _ _ ?_); simp; done) | (with_reducible assumption) | (with_reducible refine At.drew ?_) | (with_reducible refine At.alloc ?_ _) | (with_reducible apply At.upd) | (with_reducible apply At.setRow) | (with_reducible refine At.rowFar ?_ (by first | (simp; done) | (simp; omega) | omega) _) | ((with_reducible refine At.far ?_ (by first | (simp; done) | (simp; omega) | omega) _)) | (with_reducible rfl) | (simp; done))) hx1
      have hB : At w1 (w.heap.size + 1) 31 #[.int .i64 1, .int .i64 0, .int .i64 0, .slice none 0 0] := At.ext (by repeat (first | (with_reducible exact At.new _ _ _) | ((with_reducible refine At.new' _ _ _ _ ?_); simp; done) | (with_reducible assumption) | (with_reducible refine At.drew ?_) | (with_reducible refine At.alloc ?_ _) | (with_reducible apply At.upd) | (with_reducible apply At.setRow) | (with_reducible refine At.rowFar ?_ (by first | (simp; done) | (simp; omega) | omega) _) | ((with_reducible refine At.far ?_ (by first | (simp; done) | (simp; omega) | omega) _)) | (with_reducible rfl) | (simp; done))) hx1
      obtain ⟨sk, hsk⟩ : ∃ sk, sk = w.heap.size + 1 := ⟨_, rfl⟩
      rw [← hsk] at hB ⊢
      have hskl : w.heap.size < sk := by omega
      have hskn : w.heap.size ≠ sk := by omega
      have hskm : sk ≠ w.heap.size := by omega
      clear hsk
      have sM := hM.lt
      have sB := hB.lt
      have eM := cellsAt_at hM
      have eB := cellsAt_at hB
      have zB1 := hB.frozen 1
      have zB2 := hB.frozen 2
      have zB3 := hB.frozen 3
      clear hx1
      go_wp2_with fail
      first | refine fin_ret rfl (fun K hK => ?_) | refine fin_norm rfl (fun K hK => ?_)
      simp [results, Try.results41, go_sem, rsat]
      try go_simp
      refine hK _ ?_
      clear hK K
      exact ⟨(by repeat (first | (with_reducible exact Ext.refl _) | (with_reducible assumption) | (with_reducible refine Ext.alloc ?_ _) | (with_reducible refine Ext.drew ?_) | (with_reducible refine Ext.drewN ?_ _) | (with_reducible refine Ext.setCell ?_ (by simp; try omega) _) | (with_reducible refine Ext.setRow ?_ (by simp; try omega) _))), ⟨0, 0, 0, ⟨none, 0, []⟩⟩, 0, 4, rfl, .inl ⟨by decide, by rw [HD.out, if_neg (by simp), if_pos HV.out]⟩⟩
    · have hvi : ¬ (64 : Int) < (v : Int) := by omega
      have HV := Lib.hid hv
      have ewv : IntKind.i64.wrap (v : Int) = (v : Int) := by rw [IntWalk.i64_left, wrap64_in ⟨by omega, by omega⟩]
      have hi1 : (0 : Int) ≤ 1 + (z : Int) := by omega
      have hi2 : 1 + (z : Int) ≤ (s.length : Int) + 1 := by omega
      have hi3 : (1 + (z : Int)).toNat = 1 + z := by omega
      by_cases hrv : r.length < v
      · have hrv2 : s.length - z < v := by have := HRL.out; omega
        have HRV := Lib.hid hrv
        clear hv hrv
        go_enter Try.func41, Try.ntmps41
        go_wp2_with fail
        refine (HC1.out _ (hS2.ext (by repeat (first | (with_reducible exact Ext.refl _) | (with_reducible assumption) | (with_reducible refine Ext.alloc ?_ _) | (with_reducible refine Ext.drew ?_) | (with_reducible refine Ext.drewN ?_ _) | (with_reducible refine Ext.setCell ?_ (by simp; try omega) _) | (with_reducible refine Ext.setRow ?_ (by simp; try omega) _))))).mono ?_
        rintro e w1 ⟨rfl, hx1⟩
        have x1 : Ext w w1 := Ext.trans (by repeat (first | (with_reducible exact Ext.refl _) | (with_reducible assumption) | (with_reducible refine Ext.alloc ?_ _) | (with_reducible refine Ext.drew ?_) | (with_reducible refine Ext.drewN ?_ _) | (with_reducible refine Ext.setCell ?_ (by simp; try omega) _) | (with_reducible refine Ext.setRow ?_ (by simp; try omega) _))) hx1
        have hM : At w1 w.heap.size 31 #[.int .i64 0, .int .i64 0, .int .i64 0, .slice none 0 0] := At.ext (by repeat (first | (with_reducible exact At.new _ _ _) | ((with_reducible refine At.new' _ _ _ _ ?_); simp; done) | (with_reducible assumption) | (with_reducible refine At.drew ?_) | (with_reducible refine At.alloc ?_ _) | (with_reducible apply At.upd) | (with_reducible apply At.setRow) | (with_reducible refine At.rowFar ?_ (by first | (simp; done) | (simp; omega) | omega) _) | ((with_reducible refine At.far ?_ (by first | (simp; done) | (simp; omega) | omega) _)) | (with_reducible rfl) | (simp; done))) hx1
        have hB : At w1 (w.heap.size + 1) 31 #[.int .i64 1, .int .i64 0, .int .i64 0, .slice none 0 0] := At.ext (by repeat (first | (with_reducible exact At.new _ _ _) | ((with_reducible refine At.new' _ _ _ _ ?_); simp; done) | (with_reducible assumption) | (with_reducible refine At.drew ?_) | (with_reducible refine At.alloc ?_ _) | (with_reducible apply At.upd) | (with_reducible apply At.setRow) | (with_reducible refine At.rowFar ?_ (by first | (simp; done) | (simp; omega) | omega) _) | ((with_reducible refine At.far ?_ (by first | (simp; done) | (simp; omega) | omega) _)) | (with_reducible rfl) | (simp; done))) hx1
        obtain ⟨sk, hsk⟩ : ∃ sk, sk = w.heap.size + 1 := ⟨_, rfl⟩
        rw [← hsk] at hB ⊢
        have hskl : w.heap.size < sk := by omega
        have hskn : w.heap.size ≠ sk := by omega
        have hskm : sk ≠ w.heap.size := by omega
        clear hsk
        have sM := hM.lt
        have sB := hB.lt
        have eM := cellsAt_at hM
        have eB := cellsAt_at hB
        have zB1 := hB.frozen 1
        have zB2 := hB.frozen 2
        have zB3 := hB.frozen 3
        clear hx1
        go_wp2_with fail
        obtain ⟨w2, hw2⟩ : ∃ W : World, W = w1.alloc (.cells #[.int .u64 (v : Int), .int .i64 0, .slice none 0 0, .int .i64 (z : Int), .int .i64 0] 67) := ⟨_, rfl⟩
        have xw2 : Ext w w2 := by rw [hw2]; exact x1.alloc _
        have hMw2 : At w2 w.heap.size 31 #[.int .i64 0, .int .i64 0, .int .i64 0, .slice none 0 0] := by rw [hw2]; exact hM.alloc _
        have hBw2 : At w2 sk 31 #[.int .i64 1, .int .i64 0, .int .i64 0, .slice none 0 0] := by rw [hw2]; exact hB.alloc _
        have hPw2 : At w2 w1.heap.size 67 #[.int .u64 (v : Int), .int .i64 0, .slice none 0 0, .int .i64 (z : Int), .int .i64 0] := by rw [hw2]; exact At.new _ _ _
        rw [← hw2]
        generalize w1.heap.size = gp at *
        clear hw2 hM hB x1 eM eB zB1 zB2 zB3
        have HCC := Lib.hid hci
        by_cases hc2 : c = 1 + z
        all_goals
          have sP := hPw2.lt
          have c0 : w2.cell? ⟨gp, 0, none⟩ = some (.int .u64 (v : Int)) := hPw2.cell 0
          refine wp_region_m 8 [0, 0, 0, 0, 1, 0, 1, 2] 7 (Made w2 67 #[.int .u64 0, .int .i64 0, .slice none 0 0, .int .i64 0, .int .i64 0]) _ (by kernel_rfl) (by kernel_rfl) rfl (by omega) rfl Made.ext ?_
          simp only [List.take_succ_cons, List.take_zero, List.drop_succ_cons, List.drop_zero]
          refine hl_pure (fun K hK => ?_)
          go_simp
          refine hK _ ?_
          clear hK K
          refine hl_pure (fun K hK => ?_)
          go_simp
          refine hK _ ?_
          clear hK K
          refine hl_pure (fun K hK => ?_)
          go_simp
          refine hK _ ?_
          clear hK K
          refine hl_pure (fun K hK => ?_)
          go_simp
          refine hK _ ?_
          clear hK K
          refine hl_quiet (fun K hK => ?_)
          go_simp
          refine hK _ ?_
          clear hK K
          refine hl_pure (fun K hK => ?_)
          go_simp
          refine hK _ ?_
          clear hK K
          refine hl_quiet (fun K hK => ?_)
          go_simp
          first
            | (refine hK _ ?_; clear hK K)
            | (apply Exists.intro; refine ⟨fun x => ?_, hK _ ?_⟩
               · (exact readraw_no _ _ _ v (by omega) _)
               clear hK K)
          refine hl_make rfl (fun x => by go_simp; exact Later.made x _ _) ?_
          refine hl_nil ?_
          intro uw4 w4 hxw4 huw4 K hK
          obtain ⟨g4, rfl, hg4, hA4⟩ := huw4
          have hM4 := hMw2.ext hxw4
          have hB4 := hBw2.ext hxw4
          have x4 := xw2.trans hxw4
          have e4 := cellsAt_at hA4
          have c34 : w4.cell? ⟨sk, 3, none⟩ = some (.slice none 0 0) := hB4.cell 3
          have z34 := hB4.frozen 3
          have sB4 := hB4.lt
          have sM4' := hM4.lt
          have s4 := hA4.lt
          have sW2 := hMw2.lt
          have nM : w.heap.size ≠ g4 := by have := hMw2.lt; omega
          have nB : sk ≠ g4 := by have := hBw2.lt; omega
          have nB' : g4 ≠ sk := fun h => nB h.symm
          have nM' : g4 ≠ w.heap.size := fun h => nM h.symm
          clear c0 sP hPw2 hMw2 hBw2 xw2 hxw4
          go_wp2_with fail
          obtain ⟨w5, hw5⟩ : ∃ W : World, W = w4.setRow g4 #[.int .u64 0, .int .i64 0, .slice none 0 0, .int .i64 0, .int .i64 3] := ⟨_, rfl⟩
          have x5 : Ext w w5 := by rw [hw5]; exact x4.setRow (by omega) _
          have hM5 : At w5 w.heap.size 31 #[.int .i64 0, .int .i64 0, .int .i64 0, .slice none 0 0] := by rw [hw5]; exact hM4.rowFar nM _
          have hB5 : At w5 sk 31 #[.int .i64 1, .int .i64 0, .int .i64 0, .slice none 0 0] := by rw [hw5]; exact hB4.rowFar nB _
          have hP5 : At w5 g4 67 #[.int .u64 0, .int .i64 0, .slice none 0 0, .int .i64 0, .int .i64 3] := by rw [hw5]; exact hA4.setRow _
          rw [← hw5]
          clear hw5 hM4 hB4 hA4 x4 e4 s4 c34 z34 sB4 sM4'
          have sg := hP5.lt
          have c4 : w5.cell? ⟨g4, 4, none⟩ = some (.int .i64 3) := hP5.cell 4
          have sM2 := hM5.lt
          have eM2 := cellsAt_at hM5
          refine wp_region_s [0, 0, 0, 1, 0, 0] (fun x => ∀ b ∈ [g4], x.heap[b]? = w5.heap[b]?) (by kernel_rfl) (by kernel_rfl) ?_
          refine hls_same (fun K hK => ?_)
          go_simp
          refine hK _ ?_
          clear hK K
          refine hls_same (fun K hK => ?_)
          go_simp
          refine hK _ ?_
          clear hK K
          refine hls_same (fun K hK => ?_)
          go_simp
          refine hK _ ?_
          clear hK K
          refine hls_skip (by decide) ?_
          refine hls_same (fun K hK => ?_)
          go_simp
          refine hK _ ?_
          clear hK K
          refine hls_same (fun K hK => ?_)
          go_simp
          refine hK _ ?_
          clear hK K
          refine hls_nil ?_
          intro w13 hxw13 K hK
          have hM3 := hM5.ext hxw13
          have x3 := x5.trans hxw13
          have same3 : ∀ b ∈ [g4], w13.heap[b]? = w5.heap[b]? := fun b hb => by simp at hb; subst hb; exact hxw13.block _ sg
          have eM3 := cellsAt_at hM3
          have sM3 := hM3.lt
          clear eM2 sM2
          refine ms_pass ?_
          refine ms_pass ?_
          refine ms_pass ?_
          refine ms_do (by decide) (same3) (fun K' hK' => ?_)
          go_wp2_with fail
          obtain ⟨w14, hw14⟩ : ∃ W : World, W = w13.setRow w.heap.size #[.int .i64 0, .int .i64 0, .int .i64 0, .slice none 0 0] := ⟨_, rfl⟩
          have x4 : Ext w w14 := by rw [hw14]; exact x3.setRow (Nat.le_refl _) _
          have hM4 : At w14 w.heap.size 31 #[.int .i64 0, .int .i64 0, .int .i64 0, .slice none 0 0] := by rw [hw14]; exact hM3.setRow _
          have same4 : ∀ b ∈ [g4], w14.heap[b]? = w5.heap[b]? := fun b hb => by have := same3 b hb; rw [hw14]; rw [← this]; simp at hb; subst hb; exact setRow_other _ _ _ _ (by omega)
          rw [← hw14]
          clear hw14 eM3
          refine ms_pass ?_
          refine ms_pass ?_
          refine ms_nil (same4) (hK _ _ ?_)
          have eM4 := cellsAt_at hM4
          have sM4 := hM4.lt
          go_wp2_with fail
          first | refine fin_ret rfl (fun K hK => ?_) | refine fin_norm rfl (fun K hK => ?_)
          simp [results, Try.results41, go_sem, rsat]
          try go_simp
          refine hK _ ?_
          clear hK K
          exact ⟨x4, ⟨0, 0, 0, ⟨none, 0, []⟩⟩, 0, 3, rfl, .inl ⟨by decide, by rw [HD.out, if_neg (by simp), if_neg HV.out]; unfold rawR; rw [if_neg (by simp), if_pos HRV.out]⟩⟩
      · have hrv2 : v ≤ s.length - z := by have := HRL.out; omega
        have HRV := Lib.hid hrv
        clear hv hrv
        go_enter Try.func41, Try.ntmps41
        go_wp2_with fail
        refine (HC1.out _ (hS2.ext (by repeat (first | (with_reducible exact Ext.refl _) | (with_reducible assumption) | (with_reducible refine Ext.alloc ?_ _) | (with_reducible refine Ext.drew ?_) | (with_reducible refine Ext.drewN ?_ _) | (with_reducible refine Ext.setCell ?_ (by simp; try omega) _) | (with_reducible refine Ext.setRow ?_ (by simp; try omega) _))))).mono ?_
        rintro e w1 ⟨rfl, hx1⟩
        have x1 : Ext w w1 := Ext.trans (by repeat (first | (with_reducible exact Ext.refl _) | (with_reducible assumption) | (with_reducible refine Ext.alloc ?_ _) | (with_reducible refine Ext.drew ?_) | (with_reducible refine Ext.drewN ?_ _) | (with_reducible refine Ext.setCell ?_ (by simp; try omega) _) | (with_reducible refine Ext.setRow ?_ (by simp; try omega) _))) hx1
        have hM : At w1 w.heap.size 31 #[.int .i64 0, .int .i64 0, .int .i64 0, .slice none 0 0] := At.ext (by repeat (first | (with_reducible exact At.new _ _ _) | ((with_reducible refine At.new' _ _ _ _ ?_); simp; done) | (with_reducible assumption) | (with_reducible refine At.drew ?_) | (with_reducible refine At.alloc ?_ _) | (with_reducible apply At.upd) | (with_reducible apply At.setRow) | (with_reducible refine At.rowFar ?_ (by first | (simp; done) | (simp; omega) | omega) _) | ((with_reducible refine At.far ?_ (by first | (simp; done) | (simp; omega) | omega) _)) | (with_reducible rfl) | (simp; done))) hx1
        have hB : At w1 (w.heap.size + 1) 31 #[.int .i64 1, .int .i64 0, .int .i64 0, .slice none 0 0] := At.ext (by repeat (first | (with_reducible exact At.new _ _ _) | ((with_reducible refine At.new' _ _ _ _ ?_); simp; done) | (with_reducible assumption) | (with_reducible refine At.drew ?_) | (with_reducible refine At.alloc ?_ _) | (with_reducible apply At.upd) | (with_reducible apply At.setRow) | (with_reducible refine At.rowFar ?_ (by first | (simp; done) | (simp; omega) | omega) _) | ((with_reducible refine At.far ?_ (by first | (simp; done) | (simp; omega) | omega) _)) | (with_reducible rfl) | (simp; done))) hx1
        obtain ⟨sk, hsk⟩ : ∃ sk, sk = w.heap.size + 1 := ⟨_, rfl⟩
        rw [← hsk] at hB ⊢
        have hskl : w.heap.size < sk := by omega
        have hskn : w.heap.size ≠ sk := by omega
        have hskm : sk ≠ w.heap.size := by omega
        clear hsk
        have sM := hM.lt
        have sB := hB.lt
        have eM := cellsAt_at hM
        have eB := cellsAt_at hB
        have zB1 := hB.frozen 1
        have zB2 := hB.frozen 2
        have zB3 := hB.frozen 3
        clear hx1
        go_wp2_with fail
        obtain ⟨w2, hw2⟩ : ∃ W : World, W = w1.alloc (.cells #[.int .u64 (v : Int), .int .i64 0, .slice none 0 0, .int .i64 (z : Int), .int .i64 0] 67) := ⟨_, rfl⟩
        have xw2 : Ext w w2 := by rw [hw2]; exact x1.alloc _
        have hMw2 : At w2 w.heap.size 31 #[.int .i64 0, .int .i64 0, .int .i64 0, .slice none 0 0] := by rw [hw2]; exact hM.alloc _
        have hBw2 : At w2 sk 31 #[.int .i64 1, .int .i64 0, .int .i64 0, .slice none 0 0] := by rw [hw2]; exact hB.alloc _
        have hPw2 : At w2 w1.heap.size 67 #[.int .u64 (v : Int), .int .i64 0, .slice none 0 0, .int .i64 (z : Int), .int .i64 0] := by rw [hw2]; exact At.new _ _ _
        rw [← hw2]
        generalize w1.heap.size = gp at *
        clear hw2 hM hB x1 eM eB zB1 zB2 zB3
        have HCC := Lib.hid hci
        by_cases hc2 : c = 1 + z
        · have hv0 : v = 0 := by have := HCC.out; omega
          have HV0 := Lib.hid hv0
          clear hv0
          have sP := hPw2.lt
          have c0 : w2.cell? ⟨gp, 0, none⟩ = some (.int .u64 (v : Int)) := hPw2.cell 0
          refine wp_region_m 8 [0, 0, 0, 0, 1, 0, 1, 2] 7 (Made w2 67 #[.int .u64 0, .int .i64 0, .slice none 0 0, .int .i64 0, .int .i64 0]) _ (by kernel_rfl) (by kernel_rfl) rfl (by omega) rfl Made.ext ?_
          simp only [List.take_succ_cons, List.take_zero, List.drop_succ_cons, List.drop_zero]
          refine hl_pure (fun K hK => ?_)
          go_simp
          refine hK _ ?_
          clear hK K
          refine hl_pure (fun K hK => ?_)
          go_simp
          refine hK _ ?_
          clear hK K
          refine hl_pure (fun K hK => ?_)
          go_simp
          refine hK _ ?_
          clear hK K
          refine hl_pure (fun K hK => ?_)
          go_simp
          refine hK _ ?_
          clear hK K
          refine hl_quiet (fun K hK => ?_)
          go_simp
          refine hK _ ?_
          clear hK K
          refine hl_pure (fun K hK => ?_)
          go_simp
          refine hK _ ?_
          clear hK K
          refine hl_quiet (fun K hK => ?_)
          go_simp
          first
            | (refine hK _ ?_; clear hK K)
            | (apply Exists.intro; refine ⟨fun x => ?_, hK _ ?_⟩
               · (exact readraw_yes _ _ _ v (by omega) (by omega) (by omega) _)
               clear hK K)
          refine hl_make rfl (fun x => by go_simp; exact Later.made x _ _) ?_
          refine hl_nil ?_
          intro uw4 w4 hxw4 huw4 K hK
          obtain ⟨g4, rfl, hg4, hA4⟩ := huw4
          have hM4 := hMw2.ext hxw4
          have hB4 := hBw2.ext hxw4
          have x4 := xw2.trans hxw4
          have e4 := cellsAt_at hA4
          have c34 : w4.cell? ⟨sk, 3, none⟩ = some (.slice none 0 0) := hB4.cell 3
          have z34 := hB4.frozen 3
          have sB4 := hB4.lt
          have sM4' := hM4.lt
          have s4 := hA4.lt
          have sW2 := hMw2.lt
          have nM : w.heap.size ≠ g4 := by have := hMw2.lt; omega
          have nB : sk ≠ g4 := by have := hBw2.lt; omega
          have nB' : g4 ≠ sk := fun h => nB h.symm
          have nM' : g4 ≠ w.heap.size := fun h => nM h.symm
          clear c0 sP hPw2 hMw2 hBw2 xw2 hxw4
          have c35 : (w4.setRow g4 #[.int .u64 0, .int .i64 0, .slice (some ⟨q, off, none⟩) v 0, .int .i64 (v : Int), .int .i64 0]).cell? ⟨sk, 3, none⟩ = some (.slice none 0 0) := (hB4.rowFar nB _).cell 3
          have z35 : (w4.setRow g4 #[.int .u64 0, .int .i64 0, .slice (some ⟨q, off, none⟩) v 0, .int .i64 (v : Int), .int .i64 0]).frozen? ⟨sk, 3, none⟩ = false := (hB4.rowFar nB _).frozen 3
          go_wp2_with fail
          obtain ⟨w6, hw6⟩ : ∃ W : World, W = (w4.setRow g4 #[.int .u64 0, .int .i64 0, .slice (some ⟨q, off, none⟩) v 0, .int .i64 (v : Int), .int .i64 0]).setCell ⟨sk, 3, none⟩ (.slice (some ⟨q, off, none⟩) v 0) := ⟨_, rfl⟩
          have x6 : Ext w w6 := by rw [hw6]; exact (x4.setRow (by omega) _).setCell (by simp only; omega) _
          have hM6 : At w6 w.heap.size 31 #[.int .i64 0, .int .i64 0, .int .i64 0, .slice none 0 0] := by rw [hw6]; exact (hM4.rowFar nM _).far hskn _
          have hB6 : At w6 sk 31 #[.int .i64 1, .int .i64 0, .int .i64 0, .slice (some ⟨q, off, none⟩) v 0] := by rw [hw6]; exact (hB4.rowFar nB _).set 3 _
          have hP6 : At w6 g4 67 #[.int .u64 0, .int .i64 0, .slice (some ⟨q, off, none⟩) v 0, .int .i64 (v : Int), .int .i64 0] := by rw [hw6]; exact (hA4.setRow _).far (by simp; omega) _
          rw [← hw6]
          clear hw6 hM4 hB4 hA4 x4 e4 s4 c34 z34 sB4 sM4' c35 z35
          have HTV : Hid ((r.take v).length = v) := Lib.hid (by rw [List.length_take]; have := HRV.out; omega)
          have cS : w6.cell? ⟨g4, 3, none⟩ = some (.int .i64 (v : Int)) := hP6.cell 3
          have sg := hP6.lt
          have sB6 := hB6.lt
          have sM6 := hM6.lt
          have eB6 := cellsAt_at hB6
          have eM6 := cellsAt_at hM6
          refine wp_region_s [0, 0, 0, 0, 0, 1, 0, 0] (fun x => ∀ b ∈ [sk, g4], x.heap[b]? = w6.heap[b]?) (by kernel_rfl) (by kernel_rfl) ?_
          refine hls_same (fun K hK => ?_)
          go_simp
          refine hK _ ?_
          clear hK K
          refine hls_same (fun K hK => ?_)
          go_simp
          refine hK _ ?_
          clear hK K
          refine hls_same (fun K hK => ?_)
          go_simp
          refine hK _ ?_
          clear hK K
          refine hls_same (fun K hK => ?_)
          go_simp
          refine hK _ ?_
          clear hK K
          refine hls_same (fun K hK => ?_)
          go_simp
          refine hK _ ?_
          clear hK K
          refine hls_skip (by decide) ?_
          refine hls_same (fun K hK => ?_)
          go_simp
          refine hK _ ?_
          clear hK K
          refine hls_same (fun K hK => ?_)
          go_simp
          refine hK _ ?_
          clear hK K
          refine hls_nil ?_
          intro w13 hxw13 K hK
          have hM3 := hM6.ext hxw13
          have hB3 := hB6.ext hxw13
          have x3 := x6.trans hxw13
          have same3 : ∀ b ∈ [sk, g4], w13.heap[b]? = w6.heap[b]? := fun b hb => by
            simp at hb
            rcases hb with rfl | rfl
            · exact hxw13.block _ sB6
            · exact hxw13.block _ sg
          have eM3 := cellsAt_at hM3
          have sM3 := hM3.lt
          clear eM6 sM6
          refine ms_pass ?_
          refine ms_pass ?_
          refine ms_pass ?_
          refine ms_pass ?_
          refine ms_pass ?_
          refine ms_do (by decide) (same3) (fun K' hK' => ?_)
          go_wp2_with fail
          obtain ⟨w14, hw14⟩ : ∃ W : World, W = w13.setRow w.heap.size #[.int .i64 1, .int .i64 0, .int .i64 0, .slice (some ⟨q, off, none⟩) v 0] := ⟨_, rfl⟩
          have x4 : Ext w w14 := by rw [hw14]; exact x3.setRow (Nat.le_refl _) _
          have hM4 : At w14 w.heap.size 31 #[.int .i64 1, .int .i64 0, .int .i64 0, .slice (some ⟨q, off, none⟩) v 0] := by rw [hw14]; exact hM3.setRow _
          have same4 : ∀ b ∈ [sk, g4], w14.heap[b]? = w6.heap[b]? := fun b hb => by
            have := same3 b hb
            rw [hw14, ← this]
            simp at hb
            rcases hb with rfl | rfl
            · exact setRow_other _ _ _ _ (by omega)
            · exact setRow_other _ _ _ _ (by omega)
          rw [← hw14]
          clear hw14 eM3
          refine ms_pass ?_
          refine ms_pass ?_
          refine ms_nil (same4) (hK _ _ ?_)
          have eM4 := cellsAt_at hM4
          have sM4 := hM4.lt
          go_wp2_with fail
          first | refine fin_ret rfl (fun K hK => ?_) | refine fin_norm rfl (fun K hK => ?_)
          simp [results, Try.results41, go_sem, rsat]
          try go_simp
          refine hK _ ?_
          clear hK K
          have hcc := HCC.out
          have hvv := HV0.out
          refine ⟨x4, ⟨1, 0, 0, ⟨some ⟨q, off, none⟩, 0, r.take v⟩⟩, 1 + z + v, 0, by simp [Sp.cells, Bs.v, HTV.out]; rw [IntWalk.i64_left, wrap64_in ⟨by omega, by omega⟩], .inr ⟨rfl, ?_, by omega, ⟨(show I64 1 from ⟨by decide, by decide⟩), (show I64 0 from ⟨by decide, by decide⟩), (show I64 0 from ⟨by decide, by decide⟩), ⟨by rw [HTV.out]; simp only; omega, by unfold maxLen; simp only; omega, by rw [HTV.out]; exact ⟨by rw [HV0.out]; rfl, fun h => by have := HV0.out; omega⟩, fun x hx => hs x (by have := List.mem_of_mem_take hx; rw [HRZ.out] at this; exact List.mem_of_mem_drop this)⟩⟩, fun k hk => hk⟩⟩
          rw [HD.out, if_neg (by simp), if_neg HV.out]
          unfold rawR
          rw [if_neg (by simp), if_neg HRV.out, show 1 + z + v = (z + v) + 1 by omega, List.drop_succ_cons, ← List.drop_drop, ← HRZ.out]
          rfl
        · have sP := hPw2.lt
          have c0 : w2.cell? ⟨gp, 0, none⟩ = some (.int .u64 (v : Int)) := hPw2.cell 0
          refine wp_region_m 8 [0, 0, 0, 0, 1, 0, 1, 2] 7 (Made w2 67 #[.int .u64 0, .int .i64 0, .slice none 0 0, .int .i64 0, .int .i64 0]) _ (by kernel_rfl) (by kernel_rfl) rfl (by omega) rfl Made.ext ?_
          simp only [List.take_succ_cons, List.take_zero, List.drop_succ_cons, List.drop_zero]
          refine hl_pure (fun K hK => ?_)
          go_simp
          refine hK _ ?_
          clear hK K
          refine hl_pure (fun K hK => ?_)
          go_simp
          refine hK _ ?_
          clear hK K
          refine hl_pure (fun K hK => ?_)
          go_simp
          refine hK _ ?_
          clear hK K
          refine hl_pure (fun K hK => ?_)
          go_simp
          refine hK _ ?_
          clear hK K
          refine hl_quiet (fun K hK => ?_)
          go_simp
          refine hK _ ?_
          clear hK K
          refine hl_pure (fun K hK => ?_)
          go_simp
          refine hK _ ?_
          clear hK K
          refine hl_quiet (fun K hK => ?_)
          go_simp
          first
            | (refine hK _ ?_; clear hK K)
            | (apply Exists.intro; refine ⟨fun x => ?_, hK _ ?_⟩
               · (exact readraw_yes _ _ _ v (by omega) (by omega) (by omega) _)
               clear hK K)
          refine hl_make rfl (fun x => by go_simp; exact Later.made x _ _) ?_
          refine hl_nil ?_
          intro uw4 w4 hxw4 huw4 K hK
          obtain ⟨g4, rfl, hg4, hA4⟩ := huw4
          have hM4 := hMw2.ext hxw4
          have hB4 := hBw2.ext hxw4
          have x4 := xw2.trans hxw4
          have e4 := cellsAt_at hA4
          have c34 : w4.cell? ⟨sk, 3, none⟩ = some (.slice none 0 0) := hB4.cell 3
          have z34 := hB4.frozen 3
          have sB4 := hB4.lt
          have sM4' := hM4.lt
          have s4 := hA4.lt
          have sW2 := hMw2.lt
          have nM : w.heap.size ≠ g4 := by have := hMw2.lt; omega
          have nB : sk ≠ g4 := by have := hBw2.lt; omega
          have nB' : g4 ≠ sk := fun h => nB h.symm
          have nM' : g4 ≠ w.heap.size := fun h => nM h.symm
          clear c0 sP hPw2 hMw2 hBw2 xw2 hxw4
          have c35 : (w4.setRow g4 #[.int .u64 0, .int .i64 0, .slice (some ⟨q, off + (1 + z), none⟩) v (c - (1 + z)), .int .i64 (v : Int), .int .i64 0]).cell? ⟨sk, 3, none⟩ = some (.slice none 0 0) := (hB4.rowFar nB _).cell 3
          have z35 : (w4.setRow g4 #[.int .u64 0, .int .i64 0, .slice (some ⟨q, off + (1 + z), none⟩) v (c - (1 + z)), .int .i64 (v : Int), .int .i64 0]).frozen? ⟨sk, 3, none⟩ = false := (hB4.rowFar nB _).frozen 3
          go_wp2_with fail
          obtain ⟨w6, hw6⟩ : ∃ W : World, W = (w4.setRow g4 #[.int .u64 0, .int .i64 0, .slice (some ⟨q, off + (1 + z), none⟩) v (c - (1 + z)), .int .i64 (v : Int), .int .i64 0]).setCell ⟨sk, 3, none⟩ (.slice (some ⟨q, off + (1 + z), none⟩) v (c - (1 + z))) := ⟨_, rfl⟩
          have x6 : Ext w w6 := by rw [hw6]; exact (x4.setRow (by omega) _).setCell (by simp only; omega) _
          have hM6 : At w6 w.heap.size 31 #[.int .i64 0, .int .i64 0, .int .i64 0, .slice none 0 0] := by rw [hw6]; exact (hM4.rowFar nM _).far hskn _
          have hB6 : At w6 sk 31 #[.int .i64 1, .int .i64 0, .int .i64 0, .slice (some ⟨q, off + (1 + z), none⟩) v (c - (1 + z))] := by rw [hw6]; exact (hB4.rowFar nB _).set 3 _
          have hP6 : At w6 g4 67 #[.int .u64 0, .int .i64 0, .slice (some ⟨q, off + (1 + z), none⟩) v (c - (1 + z)), .int .i64 (v : Int), .int .i64 0] := by rw [hw6]; exact (hA4.setRow _).far (by simp; omega) _
          rw [← hw6]
          clear hw6 hM4 hB4 hA4 x4 e4 s4 c34 z34 sB4 sM4' c35 z35
          have HTV : Hid ((r.take v).length = v) := Lib.hid (by rw [List.length_take]; have := HRV.out; omega)
          have cS : w6.cell? ⟨g4, 3, none⟩ = some (.int .i64 (v : Int)) := hP6.cell 3
          have sg := hP6.lt
          have sB6 := hB6.lt
          have sM6 := hM6.lt
          have eB6 := cellsAt_at hB6
          have eM6 := cellsAt_at hM6
          refine wp_region_s [0, 0, 0, 0, 0, 1, 0, 0] (fun x => ∀ b ∈ [sk, g4], x.heap[b]? = w6.heap[b]?) (by kernel_rfl) (by kernel_rfl) ?_
          refine hls_same (fun K hK => ?_)
          go_simp
          refine hK _ ?_
          clear hK K
          refine hls_same (fun K hK => ?_)
          go_simp
          refine hK _ ?_
          clear hK K
          refine hls_same (fun K hK => ?_)
          go_simp
          refine hK _ ?_
          clear hK K
          refine hls_same (fun K hK => ?_)
          go_simp
          refine hK _ ?_
          clear hK K
          refine hls_same (fun K hK => ?_)
          go_simp
          refine hK _ ?_
          clear hK K
          refine hls_skip (by decide) ?_
          refine hls_same (fun K hK => ?_)
          go_simp
          refine hK _ ?_
          clear hK K
          refine hls_same (fun K hK => ?_)
          go_simp
          refine hK _ ?_
          clear hK K
          refine hls_nil ?_
          intro w13 hxw13 K hK
          have hM3 := hM6.ext hxw13
          have hB3 := hB6.ext hxw13
          have x3 := x6.trans hxw13
          have same3 : ∀ b ∈ [sk, g4], w13.heap[b]? = w6.heap[b]? := fun b hb => by
            simp at hb
            rcases hb with rfl | rfl
            · exact hxw13.block _ sB6
            · exact hxw13.block _ sg
          have eM3 := cellsAt_at hM3
          have sM3 := hM3.lt
          clear eM6 sM6
          refine ms_pass ?_
          refine ms_pass ?_
          refine ms_pass ?_
          refine ms_pass ?_
          refine ms_pass ?_
          refine ms_do (by decide) (same3) (fun K' hK' => ?_)
          go_wp2_with fail
          obtain ⟨w14, hw14⟩ : ∃ W : World, W = w13.setRow w.heap.size #[.int .i64 1, .int .i64 0, .int .i64 0, .slice (some ⟨q, off + (1 + z), none⟩) v (c - (1 + z))] := ⟨_, rfl⟩
          have x4 : Ext w w14 := by rw [hw14]; exact x3.setRow (Nat.le_refl _) _
          have hM4 : At w14 w.heap.size 31 #[.int .i64 1, .int .i64 0, .int .i64 0, .slice (some ⟨q, off + (1 + z), none⟩) v (c - (1 + z))] := by rw [hw14]; exact hM3.setRow _
          have same4 : ∀ b ∈ [sk, g4], w14.heap[b]? = w6.heap[b]? := fun b hb => by
            have := same3 b hb
            rw [hw14, ← this]
            simp at hb
            rcases hb with rfl | rfl
            · exact setRow_other _ _ _ _ (by omega)
            · exact setRow_other _ _ _ _ (by omega)
          rw [← hw14]
          clear hw14 eM3
          refine ms_pass ?_
          refine ms_pass ?_
          refine ms_nil (same4) (hK _ _ ?_)
          have eM4 := cellsAt_at hM4
          have sM4 := hM4.lt
          go_wp2_with fail
          first | refine fin_ret rfl (fun K hK => ?_) | refine fin_norm rfl (fun K hK => ?_)
          simp [results, Try.results41, go_sem, rsat]
          try go_simp
          refine hK _ ?_
          clear hK K
          have hcc := HCC.out
          refine ⟨x4, ⟨1, 0, 0, ⟨some ⟨q, off + (1 + z), none⟩, (c - (1 + z)), r.take v⟩⟩, 1 + z + v, 0, by simp [Sp.cells, Bs.v, HTV.out]; rw [IntWalk.i64_left, wrap64_in ⟨by omega, by omega⟩], .inr ⟨rfl, ?_, by omega, ⟨(show I64 1 from ⟨by decide, by decide⟩), (show I64 0 from ⟨by decide, by decide⟩), (show I64 0 from ⟨by decide, by decide⟩), ⟨by rw [HTV.out]; simp only; omega, by unfold maxLen; simp only; omega, by rw [HTV.out]; exact (by have := (HS.out.ext x4).cutS (i := 1 + z) (k := v) (by omega); rw [Nat.add_comm 1 z, List.drop_succ_cons, ← HRZ.out] at this; rw [Nat.add_comm 1 z]; exact this), fun x hx => hs x (by have := List.mem_of_mem_take hx; rw [HRZ.out] at this; exact List.mem_of_mem_drop this)⟩⟩, fun k hk => hk⟩⟩
          rw [HD.out, if_neg (by simp), if_neg HV.out]
          unfold rawR
          rw [if_neg (by simp), if_neg HRV.out, show 1 + z + v = (z + v) + 1 by omega, List.drop_succ_cons, ← List.drop_drop, ← HRZ.out]
          rfl
  · have hn := hrd.2 hf
    rw [hn] at C1
    simp only at C1
    have HC1 := Lib.hid C1
    have hfb : (f != 0) = true := bne_iff_ne.2 hf
    have HF := Lib.hid hf
    clear hn hrd C1 hz hf hS hcell hS1
    go_enter Try.func41, Try.ntmps41
    go_wp2_with fail
    refine (HC1.out _ (hS2.ext (by repeat (first | (with_reducible exact Ext.refl _) | (with_reducible assumption) | (with_reducible refine Ext.alloc ?_ _) | (with_reducible refine Ext.drew ?_) | (with_reducible refine Ext.drewN ?_ _) | (with_reducible refine Ext.setCell ?_ (by simp; try omega) _) | (with_reducible refine Ext.setRow ?_ (by simp; try omega) _))))).mono ?_
    rintro e w1 ⟨rfl, hx1⟩
    have x1 : Ext w w1 := Ext.trans (by repeat (first | (with_reducible exact Ext.refl _) | (with_reducible assumption) | (with_reducible refine Ext.alloc ?_ _) | (with_reducible refine Ext.drew ?_) | (with_reducible refine Ext.drewN ?_ _) | (with_reducible refine Ext.setCell ?_ (by simp; try omega) _) | (with_reducible refine Ext.setRow ?_ (by simp; try omega) _))) hx1
    have hM : At w1 w.heap.size 31 #[.int .i64 0, .int .i64 0, .int .i64 0, .slice none 0 0] := At.ext (by repeat (first | (with_reducible exact At.new _ _ _) | ((with_reducible refine At.new' _ _ _ _ ?_); simp; done) | (with_reducible assumption) | (with_reducible refine At.drew ?_) | (with_reducible refine At.alloc ?_ _) | (with_reducible apply At.upd) | (with_reducible apply At.setRow) | (with_reducible refine At.rowFar ?_ (by first | (simp; done) | (simp; omega) | omega) _) | ((with_reducible refine At.far ?_ (by first | (simp; done) | (simp; omega) | omega) _)) | (with_reducible rfl) | (simp; done))) hx1
    have hB : At w1 (w.heap.size + 1) 31 #[.int .i64 1, .int .i64 0, .int .i64 0, .slice none 0 0] := At.ext (by repeat (first | (with_reducible exact At.new _ _ _) | ((with_reducible refine At.new' _ _ _ _ ?_); simp; done) | (with_reducible assumption) | (with_reducible refine At.drew ?_) | (with_reducible refine At.alloc ?_ _) | (with_reducible apply At.upd) | (with_reducible apply At.setRow) | (with_reducible refine At.rowFar ?_ (by first | (simp; done) | (simp; omega) | omega) _) | ((with_reducible refine At.far ?_ (by first | (simp; done) | (simp; omega) | omega) _)) | (with_reducible rfl) | (simp; done))) hx1
    obtain ⟨sk, hsk⟩ : ∃ sk, sk = w.heap.size + 1 := ⟨_, rfl⟩
    rw [← hsk] at hB ⊢
    have hskl : w.heap.size < sk := by omega
    have hskn : w.heap.size ≠ sk := by omega
    have hskm : sk ≠ w.heap.size := by omega
    clear hsk
    have sM := hM.lt
    have sB := hB.lt
    have eM := cellsAt_at hM
    have eB := cellsAt_at hB
    have zB1 := hB.frozen 1
    have zB2 := hB.frozen 2
    have zB3 := hB.frozen 3
    clear hx1
    go_wp2_with fail
    obtain ⟨w2, hw2⟩ : ∃ W : World, W = w1.alloc (.cells #[.int .u64 0, .int .i64 0, .slice none 0 0, .int .i64 0, .int .i64 f] 67) := ⟨_, rfl⟩
    have xw2 : Ext w w2 := by rw [hw2]; exact x1.alloc _
    have hMw2 : At w2 w.heap.size 31 #[.int .i64 0, .int .i64 0, .int .i64 0, .slice none 0 0] := by rw [hw2]; exact hM.alloc _
    have hBw2 : At w2 sk 31 #[.int .i64 1, .int .i64 0, .int .i64 0, .slice none 0 0] := by rw [hw2]; exact hB.alloc _
    have hPw2 : At w2 w1.heap.size 67 #[.int .u64 0, .int .i64 0, .slice none 0 0, .int .i64 0, .int .i64 f] := by rw [hw2]; exact At.new _ _ _
    rw [← hw2]
    generalize w1.heap.size = gp at *
    clear hw2 hM hB x1 eM eB zB1 zB2 zB3
    have sg := hPw2.lt
    have c4 : w2.cell? ⟨gp, 4, none⟩ = some (.int .i64 f) := hPw2.cell 4
    have sM2 := hMw2.lt
    have eM2 := cellsAt_at hMw2
    refine wp_region_s [0, 0, 0, 1, 0, 0] (fun x => ∀ b ∈ [gp], x.heap[b]? = w2.heap[b]?) (by kernel_rfl) (by kernel_rfl) ?_
    refine hls_same (fun K hK => ?_)
    go_simp
    refine hK _ ?_
    clear hK K
    refine hls_same (fun K hK => ?_)
    go_simp
    refine hK _ ?_
    clear hK K
    refine hls_same (fun K hK => ?_)
    go_simp
    refine hK _ ?_
    clear hK K
    refine hls_skip (by decide) ?_
    refine hls_same (fun K hK => ?_)
    go_simp
    refine hK _ ?_
    clear hK K
    refine hls_same (fun K hK => ?_)
    go_simp
    refine hK _ ?_
    clear hK K
    refine hls_nil ?_
    intro w13 hxw13 K hK
    have hM3 := hMw2.ext hxw13
    have x3 := xw2.trans hxw13
    have same3 : ∀ b ∈ [gp], w13.heap[b]? = w2.heap[b]? := fun b hb => by simp at hb; subst hb; exact hxw13.block _ sg
    have eM3 := cellsAt_at hM3
    have sM3 := hM3.lt
    clear eM2 sM2
    refine ms_pass ?_
    refine ms_pass ?_
    refine ms_pass ?_
    refine ms_do (by decide) (same3) (fun K' hK' => ?_)
    go_wp2_with fail
    obtain ⟨w14, hw14⟩ : ∃ W : World, W = w13.setRow w.heap.size #[.int .i64 0, .int .i64 0, .int .i64 0, .slice none 0 0] := ⟨_, rfl⟩
    have x4 : Ext w w14 := by rw [hw14]; exact x3.setRow (Nat.le_refl _) _
    have hM4 : At w14 w.heap.size 31 #[.int .i64 0, .int .i64 0, .int .i64 0, .slice none 0 0] := by rw [hw14]; exact hM3.setRow _
    have same4 : ∀ b ∈ [gp], w14.heap[b]? = w2.heap[b]? := fun b hb => by have := same3 b hb; rw [hw14]; rw [← this]; simp at hb; subst hb; exact setRow_other _ _ _ _ (by omega)
    rw [← hw14]
    clear hw14 eM3
    refine ms_pass ?_
    refine ms_pass ?_
    refine ms_nil (same4) (hK _ _ ?_)
    have eM4 := cellsAt_at hM4
    have sM4 := hM4.lt
    go_wp2_with fail
    first | refine fin_ret rfl (fun K hK => ?_) | refine fin_norm rfl (fun K hK => ?_)
    simp [results, Try.results41, go_sem, rsat]
    try go_simp
    refine hK _ ?_
    clear hK K
    exact ⟨x4, ⟨0, 0, 0, ⟨none, 0, []⟩⟩, 0, f, rfl, .inl ⟨HF.out, by rw [HD.out, if_pos HF.out]⟩⟩
end Go.Proofs.Ythfomohophmbaaa
/- Steps (layer 29): one step read, by the document: the other kinds. Condition: at most 10^9 bytes. -/
namespace Go.Proofs.Ythfomohophmbaaa
open Go.RowKit
attribute [local go_sem] Later.cell QUpon_value QUpon_enter MUpon_value run_eql_slice_nil Same.cell Same.cells
attribute [local go_sem ↓ high] loadStp_is storeStp_is loadPrt_is storePrt_is
attribute [local go_sem] run_loadStp run_loadStp_at run_storeStp run_loadPrt run_loadPrt_at run_storePrt one_int one_bool one_slice one_ptr one_str setRow_new setRow_past cell_ca frozen_ca cellsAt_alloc_at cellsAt_alloc_past cellsAt_drew cellsAt_later cellsAt_setCell cellsAt_set_same cellsAt_setRow_same cellsAt_setRow_far subAt_alloc subAt_drew subAt_later subAt_setCell subAt_setRow ltn_2 ltn_3 ltn_4 ltn_5
theorem int_part {r rs : List Int} {f2 x : Int} (hr : Byt r) (e2 : (backN (uintR r 0 8).1, (uintR r 0 8).2) = (x, rs, f2)) : ∃ (X : Int) (z : Nat), backN (uintP r 8).1 = X ∧ (uintP r 8).2 = ((z : Int), f2) ∧ z ≤ 8 ∧ (f2 = 0 → X = x ∧ rs = r.drop z ∧ z ≤ r.length) ∧ I64 X := by
  have hxi : I64 x := by
    have := backN_I64 (n := (uintR r 0 8).1) (uintR_lt hr 0)
    injection e2 with e3 _
    exact e3 ▸ this
  obtain ⟨h1, h2⟩ := intR_read (f0 := 0) e2 rfl
  by_cases hf : f2 = 0
  · obtain ⟨a, b, c⟩ := h1 hf
    injection a with a1 a2
    exact ⟨x, 8, a1, by rw [a2, hf]; rfl, Nat.le_refl _, fun _ => ⟨rfl, c, b⟩, hxi⟩
  · have a := h2 hf
    injection a with a1 a2
    exact ⟨0, 0, a1, by rw [a2]; rfl, by decide, fun h => absurd h hf, by decide⟩
set_option maxHeartbeats 4000000 in
set_option maxRecDepth 100000 in
theorem one4_c (A : Option Addr) (c : Nat) (s : List Int) (hb : Byt (4 :: s)) (hl : (4 :: s).length ≤ 1000000000) (hc : (4 :: s).length ≤ c) (hm : c ≤ maxLen) (hc1 : ¬ c - 1 = 0) (w : World) (hS : Src w 1 A (4 :: s).length (bc (4 :: s))) : Calls Try.prog 41 #[.slice A (4 :: s).length c] w fun e w' => OneOf (4 :: s) A w e w' := by
  unfold OneOf
  unfold maxLen at hm
  have hb0 := hb 4 (by simp)
  have hs : Byt s := fun x hx => hb x (by simp [hx])
  have hsl : s.length ≤ 1000000000 := by simp at hl; omega
  obtain ⟨q, off, hA, hqw, hcell⟩ := hS.lt (by simp) (by decide)
  subst hA
  have e0 : w.cell? ⟨q, off, none⟩ = some (.int .u8 4) := by
    have := hcell 0 (by simp)
    rwa [Nat.add_zero] at this
  have hci : s.length + 1 ≤ c := by simpa using hc
  have hlen : ((4 :: s).length : Nat) = s.length + 1 := rfl
  have ew : IntKind.i64.wrap 4 = 4 := by rw [IntWalk.i64_left, wrap64_in ⟨by omega, by omega⟩]
  have hS1 : ∀ B, (0 < s.length → B = some ⟨q, off + 1, none⟩) → Src w 1 B s.length (bc s) := fun B hB => by
    have := hS.drop5 (s := 1) (by simp) B (fun h => by rw [hB (by simp at h; omega)]; simp [Addr.add_lit])
    simpa using this
  rw [hlen] at hS ⊢
  obtain ⟨v, r, f, e1⟩ : ∃ v r f, uintR s 0 1 = (v, r, f) := ⟨_, _, _, rfl⟩
  obtain ⟨hrb, hrl, hv256⟩ := uintR_byt hs hsl e1
  obtain ⟨x, rs, f2, e2⟩ : ∃ x rs f2, (backN (uintR r f 8).1, (uintR r f 8).2) = (x, rs, f2) := ⟨_, _, _, rfl⟩
  have hst := fun h => intR_stays e2 h
  have hD : stepD (4 :: s) = ((4, (v : Int), x, []), rs, f2) := by
    unfold stepD
    simp only
    rw [if_neg (by decide), if_pos trivial, e1]
    simp only
    injection e2 with e3 e4
    rw [e3, e4]
  generalize stepD (4 :: s) = D at hD ⊢
  have HD := Lib.hid hD
  have hS2 := hS1 (some ⟨q, off + 1, none⟩) (fun _ => rfl)
  have hrd := uintR_read (f0 := 0) e1 rfl
  have C1 := readuint_c (some ⟨q, off + 1, none⟩) (c - 1) s 1 (by decide) hs hsl
  by_cases hf : f = 0
  · subst hf
    rw [(hrd.1 rfl).1] at C1
    simp only at C1
    obtain ⟨_, hsv, _⟩ := one_inv hs e1
    subst hsv
    obtain ⟨X, z, i1, i2, i3, i4, i5⟩ := int_part hrb e2
    have HINT := Lib.hid i4
    have HXI := Lib.hid i5
    have hS3 : ∀ B, (0 < r.length → B = some ⟨q, off + 2, none⟩) → Src w 1 B r.length (bc r) := fun B hB => by
      have := hS.drop5 (s := 2) (by simp) B (fun h => by rw [hB (by simp at h; omega)]; simp [Addr.add_lit])
      simpa using this
    have C2 : ∀ (B : Option Addr) (c2 : Nat), (0 < r.length → B = some ⟨q, off + 2, none⟩) → ∀ W, Ext w W → Calls Try.prog 59 #[.slice B r.length c2] W fun e w' => e = .returned (.agg #[.int .u64 0, .int .i64 X, .slice none 0 0, .int .i64 (z : Int), .int .i64 f2]) ∧ Ext W w' := fun B c2 hB W hx => by
      have := readint_c B c2 r hrb hrl W ((hS3 B hB).ext hx)
      rwa [i1, i2] at this
    have HC1 := Lib.hid C1
    have HC2 := Lib.hid C2
    have ewv : IntKind.i64.wrap (v : Int) = (v : Int) := by rw [IntWalk.i64_left, wrap64_in ⟨by omega, by omega⟩]
    clear hrd C1 C2 hS hcell hS1 hS3 hst e1 e2 i1 i2 i4 i5 hD
    simp only [List.length_cons] at *
    go_enter Try.func41, Try.ntmps41
    go_wp2_with fail
    refine (HC1.out _ (hS2.ext (by repeat (first | (with_reducible exact Ext.refl _) | (with_reducible assumption) | (with_reducible refine Ext.alloc ?_ _) | (with_reducible refine Ext.drew ?_) | (with_reducible refine Ext.drewN ?_ _) | (with_reducible refine Ext.setCell ?_ (by simp; try omega) _) | (with_reducible refine Ext.setRow ?_ (by simp; try omega) _))))).mono ?_
    rintro e w1 ⟨rfl, hx1⟩
    have x1 : Ext w w1 := Ext.trans (by repeat (first | (with_reducible exact Ext.refl _) | (with_reducible assumption) | (with_reducible refine Ext.alloc ?_ _) | (with_reducible refine Ext.drew ?_) | (with_reducible refine Ext.drewN ?_ _) | (with_reducible refine Ext.setCell ?_ (by simp; try omega) _) | (with_reducible refine Ext.setRow ?_ (by simp; try omega) _))) hx1
    have hM : At w1 w.heap.size 31 #[.int .i64 0, .int .i64 0, .int .i64 0, .slice none 0 0] := At.ext (by repeat (first | (with_reducible exact At.new _ _ _) | ((with_reducible refine At.new' _ _ _ _ ?_); simp; done) | (with_reducible assumption) | (with_reducible refine At.drew ?_) | (with_reducible refine At.alloc ?_ _) | (with_reducible apply At.upd) | (with_reducible apply At.setRow) | (with_reducible refine At.rowFar ?_ (by first | (simp; done) | (simp; omega) | omega) _) | ((with_reducible refine At.far ?_ (by first | (simp; done) | (simp; omega) | omega) _)) | (with_reducible rfl) | (simp; done))) hx1
    have hB : At w1 (w.heap.size + 1) 31 #[.int .i64 4, .int .i64 0, .int .i64 0, .slice none 0 0] := At.ext (by repeat (first | (with_reducible exact At.new _ _ _) | ((with_reducible refine At.new' _ _ _ _ ?_); simp; done) | (with_reducible assumption) | (with_reducible refine At.drew ?_) | (with_reducible refine At.alloc ?_ _) | (with_reducible apply At.upd) | (with_reducible apply At.setRow) | (with_reducible refine At.rowFar ?_ (by first | (simp; done) | (simp; omega) | omega) _) | ((with_reducible refine At.far ?_ (by first | (simp; done) | (simp; omega) | omega) _)) | (with_reducible rfl) | (simp; done))) hx1
    obtain ⟨sk, hsk⟩ : ∃ sk, sk = w.heap.size + 1 := ⟨_, rfl⟩
    rw [← hsk] at hB ⊢
    have hskl : w.heap.size < sk := by omega
    have hskn : w.heap.size ≠ sk := by omega
    have hskm : sk ≠ w.heap.size := by omega
    clear hsk
    have sM := hM.lt
    have sB := hB.lt
    have eM := cellsAt_at hM
    have eB := cellsAt_at hB
    have zB1 := hB.frozen 1
    have zB2 := hB.frozen 2
    have zB3 := hB.frozen 3
    clear hx1
    go_wp2_with fail
    all_goals first | (exfalso; omega) | skip
    all_goals
      obtain ⟨w2, hw2⟩ : ∃ W : World, W = (w1.setCell ⟨sk, 1, none⟩ (.int .i64 (v : Int))).alloc (.cells #[.int .u64 (v : Int), .int .i64 0, .slice none 0 0, .int .i64 1, .int .i64 0] 67) := ⟨_, rfl⟩
      have x2 : Ext w w2 := by rw [hw2]; exact (x1.setCell (by simp only; omega) _).alloc _
      have hM2 : At w2 w.heap.size 31 #[.int .i64 0, .int .i64 0, .int .i64 0, .slice none 0 0] := by rw [hw2]; exact (hM.far hskn _).alloc _
      have hB2 : At w2 sk 31 #[.int .i64 4, .int .i64 (v : Int), .int .i64 0, .slice none 0 0] := by rw [hw2]; exact (hB.set 1 _).alloc _
      rw [← hw2]
      clear hw2 hM hB x1 eM eB sM sB zB1 zB2 zB3
      refine (HC2.out _ _ (fun h => by first | rfl | (exfalso; omega)) _ x2).mono ?_
      rintro e w3 ⟨rfl, hx3⟩
      have x3' := x2.trans hx3
      have hM := hM2.ext hx3
      have hB := hB2.ext hx3
      have sM := hM.lt
      have sB := hB.lt
      have eM := cellsAt_at hM
      have eB := cellsAt_at hB
      have zB2 := hB.frozen 2
      clear hx3 hM2 hB2 x2
      go_wp2_with fail
      obtain ⟨w6, hw6⟩ : ∃ W : World, W = (w3.setCell ⟨sk, 2, none⟩ (.int .i64 X)).alloc (.cells #[.int .u64 0, .int .i64 X, .slice none 0 0, .int .i64 (z : Int), .int .i64 f2] 67) := ⟨_, rfl⟩
      have x6 : Ext w w6 := by rw [hw6]; exact (x3'.setCell (by simp only; omega) _).alloc _
      have hM6 : At w6 w.heap.size 31 #[.int .i64 0, .int .i64 0, .int .i64 0, .slice none 0 0] := by rw [hw6]; exact (hM.far hskn _).alloc _
      have hB6 : At w6 sk 31 #[.int .i64 4, .int .i64 (v : Int), .int .i64 X, .slice none 0 0] := by rw [hw6]; exact (hB.set 2 _).alloc _
      have hP6 : At w6 w3.heap.size 67 #[.int .u64 0, .int .i64 X, .slice none 0 0, .int .i64 (z : Int), .int .i64 f2] := by rw [hw6]; exact At.new' _ _ _ _ (by simp)
      rw [← hw6]
      generalize w3.heap.size = gp at *
      clear hw6 hM hB x3' eM eB
      have sg := hP6.lt
      have sB6 := hB6.lt
      have sM6 := hM6.lt
      have eB6 := cellsAt_at hB6
      have eM6 := cellsAt_at hM6
      have cS : w6.cell? ⟨gp, 3, none⟩ = some (.int .i64 (z : Int)) := hP6.cell 3
      have cF : w6.cell? ⟨gp, 4, none⟩ = some (.int .i64 f2) := hP6.cell 4
      refine wp_region_s [0, 0, 0, 0, 0, 0, 0, 1, 0, 0] (fun x => ∀ b ∈ [sk, gp], x.heap[b]? = w6.heap[b]?) (by kernel_rfl) (by kernel_rfl) ?_
      refine hls_same (fun K hK => ?_)
      go_simp
      refine hK _ ?_
      clear hK K
      refine hls_same (fun K hK => ?_)
      go_simp
      refine hK _ ?_
      clear hK K
      refine hls_same (fun K hK => ?_)
      go_simp
      refine hK _ ?_
      clear hK K
      refine hls_same (fun K hK => ?_)
      go_simp
      refine hK _ ?_
      clear hK K
      refine hls_same (fun K hK => ?_)
      go_simp
      refine hK _ ?_
      clear hK K
      refine hls_same (fun K hK => ?_)
      go_simp
      refine hK _ ?_
      clear hK K
      refine hls_same (fun K hK => ?_)
      go_simp
      refine hK _ ?_
      clear hK K
      refine hls_skip (by decide) ?_
      refine hls_same (fun K hK => ?_)
      go_simp
      refine hK _ ?_
      clear hK K
      refine hls_same (fun K hK => ?_)
      go_simp
      refine hK _ ?_
      clear hK K
      refine hls_nil ?_
      intro w13 hxw13 K hK
      have hM3 := hM6.ext hxw13
      have hB3 := hB6.ext hxw13
      have x3 := x6.trans hxw13
      have same3 : ∀ b ∈ [sk, gp], w13.heap[b]? = w6.heap[b]? := fun b hb => by
        simp at hb
        rcases hb with rfl | rfl
        · exact hxw13.block _ sB6
        · exact hxw13.block _ sg
      have eM3 := cellsAt_at hM3
      have sM3 := hM3.lt
      clear eM6 sM6
      refine ms_pass ?_
      refine ms_pass ?_
      refine ms_pass ?_
      refine ms_pass ?_
      refine ms_pass ?_
      refine ms_pass ?_
      refine ms_pass ?_
      refine ms_do (by decide) (same3) (fun K' hK' => ?_)
      go_wp2_with fail
      obtain ⟨w14, hw14⟩ : ∃ W : World, W = w13.setRow w.heap.size #[.int .i64 4, .int .i64 (v : Int), .int .i64 X, .slice none 0 0] := ⟨_, rfl⟩
      have x4 : Ext w w14 := by rw [hw14]; exact x3.setRow (Nat.le_refl _) _
      have hM4 : At w14 w.heap.size 31 #[.int .i64 4, .int .i64 (v : Int), .int .i64 X, .slice none 0 0] := by rw [hw14]; exact hM3.setRow _
      have same4 : ∀ b ∈ [sk, gp], w14.heap[b]? = w6.heap[b]? := fun b hb => by
        have := same3 b hb
        rw [hw14, ← this]
        simp at hb
        rcases hb with rfl | rfl
        · exact setRow_other _ _ _ _ (by omega)
        · exact setRow_other _ _ _ _ (by omega)
      rw [← hw14]
      clear hw14 eM3
      refine ms_pass ?_
      refine ms_pass ?_
      refine ms_nil (same4) (hK _ _ ?_)
      have eM4 := cellsAt_at hM4
      have sM4 := hM4.lt
      go_wp2_with fail
      first | refine fin_ret rfl (fun K hK => ?_) | refine fin_norm rfl (fun K hK => ?_)
      simp [results, Try.results41, go_sem, rsat]
      try go_simp
      refine hK _ ?_
      clear hK K
      refine ⟨x4, ⟨4, (v : Int), X, ⟨none, 0, []⟩⟩, 2 + z, f2, by simp [Sp.cells, Bs.v] <;> rw [IntWalk.i64_left, wrap64_in ⟨by omega, by omega⟩], ?_⟩
      by_cases hf2 : f2 = 0
      · obtain ⟨q1, q2, q3⟩ := HINT.out hf2
        refine .inr ⟨hf2, ?_, by first | omega | (simp only [List.length_cons]; omega), Sp.bare (by unfold I64; omega) (by unfold I64; omega) HXI.out _, fun k hk => by simp [ablk] at hk⟩
        rw [HD.out, q1, q2, hf2]
        rw [show 2 + z = (z + 1) + 1 by omega, List.drop_succ_cons, List.drop_succ_cons]; rfl
      · exact .inl ⟨hf2, by rw [HD.out]⟩
  · have hn := hrd.2 hf
    rw [hn] at C1
    simp only at C1
    have HC1 := Lib.hid C1
    have hfb : (f != 0) = true := bne_iff_ne.2 hf
    have HF := Lib.hid hf
    have HST := Lib.hid (hst hf)
    clear hn hrd C1 hf hS hcell hS1 hst e1 e2 hD
    go_enter Try.func41, Try.ntmps41
    go_wp2_with fail
    refine (HC1.out _ (hS2.ext (by repeat (first | (with_reducible exact Ext.refl _) | (with_reducible assumption) | (with_reducible refine Ext.alloc ?_ _) | (with_reducible refine Ext.drew ?_) | (with_reducible refine Ext.drewN ?_ _) | (with_reducible refine Ext.setCell ?_ (by simp; try omega) _) | (with_reducible refine Ext.setRow ?_ (by simp; try omega) _))))).mono ?_
    rintro e w1 ⟨rfl, hx1⟩
    have x1 : Ext w w1 := Ext.trans (by repeat (first | (with_reducible exact Ext.refl _) | (with_reducible assumption) | (with_reducible refine Ext.alloc ?_ _) | (with_reducible refine Ext.drew ?_) | (with_reducible refine Ext.drewN ?_ _) | (with_reducible refine Ext.setCell ?_ (by simp; try omega) _) | (with_reducible refine Ext.setRow ?_ (by simp; try omega) _))) hx1
    have hM : At w1 w.heap.size 31 #[.int .i64 0, .int .i64 0, .int .i64 0, .slice none 0 0] := At.ext (by repeat (first | (with_reducible exact At.new _ _ _) | ((with_reducible refine At.new' _ _ _ _ ?_); simp; done) | (with_reducible assumption) | (with_reducible refine At.drew ?_) | (with_reducible refine At.alloc ?_ _) | (with_reducible apply At.upd) | (with_reducible apply At.setRow) | (with_reducible refine At.rowFar ?_ (by first | (simp; done) | (simp; omega) | omega) _) | ((with_reducible refine At.far ?_ (by first | (simp; done) | (simp; omega) | omega) _)) | (with_reducible rfl) | (simp; done))) hx1
    have hB : At w1 (w.heap.size + 1) 31 #[.int .i64 4, .int .i64 0, .int .i64 0, .slice none 0 0] := At.ext (by repeat (first | (with_reducible exact At.new _ _ _) | ((with_reducible refine At.new' _ _ _ _ ?_); simp; done) | (with_reducible assumption) | (with_reducible refine At.drew ?_) | (with_reducible refine At.alloc ?_ _) | (with_reducible apply At.upd) | (with_reducible apply At.setRow) | (with_reducible refine At.rowFar ?_ (by first | (simp; done) | (simp; omega) | omega) _) | ((with_reducible refine At.far ?_ (by first | (simp; done) | (simp; omega) | omega) _)) | (with_reducible rfl) | (simp; done))) hx1
    obtain ⟨sk, hsk⟩ : ∃ sk, sk = w.heap.size + 1 := ⟨_, rfl⟩
    rw [← hsk] at hB ⊢
    have hskl : w.heap.size < sk := by omega
    have hskn : w.heap.size ≠ sk := by omega
    have hskm : sk ≠ w.heap.size := by omega
    clear hsk
    have sM := hM.lt
    have sB := hB.lt
    have eM := cellsAt_at hM
    have eB := cellsAt_at hB
    have zB1 := hB.frozen 1
    have zB2 := hB.frozen 2
    have zB3 := hB.frozen 3
    clear hx1
    go_wp2_with fail
    obtain ⟨w2, hw2⟩ : ∃ W : World, W = w1.alloc (.cells #[.int .u64 0, .int .i64 0, .slice none 0 0, .int .i64 0, .int .i64 f] 67) := ⟨_, rfl⟩
    have xw2 : Ext w w2 := by rw [hw2]; exact x1.alloc _
    have hMw2 : At w2 w.heap.size 31 #[.int .i64 0, .int .i64 0, .int .i64 0, .slice none 0 0] := by rw [hw2]; exact hM.alloc _
    have hBw2 : At w2 sk 31 #[.int .i64 4, .int .i64 0, .int .i64 0, .slice none 0 0] := by rw [hw2]; exact hB.alloc _
    have hPw2 : At w2 w1.heap.size 67 #[.int .u64 0, .int .i64 0, .slice none 0 0, .int .i64 0, .int .i64 f] := by rw [hw2]; exact At.new _ _ _
    rw [← hw2]
    generalize w1.heap.size = gp at *
    clear hw2 hM hB x1 eM eB zB1 zB2 zB3
    have sg := hPw2.lt
    have c4 : w2.cell? ⟨gp, 4, none⟩ = some (.int .i64 f) := hPw2.cell 4
    have sM2 := hMw2.lt
    have eM2 := cellsAt_at hMw2
    refine wp_region_s [0, 0, 0, 1, 0, 0] (fun x => ∀ b ∈ [gp], x.heap[b]? = w2.heap[b]?) (by kernel_rfl) (by kernel_rfl) ?_
    refine hls_same (fun K hK => ?_)
    go_simp
    refine hK _ ?_
    clear hK K
    refine hls_same (fun K hK => ?_)
    go_simp
    refine hK _ ?_
    clear hK K
    refine hls_same (fun K hK => ?_)
    go_simp
    refine hK _ ?_
    clear hK K
    refine hls_skip (by decide) ?_
    refine hls_same (fun K hK => ?_)
    go_simp
    refine hK _ ?_
    clear hK K
    refine hls_same (fun K hK => ?_)
    go_simp
    refine hK _ ?_
    clear hK K
    refine hls_nil ?_
    intro w13 hxw13 K hK
    have hM3 := hMw2.ext hxw13
    have x3 := xw2.trans hxw13
    have same3 : ∀ b ∈ [gp], w13.heap[b]? = w2.heap[b]? := fun b hb => by simp at hb; subst hb; exact hxw13.block _ sg
    have eM3 := cellsAt_at hM3
    have sM3 := hM3.lt
    clear eM2 sM2
    refine ms_pass ?_
    refine ms_pass ?_
    refine ms_pass ?_
    refine ms_do (by decide) (same3) (fun K' hK' => ?_)
    go_wp2_with fail
    obtain ⟨w14, hw14⟩ : ∃ W : World, W = w13.setRow w.heap.size #[.int .i64 0, .int .i64 0, .int .i64 0, .slice none 0 0] := ⟨_, rfl⟩
    have x4 : Ext w w14 := by rw [hw14]; exact x3.setRow (Nat.le_refl _) _
    have hM4 : At w14 w.heap.size 31 #[.int .i64 0, .int .i64 0, .int .i64 0, .slice none 0 0] := by rw [hw14]; exact hM3.setRow _
    have same4 : ∀ b ∈ [gp], w14.heap[b]? = w2.heap[b]? := fun b hb => by have := same3 b hb; rw [hw14]; rw [← this]; simp at hb; subst hb; exact setRow_other _ _ _ _ (by omega)
    rw [← hw14]
    clear hw14 eM3
    refine ms_pass ?_
    refine ms_pass ?_
    refine ms_nil (same4) (hK _ _ ?_)
    have eM4 := cellsAt_at hM4
    have sM4 := hM4.lt
    go_wp2_with fail
    first | refine fin_ret rfl (fun K hK => ?_) | refine fin_norm rfl (fun K hK => ?_)
    simp [results, Try.results41, go_sem, rsat]
    try go_simp
    refine hK _ ?_
    clear hK K
    exact ⟨x4, ⟨0, 0, 0, ⟨none, 0, []⟩⟩, 0, f, rfl, .inl ⟨HF.out, by rw [HD.out, HST.out]⟩⟩
set_option maxHeartbeats 4000000 in
set_option maxRecDepth 100000 in
theorem one23_c (A : Option Addr) (c : Nat) (b : Int) (s : List Int) (hb : Byt (b :: s)) (hl : (b :: s).length ≤ 1000000000) (hc : (b :: s).length ≤ c) (hm : c ≤ maxLen) (hc1 : ¬ c - 1 = 0) (k23 : (b = 2 ∨ b = 3)) (w : World) (hS : Src w 1 A (b :: s).length (bc (b :: s))) : Calls Try.prog 41 #[.slice A (b :: s).length c] w fun e w' => OneOf (b :: s) A w e w' := by
  unfold OneOf
  unfold maxLen at hm
  have hb0 := hb b (by simp)
  have hs : Byt s := fun x hx => hb x (by simp [hx])
  have hsl : s.length ≤ 1000000000 := by simp at hl; omega
  obtain ⟨q, off, hA, hqw, hcell⟩ := hS.lt (by simp) (by decide)
  subst hA
  have e0 : w.cell? ⟨q, off, none⟩ = some (.int .u8 b) := by
    have := hcell 0 (by simp)
    rwa [Nat.add_zero] at this
  have hci : s.length + 1 ≤ c := by simpa using hc
  have hlen : ((b :: s).length : Nat) = s.length + 1 := rfl
  have ew : IntKind.i64.wrap b = b := by rw [IntWalk.i64_left, wrap64_in ⟨by omega, by omega⟩]
  have hS1 : ∀ B, (0 < s.length → B = some ⟨q, off + 1, none⟩) → Src w 1 B s.length (bc s) := fun B hB => by
    have := hS.drop5 (s := 1) (by simp) B (fun h => by rw [hB (by simp at h; omega)]; simp [Addr.add_lit])
    simpa using this
  rw [hlen] at hS ⊢
  obtain ⟨x, rs, f2, e2⟩ : ∃ x rs f2, (backN (uintR s 0 8).1, (uintR s 0 8).2) = (x, rs, f2) := ⟨_, _, _, rfl⟩
  have hD : stepD (b :: s) = ((b, 0, x, []), rs, f2) := by
    unfold stepD
    simp only
    rw [if_neg (by omega), if_neg (by omega), if_pos k23]
    injection e2 with e3 e4
    rw [e3, e4]
  generalize stepD (b :: s) = D at hD ⊢
  have HD := Lib.hid hD
  have hS2 := hS1 (some ⟨q, off + 1, none⟩) (fun _ => rfl)
  obtain ⟨X, z, i1, i2, i3, i4, i5⟩ := int_part hs e2
  have HINT := Lib.hid i4
  have HXI := Lib.hid i5
  have C1 := readint_c (some ⟨q, off + 1, none⟩) (c - 1) s hs hsl
  rw [i1, i2] at C1
  simp only at C1
  have HC1 := Lib.hid C1
  have p1 : (b == 1) = false := beq_eq_false_iff_ne.2 (by omega)
  have p4 : (b == 4) = false := beq_eq_false_iff_ne.2 (by omega)
  have p23 : ((b == 2) = true ∧ (b == 3) = false) ∨ ((b == 2) = false ∧ (b == 3) = true) := by rcases k23 with rfl | rfl; exact .inl ⟨rfl, rfl⟩; exact .inr ⟨rfl, rfl⟩
  clear C1 hS hcell hS1 e2 i1 i2 i4 i5 hD
  rcases p23 with ⟨p2, p3⟩ | ⟨p2, p3⟩
  all_goals
    go_enter Try.func41, Try.ntmps41
    go_wp2_with fail
    refine (HC1.out _ (hS2.ext (by repeat (first | (with_reducible exact Ext.refl _) | (with_reducible assumption) | (with_reducible refine Ext.alloc ?_ _) | (with_reducible refine Ext.drew ?_) | (with_reducible refine Ext.drewN ?_ _) | (with_reducible refine Ext.setCell ?_ (by simp; try omega) _) | (with_reducible refine Ext.setRow ?_ (by simp; try omega) _))))).mono ?_
    rintro e w1 ⟨rfl, hx1⟩
    have x1 : Ext w w1 := Ext.trans (by repeat (first | (with_reducible exact Ext.refl _) | (with_reducible assumption) | (with_reducible refine Ext.alloc ?_ _) | (with_reducible refine Ext.drew ?_) | (with_reducible refine Ext.drewN ?_ _) | (with_reducible refine Ext.setCell ?_ (by simp; try omega) _) | (with_reducible refine Ext.setRow ?_ (by simp; try omega) _))) hx1
    have hM : At w1 w.heap.size 31 #[.int .i64 0, .int .i64 0, .int .i64 0, .slice none 0 0] := At.ext (by repeat (first | (with_reducible exact At.new _ _ _) | ((with_reducible refine At.new' _ _ _ _ ?_); simp; done) | (with_reducible assumption) | (with_reducible refine At.drew ?_) | (with_reducible refine At.alloc ?_ _) | (with_reducible apply At.upd) | (with_reducible apply At.setRow) | (with_reducible refine At.rowFar ?_ (by first | (simp; done) | (simp; omega) | omega) _) | ((with_reducible refine At.far ?_ (by first | (simp; done) | (simp; omega) | omega) _)) | (with_reducible rfl) | (simp; done))) hx1
    have hB : At w1 (w.heap.size + 1) 31 #[.int .i64 b, .int .i64 0, .int .i64 0, .slice none 0 0] := At.ext (by repeat (first | (with_reducible exact At.new _ _ _) | ((with_reducible refine At.new' _ _ _ _ ?_); simp; done) | (with_reducible assumption) | (with_reducible refine At.drew ?_) | (with_reducible refine At.alloc ?_ _) | (with_reducible apply At.upd) | (with_reducible apply At.setRow) | (with_reducible refine At.rowFar ?_ (by first | (simp; done) | (simp; omega) | omega) _) | ((with_reducible refine At.far ?_ (by first | (simp; done) | (simp; omega) | omega) _)) | (with_reducible rfl) | (simp; done))) hx1
    obtain ⟨sk, hsk⟩ : ∃ sk, sk = w.heap.size + 1 := ⟨_, rfl⟩
    rw [← hsk] at hB ⊢
    have hskl : w.heap.size < sk := by omega
    have hskn : w.heap.size ≠ sk := by omega
    have hskm : sk ≠ w.heap.size := by omega
    clear hsk
    have sM := hM.lt
    have sB := hB.lt
    have eM := cellsAt_at hM
    have eB := cellsAt_at hB
    have zB1 := hB.frozen 1
    have zB2 := hB.frozen 2
    have zB3 := hB.frozen 3
    clear hx1
    go_wp2_with fail
    obtain ⟨w6, hw6⟩ : ∃ W : World, W = (w1.setCell ⟨sk, 2, none⟩ (.int .i64 X)).alloc (.cells #[.int .u64 0, .int .i64 X, .slice none 0 0, .int .i64 (z : Int), .int .i64 f2] 67) := ⟨_, rfl⟩
    have x6 : Ext w w6 := by rw [hw6]; exact (x1.setCell (by simp only; omega) _).alloc _
    have hM6 : At w6 w.heap.size 31 #[.int .i64 0, .int .i64 0, .int .i64 0, .slice none 0 0] := by rw [hw6]; exact (hM.far hskn _).alloc _
    have hB6 : At w6 sk 31 #[.int .i64 b, .int .i64 0, .int .i64 X, .slice none 0 0] := by rw [hw6]; exact (hB.set 2 _).alloc _
    have hP6 : At w6 w1.heap.size 67 #[.int .u64 0, .int .i64 X, .slice none 0 0, .int .i64 (z : Int), .int .i64 f2] := by rw [hw6]; exact At.new' _ _ _ _ (by simp)
    rw [← hw6]
    generalize w1.heap.size = gp at *
    clear hw6 hM hB x1 eM eB
    have sg := hP6.lt
    have sB6 := hB6.lt
    have sM6 := hM6.lt
    have eB6 := cellsAt_at hB6
    have eM6 := cellsAt_at hM6
    have cS : w6.cell? ⟨gp, 3, none⟩ = some (.int .i64 (z : Int)) := hP6.cell 3
    have cF : w6.cell? ⟨gp, 4, none⟩ = some (.int .i64 f2) := hP6.cell 4
    refine wp_region_s [0, 0, 0, 0, 0, 0, 0, 1, 0, 0] (fun x => ∀ b ∈ [sk, gp], x.heap[b]? = w6.heap[b]?) (by kernel_rfl) (by kernel_rfl) ?_
    refine hls_same (fun K hK => ?_)
    go_simp
    refine hK _ ?_
    clear hK K
    refine hls_same (fun K hK => ?_)
    go_simp
    refine hK _ ?_
    clear hK K
    refine hls_same (fun K hK => ?_)
    go_simp
    refine hK _ ?_
    clear hK K
    refine hls_same (fun K hK => ?_)
    go_simp
    refine hK _ ?_
    clear hK K
    refine hls_same (fun K hK => ?_)
    go_simp
    refine hK _ ?_
    clear hK K
    refine hls_same (fun K hK => ?_)
    go_simp
    refine hK _ ?_
    clear hK K
    refine hls_same (fun K hK => ?_)
    go_simp
    refine hK _ ?_
    clear hK K
    refine hls_skip (by decide) ?_
    refine hls_same (fun K hK => ?_)
    go_simp
    refine hK _ ?_
    clear hK K
    refine hls_same (fun K hK => ?_)
    go_simp
    refine hK _ ?_
    clear hK K
    refine hls_nil ?_
    intro w13 hxw13 K hK
    have hM3 := hM6.ext hxw13
    have hB3 := hB6.ext hxw13
    have x3 := x6.trans hxw13
    have same3 : ∀ b ∈ [sk, gp], w13.heap[b]? = w6.heap[b]? := fun b hb => by
      simp at hb
      rcases hb with rfl | rfl
      · exact hxw13.block _ sB6
      · exact hxw13.block _ sg
    have eM3 := cellsAt_at hM3
    have sM3 := hM3.lt
    clear eM6 sM6
    refine ms_pass ?_
    refine ms_pass ?_
    refine ms_pass ?_
    refine ms_pass ?_
    refine ms_pass ?_
    refine ms_pass ?_
    refine ms_pass ?_
    refine ms_do (by decide) (same3) (fun K' hK' => ?_)
    go_wp2_with fail
    obtain ⟨w14, hw14⟩ : ∃ W : World, W = w13.setRow w.heap.size #[.int .i64 b, .int .i64 0, .int .i64 X, .slice none 0 0] := ⟨_, rfl⟩
    have x4 : Ext w w14 := by rw [hw14]; exact x3.setRow (Nat.le_refl _) _
    have hM4 : At w14 w.heap.size 31 #[.int .i64 b, .int .i64 0, .int .i64 X, .slice none 0 0] := by rw [hw14]; exact hM3.setRow _
    have same4 : ∀ b ∈ [sk, gp], w14.heap[b]? = w6.heap[b]? := fun b hb => by
      have := same3 b hb
      rw [hw14, ← this]
      simp at hb
      rcases hb with rfl | rfl
      · exact setRow_other _ _ _ _ (by omega)
      · exact setRow_other _ _ _ _ (by omega)
    rw [← hw14]
    clear hw14 eM3
    refine ms_pass ?_
    refine ms_pass ?_
    refine ms_nil (same4) (hK _ _ ?_)
    have eM4 := cellsAt_at hM4
    have sM4 := hM4.lt
    go_wp2_with fail
    first | refine fin_ret rfl (fun K hK => ?_) | refine fin_norm rfl (fun K hK => ?_)
    simp [results, Try.results41, go_sem, rsat]
    try go_simp
    refine hK _ ?_
    clear hK K
    refine ⟨x4, ⟨b, 0, X, ⟨none, 0, []⟩⟩, 1 + z, f2, by simp [Sp.cells, Bs.v] <;> rw [IntWalk.i64_left, wrap64_in ⟨by omega, by omega⟩], ?_⟩
    by_cases hf2 : f2 = 0
    · obtain ⟨q1, q2, q3⟩ := HINT.out hf2
      refine .inr ⟨hf2, ?_, by first | omega | (simp only [List.length_cons]; omega), Sp.bare (by unfold I64; omega) (by unfold I64; omega) HXI.out _, fun k hk => by simp [ablk] at hk⟩
      rw [HD.out, q1, q2, hf2]
      rw [Nat.add_comm 1 z, List.drop_succ_cons]; rfl
    · exact .inl ⟨hf2, by rw [HD.out]⟩
set_option maxHeartbeats 4000000 in
set_option maxRecDepth 100000 in
theorem onex_c (A : Option Addr) (c : Nat) (b : Int) (s : List Int) (hb : Byt (b :: s)) (hl : (b :: s).length ≤ 1000000000) (hc : (b :: s).length ≤ c) (hm : c ≤ maxLen) (hc1 : ¬ c - 1 = 0) (k1 : b ≠ 1) (k4 : b ≠ 4) (k23 : ¬ (b = 2 ∨ b = 3)) (w : World) (hS : Src w 1 A (b :: s).length (bc (b :: s))) : Calls Try.prog 41 #[.slice A (b :: s).length c] w fun e w' => OneOf (b :: s) A w e w' := by
  unfold OneOf
  unfold maxLen at hm
  have hb0 := hb b (by simp)
  have hs : Byt s := fun x hx => hb x (by simp [hx])
  have hsl : s.length ≤ 1000000000 := by simp at hl; omega
  obtain ⟨q, off, hA, hqw, hcell⟩ := hS.lt (by simp) (by decide)
  subst hA
  have e0 : w.cell? ⟨q, off, none⟩ = some (.int .u8 b) := by
    have := hcell 0 (by simp)
    rwa [Nat.add_zero] at this
  have hci : s.length + 1 ≤ c := by simpa using hc
  have hlen : ((b :: s).length : Nat) = s.length + 1 := rfl
  have ew : IntKind.i64.wrap b = b := by rw [IntWalk.i64_left, wrap64_in ⟨by omega, by omega⟩]
  have hS1 : ∀ B, (0 < s.length → B = some ⟨q, off + 1, none⟩) → Src w 1 B s.length (bc s) := fun B hB => by
    have := hS.drop5 (s := 1) (by simp) B (fun h => by rw [hB (by simp at h; omega)]; simp [Addr.add_lit])
    simpa using this
  rw [hlen] at hS ⊢
  have hD : stepD (b :: s) = ((b, 0, 0, []), s, 4) := by
    unfold stepD
    simp only
    rw [if_neg k1, if_neg k4, if_neg k23]
  generalize stepD (b :: s) = D at hD ⊢
  have HD := Lib.hid hD
  have p1 : (b == 1) = false := beq_eq_false_iff_ne.2 k1
  have p4 : (b == 4) = false := beq_eq_false_iff_ne.2 k4
  have p2 : (b == 2) = false := beq_eq_false_iff_ne.2 (fun h => k23 (.inl h))
  have p3 : (b == 3) = false := beq_eq_false_iff_ne.2 (fun h => k23 (.inr h))
  clear hS hcell hS1 hD k1 k4 k23
  go_enter Try.func41, Try.ntmps41
  go_wp2_with fail
  first | refine fin_ret rfl (fun K hK => ?_) | refine fin_norm rfl (fun K hK => ?_)
  simp [results, Try.results41, go_sem, rsat]
  try go_simp
  refine hK _ ?_
  clear hK K
  exact ⟨(by repeat (first | (with_reducible exact Ext.refl _) | (with_reducible assumption) | (with_reducible refine Ext.alloc ?_ _) | (with_reducible refine Ext.drew ?_) | (with_reducible refine Ext.drewN ?_ _) | (with_reducible refine Ext.setCell ?_ (by simp; try omega) _) | (with_reducible refine Ext.setRow ?_ (by simp; try omega) _))), ⟨0, 0, 0, ⟨none, 0, []⟩⟩, 0, 4, rfl, .inl ⟨by decide, by rw [HD.out]⟩⟩
set_option maxHeartbeats 4000000 in
set_option maxRecDepth 100000 in
theorem onet_c (A : Option Addr) (b : Int) (hb : Byt [b]) (w : World) (hS : Src w 1 A 1 (bc [b])) : Calls Try.prog 41 #[.slice A 1 1] w fun e w' => OneOf [b] A w e w' := by
  unfold OneOf
  have hb0 := hb b (by simp)
  obtain ⟨q, off, hA, hqw, hcell⟩ := hS.lt (by simp) (by decide)
  subst hA
  have e0 : w.cell? ⟨q, off, none⟩ = some (.int .u8 b) := by
    have := hcell 0 (by simp)
    rwa [Nat.add_zero] at this
  have ew : IntKind.i64.wrap b = b := by rw [IntWalk.i64_left, wrap64_in ⟨by omega, by omega⟩]
  have hnil : Byt [] := fun x hx => by cases hx
  have hS2 : Src w 1 (some ⟨q, off, none⟩) ([] : List Int).length (bc []) := ⟨rfl, fun h => absurd h (by decide)⟩
  by_cases k1 : b = 1
  · subst k1
    have hD : (stepD [1]).2.2 = 3 := by decide
    generalize stepD [1] = D at hD ⊢
    have HD := Lib.hid hD
    have C1 := readnum_c (some ⟨q, off, none⟩) 0 [] hnil (by decide)
    rw [show numP [] = (0, 0, 3) from rfl] at C1
    simp only at C1
    have HC1 := Lib.hid C1
    clear C1 hS hcell hD
    go_enter Try.func41, Try.ntmps41
    go_wp2_with fail
    refine (HC1.out _ (hS2.ext (by repeat (first | (with_reducible exact Ext.refl _) | (with_reducible assumption) | (with_reducible refine Ext.alloc ?_ _) | (with_reducible refine Ext.drew ?_) | (with_reducible refine Ext.drewN ?_ _) | (with_reducible refine Ext.setCell ?_ (by simp; try omega) _) | (with_reducible refine Ext.setRow ?_ (by simp; try omega) _))))).mono ?_
    rintro e w1 ⟨rfl, hx1⟩
    have x1 : Ext w w1 := Ext.trans (by repeat (first | (with_reducible exact Ext.refl _) | (with_reducible assumption) | (with_reducible refine Ext.alloc ?_ _) | (with_reducible refine Ext.drew ?_) | (with_reducible refine Ext.drewN ?_ _) | (with_reducible refine Ext.setCell ?_ (by simp; try omega) _) | (with_reducible refine Ext.setRow ?_ (by simp; try omega) _))) hx1
    have hM : At w1 w.heap.size 31 #[.int .i64 0, .int .i64 0, .int .i64 0, .slice none 0 0] := At.ext (by repeat (first | (with_reducible exact At.new _ _ _) | ((with_reducible refine At.new' _ _ _ _ ?_); simp; done) | (with_reducible assumption) | (with_reducible refine At.drew ?_) | (with_reducible refine At.alloc ?_ _) | (with_reducible apply At.upd) | (with_reducible apply At.setRow) | (with_reducible refine At.rowFar ?_ (by first | (simp; done) | (simp; omega) | omega) _) | ((with_reducible refine At.far ?_ (by first | (simp; done) | (simp; omega) | omega) _)) | (with_reducible rfl) | (simp; done))) hx1
    have hB : At w1 (w.heap.size + 1) 31 #[.int .i64 1, .int .i64 0, .int .i64 0, .slice none 0 0] := At.ext (by repeat (first | (with_reducible exact At.new _ _ _) | ((with_reducible refine At.new' _ _ _ _ ?_); simp; done) | (with_reducible assumption) | (with_reducible refine At.drew ?_) | (with_reducible refine At.alloc ?_ _) | (with_reducible apply At.upd) | (with_reducible apply At.setRow) | (with_reducible refine At.rowFar ?_ (by first | (simp; done) | (simp; omega) | omega) _) | ((with_reducible refine At.far ?_ (by first | (simp; done) | (simp; omega) | omega) _)) | (with_reducible rfl) | (simp; done))) hx1
    obtain ⟨sk, hsk⟩ : ∃ sk, sk = w.heap.size + 1 := ⟨_, rfl⟩
    rw [← hsk] at hB ⊢
    have hskl : w.heap.size < sk := by omega
    have hskn : w.heap.size ≠ sk := by omega
    have hskm : sk ≠ w.heap.size := by omega
    clear hsk
    have sM := hM.lt
    have sB := hB.lt
    have eM := cellsAt_at hM
    have eB := cellsAt_at hB
    have zB1 := hB.frozen 1
    have zB2 := hB.frozen 2
    have zB3 := hB.frozen 3
    clear hx1
    go_wp2_with fail
    obtain ⟨w2, hw2⟩ : ∃ W : World, W = w1.alloc (.cells #[.int .u64 0, .int .i64 0, .slice none 0 0, .int .i64 0, .int .i64 3] 67) := ⟨_, rfl⟩
    have xw2 : Ext w w2 := by rw [hw2]; exact x1.alloc _
    have hMw2 : At w2 w.heap.size 31 #[.int .i64 0, .int .i64 0, .int .i64 0, .slice none 0 0] := by rw [hw2]; exact hM.alloc _
    have hBw2 : At w2 sk 31 #[.int .i64 1, .int .i64 0, .int .i64 0, .slice none 0 0] := by rw [hw2]; exact hB.alloc _
    have hPw2 : At w2 w1.heap.size 67 #[.int .u64 0, .int .i64 0, .slice none 0 0, .int .i64 0, .int .i64 3] := by rw [hw2]; exact At.new _ _ _
    rw [← hw2]
    generalize w1.heap.size = gp at *
    clear hw2 hM hB x1 eM eB zB1 zB2 zB3
    have sg := hPw2.lt
    have c4 : w2.cell? ⟨gp, 4, none⟩ = some (.int .i64 3) := hPw2.cell 4
    have sM2 := hMw2.lt
    have eM2 := cellsAt_at hMw2
    refine wp_region_s [0, 0, 0, 1, 0, 0] (fun x => ∀ b ∈ [gp], x.heap[b]? = w2.heap[b]?) (by kernel_rfl) (by kernel_rfl) ?_
    refine hls_same (fun K hK => ?_)
    go_simp
    refine hK _ ?_
    clear hK K
    refine hls_same (fun K hK => ?_)
    go_simp
    refine hK _ ?_
    clear hK K
    refine hls_same (fun K hK => ?_)
    go_simp
    refine hK _ ?_
    clear hK K
    refine hls_skip (by decide) ?_
    refine hls_same (fun K hK => ?_)
    go_simp
    refine hK _ ?_
    clear hK K
    refine hls_same (fun K hK => ?_)
    go_simp
    refine hK _ ?_
    clear hK K
    refine hls_nil ?_
    intro w13 hxw13 K hK
    have hM3 := hMw2.ext hxw13
    have x3 := xw2.trans hxw13
    have same3 : ∀ b ∈ [gp], w13.heap[b]? = w2.heap[b]? := fun b hb => by simp at hb; subst hb; exact hxw13.block _ sg
    have eM3 := cellsAt_at hM3
    have sM3 := hM3.lt
    clear eM2 sM2
    refine ms_pass ?_
    refine ms_pass ?_
    refine ms_pass ?_
    refine ms_do (by decide) (same3) (fun K' hK' => ?_)
    go_wp2_with fail
    obtain ⟨w14, hw14⟩ : ∃ W : World, W = w13.setRow w.heap.size #[.int .i64 0, .int .i64 0, .int .i64 0, .slice none 0 0] := ⟨_, rfl⟩
    have x4 : Ext w w14 := by rw [hw14]; exact x3.setRow (Nat.le_refl _) _
    have hM4 : At w14 w.heap.size 31 #[.int .i64 0, .int .i64 0, .int .i64 0, .slice none 0 0] := by rw [hw14]; exact hM3.setRow _
    have same4 : ∀ b ∈ [gp], w14.heap[b]? = w2.heap[b]? := fun b hb => by have := same3 b hb; rw [hw14]; rw [← this]; simp at hb; subst hb; exact setRow_other _ _ _ _ (by omega)
    rw [← hw14]
    clear hw14 eM3
    refine ms_pass ?_
    refine ms_pass ?_
    refine ms_nil (same4) (hK _ _ ?_)
    have eM4 := cellsAt_at hM4
    have sM4 := hM4.lt
    go_wp2_with fail
    first | refine fin_ret rfl (fun K hK => ?_) | refine fin_norm rfl (fun K hK => ?_)
    simp [results, Try.results41, go_sem, rsat]
    try go_simp
    refine hK _ ?_
    clear hK K
    exact ⟨x4, ⟨0, 0, 0, ⟨none, 0, []⟩⟩, 0, 3, rfl, .inl ⟨by decide, HD.out⟩⟩
  by_cases k4 : b = 4
  · subst k4
    have hD : (stepD [4]).2.2 = 3 := by decide
    generalize stepD [4] = D at hD ⊢
    have HD := Lib.hid hD
    have C1 := readuint_c (some ⟨q, off, none⟩) 0 [] 1 (by decide) hnil (by decide)
    rw [show uintP [] 1 = (0, 0, 3) from rfl] at C1
    simp only at C1
    have HC1 := Lib.hid C1
    clear C1 hS hcell hD
    go_enter Try.func41, Try.ntmps41
    go_wp2_with fail
    refine (HC1.out _ (hS2.ext (by repeat (first | (with_reducible exact Ext.refl _) | (with_reducible assumption) | (with_reducible refine Ext.alloc ?_ _) | (with_reducible refine Ext.drew ?_) | (with_reducible refine Ext.drewN ?_ _) | (with_reducible refine Ext.setCell ?_ (by simp; try omega) _) | (with_reducible refine Ext.setRow ?_ (by simp; try omega) _))))).mono ?_
    rintro e w1 ⟨rfl, hx1⟩
    have x1 : Ext w w1 := Ext.trans (by repeat (first | (with_reducible exact Ext.refl _) | (with_reducible assumption) | (with_reducible refine Ext.alloc ?_ _) | (with_reducible refine Ext.drew ?_) | (with_reducible refine Ext.drewN ?_ _) | (with_reducible refine Ext.setCell ?_ (by simp; try omega) _) | (with_reducible refine Ext.setRow ?_ (by simp; try omega) _))) hx1
    have hM : At w1 w.heap.size 31 #[.int .i64 0, .int .i64 0, .int .i64 0, .slice none 0 0] := At.ext (by repeat (first | (with_reducible exact At.new _ _ _) | ((with_reducible refine At.new' _ _ _ _ ?_); simp; done) | (with_reducible assumption) | (with_reducible refine At.drew ?_) | (with_reducible refine At.alloc ?_ _) | (with_reducible apply At.upd) | (with_reducible apply At.setRow) | (with_reducible refine At.rowFar ?_ (by first | (simp; done) | (simp; omega) | omega) _) | ((with_reducible refine At.far ?_ (by first | (simp; done) | (simp; omega) | omega) _)) | (with_reducible rfl) | (simp; done))) hx1
    have hB : At w1 (w.heap.size + 1) 31 #[.int .i64 4, .int .i64 0, .int .i64 0, .slice none 0 0] := At.ext (by repeat (first | (with_reducible exact At.new _ _ _) | ((with_reducible refine At.new' _ _ _ _ ?_); simp; done) | (with_reducible assumption) | (with_reducible refine At.drew ?_) | (with_reducible refine At.alloc ?_ _) | (with_reducible apply At.upd) | (with_reducible apply At.setRow) | (with_reducible refine At.rowFar ?_ (by first | (simp; done) | (simp; omega) | omega) _) | ((with_reducible refine At.far ?_ (by first | (simp; done) | (simp; omega) | omega) _)) | (with_reducible rfl) | (simp; done))) hx1
    obtain ⟨sk, hsk⟩ : ∃ sk, sk = w.heap.size + 1 := ⟨_, rfl⟩
    rw [← hsk] at hB ⊢
    have hskl : w.heap.size < sk := by omega
    have hskn : w.heap.size ≠ sk := by omega
    have hskm : sk ≠ w.heap.size := by omega
    clear hsk
    have sM := hM.lt
    have sB := hB.lt
    have eM := cellsAt_at hM
    have eB := cellsAt_at hB
    have zB1 := hB.frozen 1
    have zB2 := hB.frozen 2
    have zB3 := hB.frozen 3
    clear hx1
    go_wp2_with fail
    obtain ⟨w2, hw2⟩ : ∃ W : World, W = w1.alloc (.cells #[.int .u64 0, .int .i64 0, .slice none 0 0, .int .i64 0, .int .i64 3] 67) := ⟨_, rfl⟩
    have xw2 : Ext w w2 := by rw [hw2]; exact x1.alloc _
    have hMw2 : At w2 w.heap.size 31 #[.int .i64 0, .int .i64 0, .int .i64 0, .slice none 0 0] := by rw [hw2]; exact hM.alloc _
    have hBw2 : At w2 sk 31 #[.int .i64 4, .int .i64 0, .int .i64 0, .slice none 0 0] := by rw [hw2]; exact hB.alloc _
    have hPw2 : At w2 w1.heap.size 67 #[.int .u64 0, .int .i64 0, .slice none 0 0, .int .i64 0, .int .i64 3] := by rw [hw2]; exact At.new _ _ _
    rw [← hw2]
    generalize w1.heap.size = gp at *
    clear hw2 hM hB x1 eM eB zB1 zB2 zB3
    have sg := hPw2.lt
    have c4 : w2.cell? ⟨gp, 4, none⟩ = some (.int .i64 3) := hPw2.cell 4
    have sM2 := hMw2.lt
    have eM2 := cellsAt_at hMw2
    refine wp_region_s [0, 0, 0, 1, 0, 0] (fun x => ∀ b ∈ [gp], x.heap[b]? = w2.heap[b]?) (by kernel_rfl) (by kernel_rfl) ?_
    refine hls_same (fun K hK => ?_)
    go_simp
    refine hK _ ?_
    clear hK K
    refine hls_same (fun K hK => ?_)
    go_simp
    refine hK _ ?_
    clear hK K
    refine hls_same (fun K hK => ?_)
    go_simp
    refine hK _ ?_
    clear hK K
    refine hls_skip (by decide) ?_
    refine hls_same (fun K hK => ?_)
    go_simp
    refine hK _ ?_
    clear hK K
    refine hls_same (fun K hK => ?_)
    go_simp
    refine hK _ ?_
    clear hK K
    refine hls_nil ?_
    intro w13 hxw13 K hK
    have hM3 := hMw2.ext hxw13
    have x3 := xw2.trans hxw13
    have same3 : ∀ b ∈ [gp], w13.heap[b]? = w2.heap[b]? := fun b hb => by simp at hb; subst hb; exact hxw13.block _ sg
    have eM3 := cellsAt_at hM3
    have sM3 := hM3.lt
    clear eM2 sM2
    refine ms_pass ?_
    refine ms_pass ?_
    refine ms_pass ?_
    refine ms_do (by decide) (same3) (fun K' hK' => ?_)
    go_wp2_with fail
    obtain ⟨w14, hw14⟩ : ∃ W : World, W = w13.setRow w.heap.size #[.int .i64 0, .int .i64 0, .int .i64 0, .slice none 0 0] := ⟨_, rfl⟩
    have x4 : Ext w w14 := by rw [hw14]; exact x3.setRow (Nat.le_refl _) _
    have hM4 : At w14 w.heap.size 31 #[.int .i64 0, .int .i64 0, .int .i64 0, .slice none 0 0] := by rw [hw14]; exact hM3.setRow _
    have same4 : ∀ b ∈ [gp], w14.heap[b]? = w2.heap[b]? := fun b hb => by have := same3 b hb; rw [hw14]; rw [← this]; simp at hb; subst hb; exact setRow_other _ _ _ _ (by omega)
    rw [← hw14]
    clear hw14 eM3
    refine ms_pass ?_
    refine ms_pass ?_
    refine ms_nil (same4) (hK _ _ ?_)
    have eM4 := cellsAt_at hM4
    have sM4 := hM4.lt
    go_wp2_with fail
    first | refine fin_ret rfl (fun K hK => ?_) | refine fin_norm rfl (fun K hK => ?_)
    simp [results, Try.results41, go_sem, rsat]
    try go_simp
    refine hK _ ?_
    clear hK K
    exact ⟨x4, ⟨0, 0, 0, ⟨none, 0, []⟩⟩, 0, 3, rfl, .inl ⟨by decide, HD.out⟩⟩
  have p1 : (b == 1) = false := beq_eq_false_iff_ne.2 k1
  have p4 : (b == 4) = false := beq_eq_false_iff_ne.2 k4
  by_cases k23 : b = 2 ∨ b = 3
  · have hD : (stepD [b]).2.2 = 3 := by rcases k23 with rfl | rfl <;> decide
    generalize stepD [b] = D at hD ⊢
    have HD := Lib.hid hD
    obtain ⟨X, hX⟩ : ∃ X : Int, X = 0 := ⟨_, rfl⟩
    obtain ⟨z, hz⟩ : ∃ z : Nat, z = 0 := ⟨_, rfl⟩
    obtain ⟨f2, hf2⟩ : ∃ f2 : Int, f2 = 3 := ⟨_, rfl⟩
    have C1 := readint_c (some ⟨q, off, none⟩) 0 [] hnil (by decide)
    rw [show backN (uintP [] 8).1 = X by rw [hX]; rfl, show (uintP [] 8).2 = ((z : Int), f2) by rw [hz, hf2]; rfl] at C1
    simp only at C1
    have HC1 := Lib.hid C1
    have HF2 := Lib.hid hf2
    have hzs : z ≤ 8 := by omega
    have p23 : ((b == 2) = true ∧ (b == 3) = false) ∨ ((b == 2) = false ∧ (b == 3) = true) := by rcases k23 with rfl | rfl; exact .inl ⟨rfl, rfl⟩; exact .inr ⟨rfl, rfl⟩
    clear C1 hS hcell hD hX hz hf2 k23 k1 k4
    rcases p23 with ⟨p2, p3⟩ | ⟨p2, p3⟩
    all_goals
      go_enter Try.func41, Try.ntmps41
      go_wp2_with fail
      refine (HC1.out _ (hS2.ext (by repeat (first | (with_reducible exact Ext.refl _) | (with_reducible assumption) | (with_reducible refine Ext.alloc ?_ _) | (with_reducible refine Ext.drew ?_) | (with_reducible refine Ext.drewN ?_ _) | (with_reducible refine Ext.setCell ?_ (by simp; try omega) _) | (with_reducible refine Ext.setRow ?_ (by simp; try omega) _))))).mono ?_
      rintro e w1 ⟨rfl, hx1⟩
      have x1 : Ext w w1 := Ext.trans (by repeat (first | (with_reducible exact Ext.refl _) | (with_reducible assumption) | (with_reducible refine Ext.alloc ?_ _) | (with_reducible refine Ext.drew ?_) | (with_reducible refine Ext.drewN ?_ _) | (with_reducible refine Ext.setCell ?_ (by simp; try omega) _) | (with_reducible refine Ext.setRow ?_ (by simp; try omega) _))) hx1
      have hM : At w1 w.heap.size 31 #[.int .i64 0, .int .i64 0, .int .i64 0, .slice none 0 0] := At.ext (by repeat (first | (with_reducible exact At.new _ _ _) | ((with_reducible refine At.new' _ _ _ _ ?_); simp; done) | (with_reducible assumption) | (with_reducible refine At.drew ?_) | (with_reducible refine At.alloc ?_ _) | (with_reducible apply At.upd) | (with_reducible apply At.setRow) | (with_reducible refine At.rowFar ?_ (by first | (simp; done) | (simp; omega) | omega) _) | ((with_reducible refine At.far ?_ (by first | (simp; done) | (simp; omega) | omega) _)) | (with_reducible rfl) | (simp; done))) hx1
      have hB : At w1 (w.heap.size + 1) 31 #[.int .i64 b, .int .i64 0, .int .i64 0, .slice none 0 0] := At.ext (by repeat (first | (with_reducible exact At.new _ _ _) | ((with_reducible refine At.new' _ _ _ _ ?_); simp; done) | (with_reducible assumption) | (with_reducible refine At.drew ?_) | (with_reducible refine At.alloc ?_ _) | (with_reducible apply At.upd) | (with_reducible apply At.setRow) | (with_reducible refine At.rowFar ?_ (by first | (simp; done) | (simp; omega) | omega) _) | ((with_reducible refine At.far ?_ (by first | (simp; done) | (simp; omega) | omega) _)) | (with_reducible rfl) | (simp; done))) hx1
      obtain ⟨sk, hsk⟩ : ∃ sk, sk = w.heap.size + 1 := ⟨_, rfl⟩
      rw [← hsk] at hB ⊢
      have hskl : w.heap.size < sk := by omega
      have hskn : w.heap.size ≠ sk := by omega
      have hskm : sk ≠ w.heap.size := by omega
      clear hsk
      have sM := hM.lt
      have sB := hB.lt
      have eM := cellsAt_at hM
      have eB := cellsAt_at hB
      have zB1 := hB.frozen 1
      have zB2 := hB.frozen 2
      have zB3 := hB.frozen 3
      clear hx1
      go_wp2_with fail
      obtain ⟨w6, hw6⟩ : ∃ W : World, W = (w1.setCell ⟨sk, 2, none⟩ (.int .i64 X)).alloc (.cells #[.int .u64 0, .int .i64 X, .slice none 0 0, .int .i64 (z : Int), .int .i64 f2] 67) := ⟨_, rfl⟩
      have x6 : Ext w w6 := by rw [hw6]; exact (x1.setCell (by simp only; omega) _).alloc _
      have hM6 : At w6 w.heap.size 31 #[.int .i64 0, .int .i64 0, .int .i64 0, .slice none 0 0] := by rw [hw6]; exact (hM.far hskn _).alloc _
      have hB6 : At w6 sk 31 #[.int .i64 b, .int .i64 0, .int .i64 X, .slice none 0 0] := by rw [hw6]; exact (hB.set 2 _).alloc _
      have hP6 : At w6 w1.heap.size 67 #[.int .u64 0, .int .i64 X, .slice none 0 0, .int .i64 (z : Int), .int .i64 f2] := by rw [hw6]; exact At.new' _ _ _ _ (by simp)
      rw [← hw6]
      generalize w1.heap.size = gp at *
      clear hw6 hM hB x1 eM eB
      have sg := hP6.lt
      have sB6 := hB6.lt
      have sM6 := hM6.lt
      have eB6 := cellsAt_at hB6
      have eM6 := cellsAt_at hM6
      have cS : w6.cell? ⟨gp, 3, none⟩ = some (.int .i64 (z : Int)) := hP6.cell 3
      have cF : w6.cell? ⟨gp, 4, none⟩ = some (.int .i64 f2) := hP6.cell 4
      refine wp_region_s [0, 0, 0, 0, 0, 0, 0, 1, 0, 0] (fun x => ∀ b ∈ [sk, gp], x.heap[b]? = w6.heap[b]?) (by kernel_rfl) (by kernel_rfl) ?_
      refine hls_same (fun K hK => ?_)
      go_simp
      refine hK _ ?_
      clear hK K
      refine hls_same (fun K hK => ?_)
      go_simp
      refine hK _ ?_
      clear hK K
      refine hls_same (fun K hK => ?_)
      go_simp
      refine hK _ ?_
      clear hK K
      refine hls_same (fun K hK => ?_)
      go_simp
      refine hK _ ?_
      clear hK K
      refine hls_same (fun K hK => ?_)
      go_simp
      refine hK _ ?_
      clear hK K
      refine hls_same (fun K hK => ?_)
      go_simp
      refine hK _ ?_
      clear hK K
      refine hls_same (fun K hK => ?_)
      go_simp
      refine hK _ ?_
      clear hK K
      refine hls_skip (by decide) ?_
      refine hls_same (fun K hK => ?_)
      go_simp
      refine hK _ ?_
      clear hK K
      refine hls_same (fun K hK => ?_)
      go_simp
      refine hK _ ?_
      clear hK K
      refine hls_nil ?_
      intro w13 hxw13 K hK
      have hM3 := hM6.ext hxw13
      have hB3 := hB6.ext hxw13
      have x3 := x6.trans hxw13
      have same3 : ∀ b ∈ [sk, gp], w13.heap[b]? = w6.heap[b]? := fun b hb => by
        simp at hb
        rcases hb with rfl | rfl
        · exact hxw13.block _ sB6
        · exact hxw13.block _ sg
      have eM3 := cellsAt_at hM3
      have sM3 := hM3.lt
      clear eM6 sM6
      refine ms_pass ?_
      refine ms_pass ?_
      refine ms_pass ?_
      refine ms_pass ?_
      refine ms_pass ?_
      refine ms_pass ?_
      refine ms_pass ?_
      refine ms_do (by decide) (same3) (fun K' hK' => ?_)
      go_wp2_with fail
      obtain ⟨w14, hw14⟩ : ∃ W : World, W = w13.setRow w.heap.size #[.int .i64 b, .int .i64 0, .int .i64 X, .slice none 0 0] := ⟨_, rfl⟩
      have x4 : Ext w w14 := by rw [hw14]; exact x3.setRow (Nat.le_refl _) _
      have hM4 : At w14 w.heap.size 31 #[.int .i64 b, .int .i64 0, .int .i64 X, .slice none 0 0] := by rw [hw14]; exact hM3.setRow _
      have same4 : ∀ b ∈ [sk, gp], w14.heap[b]? = w6.heap[b]? := fun b hb => by
        have := same3 b hb
        rw [hw14, ← this]
        simp at hb
        rcases hb with rfl | rfl
        · exact setRow_other _ _ _ _ (by omega)
        · exact setRow_other _ _ _ _ (by omega)
      rw [← hw14]
      clear hw14 eM3
      refine ms_pass ?_
      refine ms_pass ?_
      refine ms_nil (same4) (hK _ _ ?_)
      have eM4 := cellsAt_at hM4
      have sM4 := hM4.lt
      go_wp2_with fail
      first | refine fin_ret rfl (fun K hK => ?_) | refine fin_norm rfl (fun K hK => ?_)
      simp [results, Try.results41, go_sem, rsat]
      try go_simp
      refine hK _ ?_
      clear hK K
      exact ⟨x4, ⟨b, 0, X, ⟨none, 0, []⟩⟩, 1 + z, f2, by simp [Sp.cells, Bs.v] <;> rw [IntWalk.i64_left, wrap64_in ⟨by omega, by omega⟩], .inl ⟨by rw [HF2.out]; decide, by rw [HD.out, HF2.out]⟩⟩
  · have hD : (stepD [b]).2.2 = 4 := by
      unfold stepD
      simp only
      rw [if_neg k1, if_neg k4, if_neg k23]
    generalize stepD [b] = D at hD ⊢
    have HD := Lib.hid hD
    have p2 : (b == 2) = false := beq_eq_false_iff_ne.2 (fun h => k23 (.inl h))
    have p3 : (b == 3) = false := beq_eq_false_iff_ne.2 (fun h => k23 (.inr h))
    clear hS hcell hS2 hD k1 k4 k23
    go_enter Try.func41, Try.ntmps41
    go_wp2_with fail
    first | refine fin_ret rfl (fun K hK => ?_) | refine fin_norm rfl (fun K hK => ?_)
    simp [results, Try.results41, go_sem, rsat]
    try go_simp
    refine hK _ ?_
    clear hK K
    exact ⟨(by repeat (first | (with_reducible exact Ext.refl _) | (with_reducible assumption) | (with_reducible refine Ext.alloc ?_ _) | (with_reducible refine Ext.drew ?_) | (with_reducible refine Ext.drewN ?_ _) | (with_reducible refine Ext.setCell ?_ (by simp; try omega) _) | (with_reducible refine Ext.setRow ?_ (by simp; try omega) _))), ⟨0, 0, 0, ⟨none, 0, []⟩⟩, 0, 4, rfl, .inl ⟨by decide, HD.out⟩⟩
theorem onen_c (A : Option Addr) (c : Nat) (w : World) : Calls Try.prog 41 #[.slice A 0 c] w fun e w' => OneOf [] A w e w' := by
  unfold OneOf
  have hD : stepD [] = ((0, 0, 0, []), [], 3) := rfl
  rw [hD]
  go_enter Try.func41, Try.ntmps41
  go_wp2_with fail
  first | refine fin_ret rfl (fun K hK => ?_) | refine fin_norm rfl (fun K hK => ?_)
  simp [results, Try.results41, go_sem, rsat]
  try go_simp
  refine hK _ ?_
  clear hK K
  exact ⟨(by repeat (first | (with_reducible exact Ext.refl _) | (with_reducible assumption) | (with_reducible refine Ext.alloc ?_ _) | (with_reducible refine Ext.drew ?_) | (with_reducible refine Ext.drewN ?_ _) | (with_reducible refine Ext.setCell ?_ (by simp; try omega) _) | (with_reducible refine Ext.setRow ?_ (by simp; try omega) _))), ⟨0, 0, 0, ⟨none, 0, []⟩⟩, 0, 3, rfl, .inl ⟨by decide, rfl⟩⟩
theorem one_c (A : Option Addr) (c : Nat) (bs : List Int) (hb : Byt bs) (hl : bs.length ≤ 1000000000) (hc : bs.length ≤ c) (hm : c ≤ maxLen) (w : World) (hS : Src w 1 A bs.length (bc bs)) : Calls Try.prog 41 #[.slice A bs.length c] w fun e w' => OneOf bs A w e w' := by
  cases bs with
  | nil => exact onen_c A c w
  | cons b s =>
    by_cases hc1 : c - 1 = 0
    · have h1 : c = 1 := by simp at hc; omega
      have h2 : s = [] := List.eq_nil_of_length_eq_zero (by simp at hc; omega)
      subst h1 h2
      exact onet_c A b hb w hS
    · by_cases k1 : b = 1
      · subst k1; exact one1_c A c s hb hl hc hm hc1 w hS
      by_cases k4 : b = 4
      · subst k4; exact one4_c A c s hb hl hc hm hc1 w hS
      by_cases k23 : b = 2 ∨ b = 3
      · exact one23_c A c b s hb hl hc hm hc1 k23 w hS
      · exact onex_c A c b s hb hl hc hm hc1 k1 k4 k23 w hS
end Go.Proofs.Ythfomohophmbaaa
/- Steps (layer 29): Read, by the document. Condition: at most 10^9 bytes. -/
namespace Go.Proofs.Ythfomohophmbaaa
open Go.RowKit
attribute [local go_sem] Later.cell QUpon_value QUpon_enter MUpon_value run_eql_slice_nil Same.cell Same.cells
attribute [local go_sem ↓ high] loadStp_is storeStp_is loadPrt_is storePrt_is
attribute [local go_sem] run_loadStp run_loadStp_at run_storeStp run_loadPrt run_loadPrt_at run_storePrt one_int one_bool one_slice one_ptr one_str setRow_new setRow_past cell_ca frozen_ca cellsAt_alloc_at cellsAt_alloc_past cellsAt_drew cellsAt_later cellsAt_setCell cellsAt_set_same cellsAt_setRow_same cellsAt_setRow_far subAt_alloc subAt_drew subAt_later subAt_setCell subAt_setRow ltn_2 ltn_3 ltn_4 ltn_5
/-- Amid Read. -/
structure RrAt (w wr : World) (gp : Nat) (n : Nat) (z : Int) (BA : Option Addr) (c2 : Nat) (rs : List Int) (B : Option Addr) (d : Nat) (l : List Sp) : Prop where
  ext : Ext w wr
  out : OwnS w wr B d l
  src : ∀ W, Ext w W → Src W 1 BA rs.length (bc rs)
  le : rs.length ≤ c2
  max : c2 ≤ maxLen
  byt : Byt rs
  part : At wr gp 67 #[.int .u64 (n : Int), .int .i64 0, .slice none 0 0, .int .i64 z, .int .i64 0]
  gw : w.heap.size ≤ gp
  up : ∀ k ∈ ablk B, gp < k
theorem RrAt.extR {w wr w3 : World} {gp n c2 d : Nat} {z : Int} {BA B : Option Addr} {rs : List Int} {l : List Sp} (h : RrAt w wr gp n z BA c2 rs B d l) (hx : Ext wr w3) : RrAt w w3 gp n z BA c2 rs B d l :=
  ⟨h.ext.trans hx, h.out.ext hx, h.src, h.le, h.max, h.byt, h.part.ext hx, h.gw, h.up⟩
theorem RrAt.app {w wr w5 : World} {gp n c2 d d5 : Nat} {z : Int} {BA B B5 : Option Addr} {rs : List Int} {l : List Sp} {p : Sp} (h : RrAt w wr gp n z BA c2 rs B d l) (hp : p.Ok wr) (hpr : ∀ k ∈ ablk p.raw.A, k < w.heap.size) (hC : Chg wr w5 (ablk B)) (hR : Row w5 31 4 B5 (l.length + 1) d5 (l.flatMap Sp.cells ++ p.cells)) (hn : ∀ k ∈ ablk B5, k ∈ ablk B ∨ (wr.heap.size ≤ k ∧ k < w5.heap.size)) : RrAt w w5 gp n z BA c2 rs B5 d5 (l ++ [p]) := by
  have h1 := h.ext.size
  have h2 := h.part.lt
  refine ⟨hC.extOf9 h.ext (fun i hi => (h.out.new i hi).1), h.out.add hp (fun k hk => ⟨by have := hpr k hk; omega, fun h3 => by have := hpr k hk; have := (h.out.new k h3).1; omega⟩) hC hR hn h1, h.src, h.le, h.max, h.byt, hC.at h.part (fun h3 => absurd (h.up _ h3) (Nat.lt_irrefl _)), h.gw, fun k hk => ?_⟩
  rcases hn k hk with h3 | h3
  · exact h.up k h3
  · omega
set_option maxHeartbeats 4000000 in
set_option maxRecDepth 100000 in
theorem rsread_c (A : Option Addr) (c : Nat) (bs : List Int) (hb : Byt bs) (hl : bs.length ≤ 1000000000) (hc : bs.length ≤ c) (hm : c ≤ maxLen) (w : World) (hS : Src w 1 A bs.length (bc bs)) : Calls Try.prog 21 #[.slice A bs.length c] w fun e w' => ReadIs bs w e w' := by
  unfold ReadIs
  obtain ⟨n, r, fn, en⟩ : ∃ v r f, numR bs 0 = (v, r, f) := ⟨_, _, _, rfl⟩
  have hD : readS bs = (if fn ≠ 0 then ([], fn) else if 2000 < n then ([], 4) else readN n r []) := by unfold readS; rw [en]
  have hrl := numR_rest en
  obtain ⟨hrb, _⟩ := numR_byt hb hl en
  have hrd := numR_read (f0 := 0) en rfl
  have hpos : fn = 0 → 0 < bs.length := fun h => by
    cases bs with
    | nil => have e : numR [] 0 = (0, [], 3) := rfl
             rw [e] at en; injection en with _ en; injection en with _ en; omega
    | cons x s => simp
  have C1 := readnum_c A c bs hb hl w hS
  have hm' := hm
  unfold maxLen at hm'
  generalize readS bs = R at hD ⊢
  have HR := Lib.hid hD
  clear hD en
  by_cases hf : fn = 0
  · subst hf
    obtain ⟨q, off, hA, hqw, _⟩ := hS.lt (hpos rfl) (by decide)
    subst hA
    have hn := (hrd.1 rfl).1
    obtain ⟨z, hz2⟩ : ∃ z, z = bs.length - r.length := ⟨_, rfl⟩
    have hrz := (hrd.1 rfl).2.2
    rw [← hz2] at hn hrz
    rw [hn] at C1
    simp only at C1
    have HC1 := Lib.hid C1
    have hrl2 : r.length = bs.length - z := by rw [hrz, List.length_drop]
    have hzl : z ≤ bs.length := by omega
    have HSR : ∀ B, (z < bs.length → B = some ⟨q, off + z, none⟩) → ∀ W, Ext w W → Src W 1 B r.length (bc r) := fun B hB W hx => by
      have := (hS.ext hx).drop5 hzl B (fun h => by rw [hB h]; simp [Addr.add_lit])
      rw [← hrz] at this
      rw [hrl2]; exact this
    have HRL := Lib.hid hrl2
    have HS := Lib.hid HSR
    clear hn hrd C1 hz2 hrz hrl hrl2 HSR
    by_cases h2000 : 2000 < n
    · have hni : (2000 : Int) < (n : Int) := by omega
      have H2 := Lib.hid h2000
      clear h2000 hS
      go_enter Try.func21, Try.ntmps21
      go_wp2_with fail
      refine HC1.out.mono ?_
      rintro e w1 ⟨rfl, hx1⟩
      go_wp2_with fail
      first | refine fin_ret rfl (fun K hK => ?_) | refine fin_norm rfl (fun K hK => ?_)
      simp [results, Try.results21, go_sem, rsat]
      try go_simp
      refine hK _ ?_
      clear hK K
      refine ⟨(by repeat (first | (with_reducible exact Ext.refl _) | (with_reducible assumption) | (with_reducible refine Ext.alloc ?_ _) | (with_reducible refine Ext.drew ?_) | (with_reducible refine Ext.drewN ?_ _) | (with_reducible refine Ext.setCell ?_ (by simp; try omega) _) | (with_reducible refine Ext.setRow ?_ (by simp; try omega) _))), ⟨none, 0, []⟩, 4, rfl, Sts.none_at _, ?_⟩
      rw [HR.out, if_neg (by simp), if_pos H2.out]
      rfl
    · have hni : ¬ (2000 : Int) < (n : Int) := by omega
      have H2 := Lib.hid h2000
      have hn2 : n ≤ 2000 := by omega
      clear h2000 hpos
      go_enter Try.func21, Try.ntmps21
      go_wp2_with fail
      refine HC1.out.mono ?_
      rintro e w1 ⟨rfl, hx1⟩
      go_wp2_with fail
      all_goals
        obtain ⟨w2, hw2⟩ : ∃ W : World, W = w1.alloc (.cells #[.int .u64 (n : Int), .int .i64 0, .slice none 0 0, .int .i64 (z : Int), .int .i64 0] 67) := ⟨_, rfl⟩
        have x2 : Ext w w2 := by rw [hw2]; exact hx1.alloc _
        have P2 : At w2 w1.heap.size 67 #[.int .u64 (n : Int), .int .i64 0, .slice none 0 0, .int .i64 (z : Int), .int .i64 0] := by rw [hw2]; exact At.new _ _ _
        have gw := hx1.size
        rw [← hw2]
        clear hw2 hx1
        generalize w1.heap.size = gp at *
        have hrn0 : readN n r [] = readN (n - 0) r (([] : List Sp).map Sp.key) := rfl
        have HN0 := Lib.hid hrn0
        clear hrn0
        go_loopw [0, 5, 6] (fun b o i wr => ∃ (k : Nat) (BA : Option Addr) (c2 : Nat) (rs : List Int) (B : Option Addr) (d : Nat) (l : List Sp), i = .int .u64 k ∧ k ≤ n ∧ b = .slice BA rs.length c2 ∧ o = .slice B l.length d ∧ RrAt w wr gp n (z : Int) BA c2 rs B d l ∧ l.length ≤ n ∧ Hid (l.length = k) ∧ rs.length ≤ 1000000000 ∧ Hid (readN n r [] = readN (n - k) rs (l.map Sp.key))) (fun _ _ i _ => n - (intOf i).toNat)
        case atStart =>
          refine ⟨0, _, _, r, none, 0, [], rfl, by omega, by rw [HRL.out], rfl, ⟨x2, OwnS.nil _ _, HS.out _ (fun h => ?_), ?_, ?_, hrb, P2, gw, by simp [ablk]⟩, by simp, Lib.hid rfl, by have := HRL.out; omega, HN0⟩
          · first | rfl | (exfalso; omega)
          · have := HRL.out; omega
          · unfold maxLen; omega
        case round =>
          clear P2 x2
          obtain ⟨k, BA, c2, rs, B, d, l, rfl, hk, rfl, rfl, H, hln, HLK, hrs, HN⟩ := hrel
          have c0 : wr.cell? ⟨gp, 0, none⟩ = some (.int .u64 (n : Int)) := H.part.cell 0
          have sp := H.part.lt
          have hle2 := H.le
          have hmx2 := H.max
          unfold maxLen at hmx2
          by_cases hlt : k < n
          · have hrn := readN_succ hlt rs (l.map Sp.key)
            have C := one_c BA c2 rs H.byt hrs H.le H.max wr (H.src wr H.ext)
            unfold OneOf at C
            have hinv : ∀ ky r', stepD rs = (ky, r', 0) → 0 < rs.length := fun ky r' h => by
              cases rs with
              | nil => have e : stepD [] = ((0, 0, 0, []), [], 3) := rfl
                       rw [e] at h; injection h with _ h; injection h with _ h; cases h
              | cons x s => simp
            generalize stepD rs = D at C hrn hinv
            have HRN := Lib.hid hrn
            have hlt2 : (k : Int) < (n : Int) := by omega
            clear hrn
            go_wp2_with fail
            refine C.mono ?_
            rintro e w3 ⟨hx3, p, size, f, rfl, hor⟩
            obtain ⟨kd, sy, nn, ⟨RA, Rc, rx⟩⟩ := p
            have H3 := H.extR hx3
            simp only [Sp.cells, Bs.v]
            clear C c0 sp
            rcases hor with ⟨hf3, hd⟩ | ⟨rfl, hd, hsz, pok, praw⟩
            · have hfb : (f != 0) = true := bne_iff_ne.2 hf3
              have HD := Lib.hid hd
              have HF := Lib.hid hf3
              clear hd hf3
              go_wp2_with fail
              first | refine fin_ret rfl (fun K hK => ?_) | refine fin_norm rfl (fun K hK => ?_)
              simp [results, Try.results21, go_sem, rsat]
              try go_simp
              refine hK _ ?_
              clear hK K
              refine ⟨H3.ext.alloc _, ⟨none, 0, []⟩, f, rfl, Sts.none_at _, ?_⟩
              rw [HR.out, if_neg (by simp), if_neg H2.out, HN.out, HRN.out, HD.out, if_pos HF.out]
              rfl
            · have hrp := hinv _ _ hd
              have HD := Lib.hid hd
              obtain ⟨q2, o2, hBA, hq2, _⟩ := (H.src w (Ext.refl w)).lt hrp (by decide)
              subst hBA
              have x34 := (Ext.refl w3).alloc (.cells #[.int .i64 kd, .int .i64 sy, .int .i64 nn, .slice RA rx.length Rc] 31)
              have H4 := (H3.extR x34).extR ((Ext.refl _).alloc (.cells #[.int .i64 kd, .int .i64 sy, .int .i64 nn, .slice RA rx.length Rc] 31))
              have pok4 := (pok.ext x34).ext ((Ext.refl _).alloc (.cells #[.int .i64 kd, .int .i64 sy, .int .i64 nn, .slice RA rx.length Rc] 31))
              have hR4 := H4.out.row
              have praw4 : ∀ k ∈ ablk RA, k < w.heap.size := fun k hk => by
                have := praw k hk
                simp [ablk] at this
                omega
              clear hd hinv
              go_wp2_with (at_builtin; refine wpList_rowcat rfl _ _ 22 31 4 48 (.agg #[.int .i64 0, .int .i64 0, .int .i64 0, .slice none 0 0]) rfl Try.underlying22 stpInfo rfl (by decide) _ B l.length d (l.flatMap Sp.cells) rfl hR4 _ 1 1 [.int .i64 kd, .int .i64 sy, .int .i64 nn, .slice RA rx.length Rc] rfl (Src.at (At.new' _ _ _ _ (by simp)) rfl) rfl (by unfold maxLen; omega) (by omega) ?_)
              intro B5 d5 w5 R5 C5 f5
              have H5 := H4.app (p := ⟨kd, sy, nn, ⟨RA, Rc, rx⟩⟩) pok4 praw4 C5 R5 (by rw [World.size_alloc, World.size_alloc]; exact f5)
              have hsl : (rs.drop size).length = rs.length - size := List.length_drop
              have HSL := Lib.hid hsl
              clear H4 H3 C5 R5 f5 hR4 hsl
              go_wp2_with fail
              all_goals first | (exfalso; omega) | skip
              all_goals
                go_roundw
                case rel =>
                  refine ⟨k + 1, _, _, rs.drop size, B5, d5, l ++ [⟨kd, sy, nn, ⟨RA, Rc, rx⟩⟩], by go_num, by omega, by rw [HSL.out], by simp, ⟨H5.ext, H5.out, fun W hx => ?_, ?_, ?_, fun x hx => H5.byt x (List.mem_of_mem_drop hx), H5.part, H5.gw, H5.up⟩, by have := HLK.out; simp; omega, Lib.hid (by have := HLK.out; simp; omega), by have := HSL.out; omega, Lib.hid (by rw [HN.out, HRN.out, HD.out, if_neg (by simp), List.map_append]; rfl)⟩
                  · rw [HSL.out]
                    exact (H5.src W hx).drop5 hsz _ (fun h => by first | rfl | (rw [if_neg (by omega)]; first | rfl | (simp [Addr.add_lit]; done)))
                  · have := HSL.out; omega
                  · unfold maxLen; omega
                case measure => simp [intOf]; omega
          · obtain rfl : k = n := by omega
            have hx0 := H.out.at_
            by_cases hr0 : rs = []
            · subst hr0
              go_wp2_with fail
              first | refine fin_ret rfl (fun K hK => ?_) | refine fin_norm rfl (fun K hK => ?_)
              simp [results, Try.results21, go_sem, rsat]
              try go_simp
              refine hK _ ?_
              clear hK K
              refine ⟨H.ext, ⟨B, d, l⟩, 0, rfl, hx0, ?_⟩
              rw [HR.out, if_neg (by simp), if_neg H2.out, HN.out, Nat.sub_self]
              exact (if_pos rfl).symm
            · have hrl3 : 0 < (rs.length : Int) := by have := List.length_pos_iff.2 hr0; omega
              have HR0 := Lib.hid hr0
              clear hr0
              go_wp2_with fail
              first | refine fin_ret rfl (fun K hK => ?_) | refine fin_norm rfl (fun K hK => ?_)
              simp [results, Try.results21, go_sem, rsat]
              try go_simp
              refine hK _ ?_
              clear hK K
              refine ⟨H.ext, ⟨none, 0, []⟩, 4, rfl, Sts.none_at _, ?_⟩
              rw [HR.out, if_neg (by simp), if_neg H2.out, HN.out, Nat.sub_self]
              exact (if_neg HR0.out).symm
  · have hn := hrd.2 hf
    rw [hn] at C1
    simp only at C1
    have HC1 := Lib.hid C1
    have hfb : (fn != 0) = true := bne_iff_ne.2 hf
    have HF := Lib.hid hf
    clear hn hrd C1 hf hS
    go_enter Try.func21, Try.ntmps21
    go_wp2_with fail
    refine HC1.out.mono ?_
    rintro e w1 ⟨rfl, hx1⟩
    go_wp2_with fail
    obtain ⟨w2, hw2⟩ : ∃ W : World, W = w1.alloc (.cells #[.int .u64 0, .int .i64 0, .slice none 0 0, .int .i64 0, .int .i64 fn] 67) := ⟨_, rfl⟩
    have x2 : Ext w w2 := by rw [hw2]; exact hx1.alloc _
    have c4 : w2.cell? ⟨w1.heap.size, 4, none⟩ = some (.int .i64 fn) := by rw [hw2]; exact (At.new w1 67 _).cell 4
    have s4 : w1.heap.size < w2.heap.size := by rw [hw2]; simp
    rw [← hw2]
    clear hw2
    generalize w1.heap.size = gp at *
    refine wp_region_x 4 [0, 1, 0, 0] (by kernel_rfl) (by kernel_rfl) (by kernel_rfl) ?_
    simp only [List.take_succ_cons, List.take_zero, List.drop_succ_cons, List.drop_zero]
    refine hl_pure (fun K hK => ?_)
    go_simp
    refine hK _ ?_
    clear hK K
    refine hl_quiet (fun K hK => ?_)
    go_simp
    refine hK _ ?_
    clear hK K
    refine hl_pure (fun K hK => ?_)
    go_simp
    refine hK _ ?_
    clear hK K
    refine hl_pure (fun K hK => ?_)
    go_simp
    refine hK _ ?_
    clear hK K
    refine hl_nil ?_
    intro w3 hxw3 K hK
    have xw3 : Ext w w3 := Ext.trans (by repeat (first | (with_reducible exact Ext.refl _) | (with_reducible assumption) | (with_reducible refine Ext.alloc ?_ _) | (with_reducible refine Ext.drew ?_) | (with_reducible refine Ext.drewN ?_ _) | (with_reducible refine Ext.setCell ?_ (by simp; try omega) _) | (with_reducible refine Ext.setRow ?_ (by simp; try omega) _))) hxw3
    obtain ⟨hcw3, hfw3⟩ := hxw3.facts
    have hsw3 := hxw3.size
    try simp only [World.size_drew, World.size_alloc, World.size_setCell] at hsw3 hcw3 hfw3
    go_wp2_with fail
    first | refine fin_ret rfl (fun K hK => ?_) | refine fin_norm rfl (fun K hK => ?_)
    simp [results, Try.results21, go_sem, rsat]
    try go_simp
    refine hK _ ?_
    clear hK K
    refine ⟨(by repeat (first | (with_reducible exact Ext.refl _) | (with_reducible assumption) | (with_reducible refine Ext.alloc ?_ _) | (with_reducible refine Ext.drew ?_) | (with_reducible refine Ext.drewN ?_ _) | (with_reducible refine Ext.setCell ?_ (by simp; try omega) _) | (with_reducible refine Ext.setRow ?_ (by simp; try omega) _))), ⟨none, 0, []⟩, fn, rfl, Sts.none_at _, ?_⟩
    rw [HR.out, if_pos HF.out]
    rfl
end Go.Proofs.Ythfomohophmbaaa
