/- Windows: what leaves. No condition. -/
import Derived.Test.YtgjaiikfgejgoaaV2
import Derived.WalkMore
namespace Go.Proofs.Ytgjaiikfgejgoaa
open Go.RowKit
attribute [local go_sem] Later.cell QUpon_value QUpon_enter MUpon_value
def lenW (w : World) (g : Nat) : Nat := match w.cell? ⟨g, 4, none⟩ with | some (.slice _ n _) => n | _ => 0
theorem lenW_at {w : World} {g : Nat} {span grid ref last : Int} {A : Option Addr} {n c wo : Nat} {q : Int} (h : At w g 55 (winCells span grid ref last (.slice A n c) wo q)) : lenW w g = n := by
  have : w.cell? ⟨g, 4, none⟩ = some (.slice A n c) := h.cell 4
  unfold lenW
  rw [this]
/-- Those that are behind the tick c, in their order. -/
def dropT (c : Int) : List Tr → List Tr
  | [] => []
  | x :: l => if x.t ≤ c then dropT c l else x :: l
theorem wl_lt {x : Tr} {l : List Tr} (hx : x.Ok) (h : ∀ y ∈ l, y.Ok) (hn : l.length ≤ 1000) : x.w + worthN l < 340282366920938463463374607431768211456 := by
  have h1 := worth_lt h
  have h2 := Tr.w_lt hx
  omega
theorem ql_lt {l : List Tr} (h : ∀ y ∈ l, y.Ok) (hn : l.length ≤ 1000) : qtyN l ≤ 4294967296000 := by
  have h1 := qty_lt h
  omega
structure LeaveAt (w : World) (g : Nat) (A : Option Addr) (span grid ref last : Int) (l : List Tr) (c : Int) (r : List Tr) (A' : Option Addr) (c' : Nat) (wr : World) : Prop where
  drop : dropT c l = dropT c r
  ok : ∀ x ∈ r, x.Ok
  len : r.length ≤ l.length
  blk : ablk A' = ablk A
  at_ : At wr g 55 (winCells span grid ref last (.slice A' r.length c') (worthN r) (qtyN r : Nat))
  row : Row wr 59 4 A' r.length c' (trCells r)
  chg : Chg w wr [g]
set_option maxHeartbeats 4000000 in
set_option maxRecDepth 100000 in
theorem leave_c (g : Nat) (A : Option Addr) (span grid ref last : Int) (l : List Tr) (t : Int) (ht : I64 (t - span)) (w : World) (hW : Win w g A span grid ref last l) (hn : l.length ≤ 1000) :
    Calls Try.prog 24 #[.pointer (some ⟨g, 0, none⟩), .int .i64 t] w fun e w' => e = .returned (.tuple #[]) ∧ ∃ A', ablk A' = ablk A ∧ Win w' g A' span grid ref last (dropT (t - span) l) ∧ Chg w w' [g] := by
  obtain ⟨hok, halt, c, hA, hR⟩ := hW
  have sg := hA.lt
  have hgA : g ∉ ablk A := fun h => (halt g h).2 rfl
  go_enter Try.func24, Try.ntmps24
  go_wp2_with fail
  go_step3
  go_wp2_with fail
  go_step3
  go_wp2_with fail
  go_loopw [4] (fun _ wr => ∃ r A' c', LeaveAt w g A span grid ref last l (t - span) r A' c' wr) (fun _ wr => lenW wr g)
  case atStart => exact ⟨l, A, c, ⟨rfl, hok, Nat.le_refl _, rfl, hA, hR, Chg.refl _ _⟩⟩
  case round =>
    obtain ⟨r, A', c', hd, hro, hle, hbl, hAr, hRr, hC⟩ := hrel
    have sgr := hAr.lt
    have c4 : wr.cell? ⟨g, 4, none⟩ = some (.slice A' r.length c') := hAr.cell 4
    have hgA' : g ∉ ablk A' := by rw [hbl]; exact hgA
    cases r with
    | nil =>
      go_wp2_with fail
      rw [Exit.noGoto_normal]
      first | refine fin_ret rfl (fun K hK => ?_) | refine fin_norm rfl (fun K hK => ?_)
      simp [results, Try.results24, go_sem, rsat]
      try go_simp
      refine hK _ ?_
      clear hK K
      refine ⟨rfl, A', hbl, ?_, hC⟩
      rw [hd]
      exact ⟨by simp [dropT], fun k hk => ⟨Nat.lt_of_lt_of_le (halt k (hbl ▸ hk)).1 hC.size, (halt k (hbl ▸ hk)).2⟩, c', hAr, hRr⟩
    | cons x r =>
      have hxo := hro x (by simp)
      obtain ⟨b, off, cur, rfl, hb, hsz, hxs⟩ := hRr.at_ (by have := hRr.le; simp only [List.length_cons] at this; omega)
      have e0 : wr.cell? ⟨b, off, none⟩ = some (.int .i64 x.t) := hRr.cell rfl (j := 0) (by simp only [List.length_cons]; omega)
      have e1 : wr.cell? ⟨b, off + 1, none⟩ = some (.int .i64 x.q) := hRr.cell rfl (j := 1) (by simp only [List.length_cons]; omega)
      have e2 : wr.cell? ⟨b, off + 2, none⟩ = some (.int .u64 (whi x.w)) := hRr.cell rfl (j := 2) (by simp only [List.length_cons]; omega)
      have e3 : wr.cell? ⟨b, off + 3, none⟩ = some (.int .u64 (wlo x.w)) := hRr.cell rfl (j := 3) (by simp only [List.length_cons]; omega)
      simp only [List.length_cons] at c4
      have hAr' := hAr
      have hwr : wrap64 (t - span) = t - span := wrap64_in ht
      have hwr' : IntKind.i64.wrap (t - span) = t - span := by rw [IntKind.wrap_i64]; unfold I64 at ht; omega
      have hRr' : Row wr 59 4 (some ⟨b, off, none⟩) (r.length + 1) c' (trCells (x :: r)) := hRr
      go_wp2_with fail
      have hlt : g < wr.heap.size := sgr
      refine gen_world (fun W => Chg w W [g] ∧ wr.heap.size < W.heap.size ∧ At W g 55 (winCells span grid ref last (.slice (some ⟨b, off, none⟩) (r.length + 1) c') (x.w + worthN r) (x.q.toNat + qtyN r : Nat)) ∧ At W wr.heap.size 59 (Tr.cells x).toArray ∧ Row W 59 4 (some ⟨b, off, none⟩) (r.length + 1) c' (trCells (x :: r))) ⟨(by repeat (first | (with_reducible exact Chg.refl _ _) | (with_reducible assumption) | (with_reducible refine Chg.alloc ?_ _) | (with_reducible refine Chg.drew ?_) | (with_reducible refine Chg.drewN ?_ _) | (with_reducible refine Chg.set ?_ (by simp; try omega) _) | (with_reducible refine Chg.setRow ?_ (by simp; try omega) _))), by simp, hAr.alloc _, ?_, (by repeat (first | (with_reducible assumption) | (with_reducible refine Row.alloc ?_ _) | (with_reducible refine Row.drew ?_) | (with_reducible refine Row.drewN ?_ _) | (with_reducible refine Row.set ?_ (by first | (with_reducible assumption) | (simp; omega)) _) | (with_reducible refine Row.setRow ?_ (by first | (with_reducible assumption) | (simp; omega)) _)))⟩ (fun w1 hF => ?_)
      · show At _ _ _ #[.int .i64 x.t, .int .i64 x.q, .int .u64 (whi x.w), .int .u64 (wlo x.w)]
        exact (by repeat (first | (with_reducible exact At.new _ _ _) | ((with_reducible refine At.new' _ _ _ _ ?_); simp; done) | (with_reducible assumption) | (with_reducible refine At.drew ?_) | (with_reducible refine At.alloc ?_ _) | (with_reducible apply At.upd) | (with_reducible apply At.setRow) | (with_reducible refine At.rowFar ?_ (by first | (simp; done) | (simp; omega) | omega) _) | ((with_reducible refine At.far ?_ (by first | (simp; done) | (simp; omega) | omega) _)) | (with_reducible rfl) | (simp; done)))
      obtain ⟨hC1, hs1, hA1, hT1, hR1⟩ := hF
      have d0 : w1.cell? ⟨wr.heap.size, 0, none⟩ = some (.int .i64 x.t) := hT1.cell 0
      have c0 : w1.cell? ⟨g, 0, none⟩ = some (.int .i64 span) := hA1.cell 0
      have sg1 := hA1.lt
      clear hAr hRr hRr' e0 e1 e2 e3 c4 hb hsz hxs
      by_cases hx : x.t ≤ t - span
      · have bx : decide (t - span < x.t) = false := decide_eq_false (by omega)
        refine wp_region_x 9 [0, 1, 0, 0, 0, 0, 1, 0, 0] (by kernel_rfl) (by kernel_rfl) (by kernel_rfl) ?_
        simp only [List.take_succ_cons, List.take_zero, List.drop_succ_cons, List.drop_zero]
        refine hl_pure (fun K hK => ?_)
        go_simp
        refine hK _ ?_
        clear hK K
        refine hl_quiet (fun K hK => ?_)
        go_simp
        refine hK _ ?_
        clear hK K
        refine hl_pure (fun K hK => ?_)
        go_simp
        refine hK _ ?_
        clear hK K
        refine hl_pure (fun K hK => ?_)
        go_simp
        refine hK _ ?_
        clear hK K
        refine hl_pure (fun K hK => ?_)
        go_simp
        refine hK _ ?_
        clear hK K
        refine hl_pure (fun K hK => ?_)
        go_simp
        refine hK _ ?_
        clear hK K
        refine hl_quiet (fun K hK => ?_)
        go_simp
        refine hK _ ?_
        clear hK K
        refine hl_pure (fun K hK => ?_)
        go_simp
        refine hK _ ?_
        clear hK K
        refine hl_pure (fun K hK => ?_)
        go_simp
        refine hK _ ?_
        clear hK K
        refine hl_nil ?_
        intro w2 hx2 K hK
        have hA2 := hA1.ext hx2
        have hT2 := hT1.ext hx2
        have hR2 := hR1.ext hx2
        have hC2 := hC1.extR hx2
        have hs2 := hx2.size
        clear hA1 hT1 hR1 hC1 d0 c0 hx2
        have c4 : w2.cell? ⟨g, 4, none⟩ = some (.slice (some ⟨b, off, none⟩) (r.length + 1) c') := hA2.cell 4
        have f4 := hA2.frozen 4
        have hle1 := hR2.le
        have hmx := hR2.max
        have hRt := hR2.tail
        rw [show (trCells (x :: r)).drop 4 = trCells r from rfl] at hRt
        have hbt := ablk_tail (some ⟨b, off, none⟩) c' 4
        have et : tailA (some ⟨b, off, none⟩) c' 4 = some ⟨b, if c' = 1 then off else off + 4, none⟩ := by
          unfold tailA
          split <;> simp [Addr.add_lit]
        generalize tailA (some ⟨b, off, none⟩) c' 4 = A2 at hRt hbt et
        have hg2 : g ∉ ablk A2 := by rw [hbt]; exact hgA'
        have hwl := wl_lt hxo (fun y hy => hro y (by simp [hy])) (Nat.le_of_succ_le (Nat.le_trans hle hn))
        have C4 := sub_v (x.w + worthN r) x.w hwl (Nat.le_add_right _ _)
        rw [Nat.add_sub_cancel_left] at C4
        have hql := ql_lt (l := r) (fun y hy => hro y (by simp [hy])) (Nat.le_of_succ_le (Nat.le_trans hle hn))
        have hq0 := hxo.q0
        have hq1 := hxo.q1
        go_wp2_with fail
        all_goals
          refine gen_world (fun W => Chg w W [g] ∧ wr.heap.size < W.heap.size ∧ At W g 55 (winCells span grid ref last (.slice A2 r.length (c' - 1)) (x.w + worthN r) (x.q.toNat + qtyN r : Nat)) ∧ At W wr.heap.size 59 (Tr.cells x).toArray ∧ Row W 59 4 A2 r.length (c' - 1) (trCells r)) ⟨(by repeat (first | (with_reducible exact Chg.refl _ _) | (with_reducible assumption) | (with_reducible refine Chg.alloc ?_ _) | (with_reducible refine Chg.drew ?_) | (with_reducible refine Chg.drewN ?_ _) | (with_reducible refine Chg.set ?_ (by simp; try omega) _) | (with_reducible refine Chg.setRow ?_ (by simp; try omega) _))), by simpa using hT2.lt, ?_, hT2.far (by simp; omega) _, hRt.set hg2 _⟩ (fun w3 hF => ?_)
          · have hh := hA2.set 4 (.slice A2 r.length (c' - 1))
            rw [et] at hh
            first | exact hh | (rw [if_pos (by omega), show c' - 1 = 0 by omega] at hh; rw [et, if_pos (by omega), show c' - 1 = 0 by omega]; exact hh) | (rw [if_neg (by omega)] at hh; rw [et, if_neg (by omega)]; exact hh)
          obtain ⟨hC3, hs3, hA3, hT3, hR3⟩ := hF
          clear hA2 hT2 hR2 hC2 hRt c4 f4
          have c5 : w3.cell? ⟨g, 5, none⟩ = some (.int .u64 (whi (x.w + worthN r))) := hA3.cell 5
          have c6 : w3.cell? ⟨g, 6, none⟩ = some (.int .u64 (wlo (x.w + worthN r))) := hA3.cell 6
          have d2 : w3.cell? ⟨wr.heap.size, 2, none⟩ = some (.int .u64 (whi x.w)) := hT3.cell 2
          have d3 : w3.cell? ⟨wr.heap.size, 3, none⟩ = some (.int .u64 (wlo x.w)) := hT3.cell 3
          have sg3 := hA3.lt
          refine wp_region_x 13 [0, 0, 0, 0, 1, 0, 1, 1, 0, 0, 0, 0, 0] (by kernel_rfl) (by kernel_rfl) (by kernel_rfl) ?_
          simp only [List.take_succ_cons, List.take_zero, List.drop_succ_cons, List.drop_zero]
          refine hl_pure (fun K hK => ?_)
          go_simp
          refine hK _ ?_
          clear hK K
          refine hl_pure (fun K hK => ?_)
          go_simp
          refine hK _ ?_
          clear hK K
          refine hl_pure (fun K hK => ?_)
          go_simp
          refine hK _ ?_
          clear hK K
          refine hl_pure (fun K hK => ?_)
          go_simp
          refine hK _ ?_
          clear hK K
          refine hl_quiet (fun K hK => ?_)
          go_simp
          refine hK _ ?_
          clear hK K
          refine hl_pure (fun K hK => ?_)
          go_simp
          refine hK _ ?_
          clear hK K
          refine hl_quiet (fun K hK => ?_)
          go_simp
          refine hK _ ?_
          clear hK K
          refine hl_quiet (fun K hK => ?_)
          go_simp
          first
            | (refine hK _ ?_; clear hK K)
            | (apply Exists.intro; refine ⟨fun x => ?_, hK _ ?_⟩
               · (exact C4 _)
               clear hK K)
          refine hl_pure (fun K hK => ?_)
          go_simp
          refine hK _ ?_
          clear hK K
          refine hl_pure (fun K hK => ?_)
          go_simp
          refine hK _ ?_
          clear hK K
          refine hl_pure (fun K hK => ?_)
          go_simp
          refine hK _ ?_
          clear hK K
          refine hl_pure (fun K hK => ?_)
          go_simp
          refine hK _ ?_
          clear hK K
          refine hl_pure (fun K hK => ?_)
          go_simp
          refine hK _ ?_
          clear hK K
          refine hl_nil ?_
          intro w4 hx4 K4 hK4
          have hA4 := hA3.ext hx4
          have hT4 := hT3.ext hx4
          have hR4 := hR3.ext hx4
          have hC4 := hC3.extR hx4
          have hs4 := hx4.size
          clear hA3 hT3 hR3 hC3 c5 c6 d2 d3 hx4
          have c5 : w4.cell? ⟨g, 5, none⟩ = some (.int .u64 (whi (x.w + worthN r))) := hA4.cell 5
          have c6 : w4.cell? ⟨g, 6, none⟩ = some (.int .u64 (wlo (x.w + worthN r))) := hA4.cell 6
          have f5 := hA4.frozen 5
          have f6 := hA4.frozen 6
          go_wp2_with fail
          obtain ⟨Q, hQ⟩ : ∃ Q : Int, Q = ((x.q.toNat + qtyN r : Nat) : Int) := ⟨_, rfl⟩
          rw [← hQ] at hA4
          have hQ0 : x.q ≤ Q := by omega
          have hQ1 : Q ≤ 4299262263296 := by omega
          have HQ := Lib.hid hQ
          clear hQ
          refine gen_world (fun W => Chg w W [g] ∧ wr.heap.size < W.heap.size ∧ At W g 55 (winCells span grid ref last (.slice A2 r.length (c' - 1)) (worthN r) Q) ∧ At W wr.heap.size 59 (Tr.cells x).toArray ∧ Row W 59 4 A2 r.length (c' - 1) (trCells r)) ⟨(by repeat (first | (with_reducible exact Chg.refl _ _) | (with_reducible assumption) | (with_reducible refine Chg.alloc ?_ _) | (with_reducible refine Chg.drew ?_) | (with_reducible refine Chg.drewN ?_ _) | (with_reducible refine Chg.set ?_ (by simp; try omega) _) | (with_reducible refine Chg.setRow ?_ (by simp; try omega) _))), by simpa using hT4.lt, (hA4.set 5 _).set 6 _, (hT4.far (by simp; omega) _).far (by simp; omega) _, (hR4.set hg2 _).set hg2 _⟩ (fun w5 hF => ?_)
          obtain ⟨hC5, hs5, hA5, hT5, hR5⟩ := hF
          clear hA4 hT4 hR4 hC4 c5 c6 f5 f6
          have c7 : w5.cell? ⟨g, 7, none⟩ = some (.int .i64 Q) := hA5.cell 7
          have d1 : w5.cell? ⟨wr.heap.size, 1, none⟩ = some (.int .i64 x.q) := hT5.cell 1
          have sg5 := hA5.lt
          refine wp_region_x 9 [0, 0, 0, 1, 0, 1, 0, 0, 0] (by kernel_rfl) (by kernel_rfl) (by kernel_rfl) ?_
          simp only [List.take_succ_cons, List.take_zero, List.drop_succ_cons, List.drop_zero]
          refine hl_pure (fun K hK => ?_)
          go_simp
          refine hK _ ?_
          clear hK K
          refine hl_pure (fun K hK => ?_)
          go_simp
          refine hK _ ?_
          clear hK K
          refine hl_pure (fun K hK => ?_)
          go_simp
          refine hK _ ?_
          clear hK K
          refine hl_quiet (fun K hK => ?_)
          go_simp
          refine hK _ ?_
          clear hK K
          refine hl_pure (fun K hK => ?_)
          go_simp
          refine hK _ ?_
          clear hK K
          refine hl_quiet (fun K hK => ?_)
          go_simp
          refine hK _ ?_
          clear hK K
          refine hl_pure (fun K hK => ?_)
          go_simp
          refine hK _ ?_
          clear hK K
          refine hl_pure (fun K hK => ?_)
          go_simp
          refine hK _ ?_
          clear hK K
          refine hl_pure (fun K hK => ?_)
          go_simp
          refine hK _ ?_
          clear hK K
          refine hl_nil ?_
          intro w6 hx6 K6 hK6
          have hA6 := hA5.ext hx6
          have hR6 := hR5.ext hx6
          have hC6 := hC5.extR hx6
          clear hA5 hT5 hR5 hC5 c7 d1 hx6
          have c7 : w6.cell? ⟨g, 7, none⟩ = some (.int .i64 Q) := hA6.cell 7
          have f7 := hA6.frozen 7
          go_wp2_with fail
          go_roundw
          case rel =>
            have hQ := HQ.out
            refine ⟨r, A2, c' - 1, ⟨by rw [hd]; simp [dropT, hx], fun y hy => hro y (by simp [hy]), Nat.le_of_succ_le hle, by rw [hbt]; exact hbl, ?_, hR6.set hg2 _, (by repeat (first | (with_reducible exact Chg.refl _ _) | (with_reducible assumption) | (with_reducible refine Chg.alloc ?_ _) | (with_reducible refine Chg.drew ?_) | (with_reducible refine Chg.drewN ?_ _) | (with_reducible refine Chg.set ?_ (by simp; try omega) _) | (with_reducible refine Chg.setRow ?_ (by simp; try omega) _)))⟩⟩
            rw [show ((qtyN r : Nat) : Int) = Q - x.q by omega]
            exact hA6.set 7 _
          case measure =>
            rw [lenW_at (hA6.set 7 _), lenW_at hAr']
            simp
      · have bx : decide (t - span < x.t) = true := decide_eq_true (by omega)
        refine wp_region_x 9 [0, 1, 0, 0, 0, 0, 1, 0, 0] (by kernel_rfl) (by kernel_rfl) (by kernel_rfl) ?_
        simp only [List.take_succ_cons, List.take_zero, List.drop_succ_cons, List.drop_zero]
        refine hl_pure (fun K hK => ?_)
        go_simp
        refine hK _ ?_
        clear hK K
        refine hl_quiet (fun K hK => ?_)
        go_simp
        refine hK _ ?_
        clear hK K
        refine hl_pure (fun K hK => ?_)
        go_simp
        refine hK _ ?_
        clear hK K
        refine hl_pure (fun K hK => ?_)
        go_simp
        refine hK _ ?_
        clear hK K
        refine hl_pure (fun K hK => ?_)
        go_simp
        refine hK _ ?_
        clear hK K
        refine hl_pure (fun K hK => ?_)
        go_simp
        refine hK _ ?_
        clear hK K
        refine hl_quiet (fun K hK => ?_)
        go_simp
        refine hK _ ?_
        clear hK K
        refine hl_pure (fun K hK => ?_)
        go_simp
        refine hK _ ?_
        clear hK K
        refine hl_pure (fun K hK => ?_)
        go_simp
        refine hK _ ?_
        clear hK K
        refine hl_nil ?_
        intro w2 hx2 K hK
        go_wp2_with fail
        try rw [Exit.noGoto_normal]
        first | refine fin_ret rfl (fun K hK => ?_) | refine fin_norm rfl (fun K hK => ?_)
        simp [results, Try.results24, go_sem, rsat]
        try go_simp
        refine hK _ ?_
        clear hK K
        refine ⟨rfl, _, hbl, ?_, hC1.extR hx2⟩
        rw [hd]
        rw [show dropT (t - span) (x :: r) = x :: r from if_neg (by omega)]
        exact ⟨hro, fun k hk => ⟨Nat.lt_of_lt_of_le (halt k (hbl ▸ hk)).1 (hC1.extR hx2).size, (halt k (hbl ▸ hk)).2⟩, c', hA1.ext hx2, hR1.ext hx2⟩
end Go.Proofs.Ytgjaiikfgejgoaa
