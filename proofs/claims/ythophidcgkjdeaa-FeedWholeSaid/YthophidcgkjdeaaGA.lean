/- Gaps (layer 26), by the program and by the document; law FeedGaps. No condition. -/
import Derived.Test.YthophidcgkjdeaaMsMl
import Derived.Test.YthophidcgkjdeaaM1b
import Derived.WalkMore
/- Gaps (layer 26), by the program and by the document. No condition. -/
namespace Go.Proofs.Ythophidcgkjdeaa
open Go.RowKit
attribute [local go_sem] Later.cell QUpon_value QUpon_enter MUpon_value run_eql_slice_nil Same.cell
attribute [local go_sem ↓ high] loadMsg_is storeMsg_is
attribute [local go_sem] run_loadMsg run_loadMsg_at run_storeMsg one_int one_bool one_slice one_ptr one_str setRow_new setRow_past cell_ca frozen_ca cellsAt_alloc_at cellsAt_alloc_past cellsAt_drew cellsAt_later cellsAt_setCell cellsAt_set_same cellsAt_setRow_same cellsAt_setRow_far subAt_alloc subAt_drew subAt_later subAt_setCell subAt_setRow ltn_2 ltn_3 ltn_4 ltn_5
theorem i64Info : (Try.prog.info? 2).map (fun i => (i.zero, i.size, i.bytes)) = some (some (.int .i64 0), 1, 8) := by kernel_rfl
theorem longs_one (l : List Int) : (longs l).all (·.oneCell') = true := by
  unfold longs
  rw [List.all_map]
  exact List.all_eq_true.2 (fun _ _ => rfl)
/-- A slice of numbers of the call's own. -/
def OwnI (w0 w : World) (v : Value) (xs : List Int) : Prop := ∃ A c, v = .slice A xs.length c ∧ Row w 2 1 A xs.length c (longs xs) ∧ ∀ k ∈ ablk A, w0.heap.size ≤ k ∧ k < w.heap.size
theorem OwnI.nil (w0 w : World) : OwnI w0 w (.slice none 0 0) [] := ⟨none, 0, rfl, Row.nil _ _ _ _, by simp [ablk]⟩
theorem OwnI.ext {w0 w w' : World} {v : Value} {xs : List Int} (h : OwnI w0 w v xs) (hx : Ext w w') : OwnI w0 w' v xs := by
  obtain ⟨A, c, rfl, hR, hf⟩ := h
  exact ⟨A, c, rfl, hR.ext hx, fun k hk => ⟨(hf k hk).1, Nat.lt_of_lt_of_le (hf k hk).2 hx.size⟩⟩
theorem OwnI.app {w0 w w1 w2 : World} {A A' : Option Addr} {bs ns : List Int} {c' : Nat} (hx : Ext w0 w) (hf : ∀ k ∈ ablk A, w0.heap.size ≤ k ∧ k < w.heap.size) (hx1 : Ext w w1) (hC : Chg w1 w2 (ablk A)) (hR : Row w2 2 1 A' (bs.length + ns.length) c' (longs bs ++ longs ns))
    (hf2 : ∀ k ∈ ablk A', k ∈ ablk A ∨ (w.heap.size ≤ k ∧ k < w2.heap.size)) : OwnI w0 w2 (.slice A' (bs.length + ns.length) c') (bs ++ ns) ∧ Ext w0 w2 := by
  have h1 := hx.size
  have h2 := hx1.size
  have h3 := hC.size
  refine ⟨⟨A', c', by rw [List.length_append], by rw [List.length_append]; unfold longs at *; rw [List.map_append]; exact hR, fun k hk => ?_⟩, ?_⟩
  · rcases hf2 k hk with h | h
    · have := hf k h; omega
    · omega
  · exact (Chg.step (Chg.of_ext (hx.trans hx1) []) hC (fun i hi => .inr (hf i hi).1)).ext (by simp)
/-- From n up to m, as long as there are fewer than 100. -/
def fillB (out : List Int) (n m : Int) : List Int := if n < m ∧ out.length < 100 then fillB (out ++ [n]) (n + 1) m else out
termination_by (m - n).toNat
decreasing_by omega
theorem fill_stop {out : List Int} {n m : Int} (h : ¬ (n < m ∧ out.length < 100)) : fillB out n m = out := by rw [fillB, if_neg h]
theorem fill_go {out : List Int} {n m : Int} (h : n < m ∧ out.length < 100) : fillB out n m = fillB (out ++ [n]) (n + 1) m := by rw [fillB, if_pos h]
def gapsG : List Int → Int → List Mg → List Int
  | out, _, [] => out
  | out, p, m :: l => gapsG (fillB out (p + 1) m.seq) m.seq l
def gapsL : List Mg → List Int
  | [] => []
  | m :: l => gapsG [] m.seq l
theorem gaps_full : ∀ (l : List Mg) (out : List Int) (p : Int), ¬ out.length < 100 → gapsG out p l = out
  | [], _, _, _ => rfl
  | m :: l, out, p, h => by
    rw [gapsG, fill_stop (fun h1 => h h1.2)]
    exact gaps_full l out _ h
set_option maxHeartbeats 1000000 in
set_option maxRecDepth 100000 in
theorem gaps_c (A : Option Addr) (c : Nat) (l : List Mg) (hl : l.length ≤ 60) (w : World) (hL : Lies Mg.cells 9 w A c l) (hok : ∀ m ∈ l, m.Ok) :
    Calls Try.prog 8 #[.slice A l.length c] w fun e w' => Ext w w' ∧ ∃ v, e = .returned v ∧ OwnI w w' v (gapsL l) := by
  go_enter Try.func8, Try.ntmps8
  go_wp2_with fail
  go_step3
  go_wp2_with fail
  go_step3
  go_wp2_with fail
  go_loopw [2, 8] (fun v i wr => ∃ (k : Nat) (out : List Int), i = .int .i64 k ∧ k ≤ l.length ∧ OwnI w wr v out ∧ out.length ≤ 100 ∧ Ext w wr ∧ ((k = 0 ∧ out = []) ∨ ∃ h : 0 < k ∧ k - 1 < l.length, gapsL l = gapsG out (l[k - 1]'h.2).seq (l.drop k))) (fun _ i _ => l.length - (intOf i).toNat)
  case atStart => exact ⟨0, [], rfl, by omega, OwnI.nil _ _, by decide, Ext.refl _, .inl ⟨rfl, rfl⟩⟩
  case round =>
    obtain ⟨k, out, rfl, hk, ⟨A1, c1, rfl, R1, F1⟩, hol, hx, hg⟩ := hrel
    by_cases hlt : k < l.length
    · obtain ⟨b, off, rfl, hb, hs, hq⟩ := hL.msg k hlt
      have hs1 := (subAt_ext hx hb).trans hs
      have hbr : b < wr.heap.size := Nat.lt_of_lt_of_le hb hx.size
      have hmk := hok l[k] (List.getElem_mem _)
      by_cases hk0 : k = 0
      · subst hk0
        simp only [Nat.zero_mul, Nat.add_zero] at hs1 hq
        rcases hg with ⟨_, rfl⟩ | ⟨h, _⟩
        · have hgl : gapsL l = gapsG [] l[0].seq (l.drop 1) := by
            match l, hlt with
            | m :: l, _ => rfl
          have HG := Lib.hid hgl
          clear hgl
          generalize l[0] = m at hs1 hmk
          go_wp2_with fail
          refine wp_region_x 13 [0, 0, 0, 0, 1, 0, 0, 0, 0, 0, 1, 0, 0] (by kernel_rfl) (by kernel_rfl) (by kernel_rfl) ?_
          simp only [List.take_succ_cons, List.take_zero, List.drop_succ_cons, List.drop_zero]
          refine hl_pure (fun K hK => ?_)
          go_simp
          refine hK _ ?_
          clear hK K
          refine hl_pure (fun K hK => ?_)
          go_simp
          refine hK _ ?_
          clear hK K
          refine hl_pure (fun K hK => ?_)
          go_simp
          refine hK _ ?_
          clear hK K
          refine hl_pure (fun K hK => ?_)
          go_simp
          refine hK _ ?_
          clear hK K
          refine hl_quiet (fun K hK => ?_)
          go_simp
          refine hK _ ?_
          clear hK K
          refine hl_pure (fun K hK => ?_)
          go_simp
          refine hK _ ?_
          clear hK K
          refine hl_pure (fun K hK => ?_)
          go_simp
          refine hK _ ?_
          clear hK K
          refine hl_pure (fun K hK => ?_)
          go_simp
          refine hK _ ?_
          clear hK K
          refine hl_pure (fun K hK => ?_)
          go_simp
          refine hK _ ?_
          clear hK K
          refine hl_pure (fun K hK => ?_)
          go_simp
          refine hK _ ?_
          clear hK K
          refine hl_quiet (fun K hK => ?_)
          go_simp
          refine hK _ ?_
          clear hK K
          refine hl_pure (fun K hK => ?_)
          go_simp
          refine hK _ ?_
          clear hK K
          refine hl_pure (fun K hK => ?_)
          go_simp
          refine hK _ ?_
          clear hK K
          refine hl_nil ?_
          intro w3 hx3 K hK
          have x3 : Ext wr w3 := ((Ext.refl wr).alloc _).trans hx3
          go_wp2_with fail
          go_roundw
          case rel => exact ⟨1, [], by go_num, by omega, ⟨A1, c1, rfl, R1.ext x3, fun q hq => ⟨(F1 q hq).1, Nat.lt_of_lt_of_le (F1 q hq).2 x3.size⟩⟩, by decide, hx.trans x3, .inr ⟨⟨by decide, by omega⟩, HG.out⟩⟩
          case measure => simp [intOf]; omega
        · omega
      · obtain ⟨j, rfl⟩ : ∃ j, k = j + 1 := ⟨k - 1, by omega⟩
        rcases hg with ⟨h, _⟩ | ⟨hj, hg⟩
        · omega
        obtain ⟨b', off', hA', _, hs0, hq0⟩ := hL.msg j (by omega)
        injection hA' with hA'
        injection hA' with hA1 hA2
        subst hA1 hA2
        have hq1 := (hx.facts.1 _ _ hb).trans hq0
        have hpk := (hok l[j] (List.getElem_mem _)).seq
        have hd := List.drop_eq_getElem_cons hlt
        simp only [Nat.add_sub_cancel] at hg
        rw [hd, gapsG] at hg
        have hmk1 := hmk.seq
        generalize hm : l[j + 1] = m at hs1 hmk hg hmk1
        generalize l[j].seq = p at hq1 hpk hg
        have HG := Lib.hid hg
        have HM := Lib.hid hm
        clear hg hm hd hs hs0 hq hq0
        unfold I64 at hpk hmk1
        have hjb : ((j : Int) + 1 == 0) = false := beq_eq_false_iff_ne.2 (by omega)
        have hjw : IntKind.i64.wrap (j : Int) = (j : Int) := by rw [IntWalk.i64_left, wrap64_in ⟨by omega, by omega⟩]
        have hjr : (0 : Int) ≤ (j : Int) ∧ (j : Int) < (l.length : Int) := by omega
        have hjn : ¬ ((j : Int) + 1 = 0) := by omega
        by_cases hle : m.seq ≤ p
        · have hfs : fillB out (p + 1) m.seq = out := fill_stop (by omega)
          have HFS := Lib.hid hfs
          clear hfs
          go_wp2_with fail
          refine wp_region_x 13 [0, 0, 0, 0, 1, 0, 0, 0, 0, 0, 1, 0, 0] (by kernel_rfl) (by kernel_rfl) (by kernel_rfl) ?_
          simp only [List.take_succ_cons, List.take_zero, List.drop_succ_cons, List.drop_zero]
          refine hl_pure (fun K hK => ?_)
          go_simp
          refine hK _ ?_
          clear hK K
          refine hl_pure (fun K hK => ?_)
          go_simp
          refine hK _ ?_
          clear hK K
          refine hl_pure (fun K hK => ?_)
          go_simp
          refine hK _ ?_
          clear hK K
          refine hl_pure (fun K hK => ?_)
          go_simp
          refine hK _ ?_
          clear hK K
          refine hl_quiet (fun K hK => ?_)
          go_simp
          refine hK _ ?_
          clear hK K
          refine hl_pure (fun K hK => ?_)
          go_simp
          refine hK _ ?_
          clear hK K
          refine hl_pure (fun K hK => ?_)
          go_simp
          refine hK _ ?_
          clear hK K
          refine hl_pure (fun K hK => ?_)
          go_simp
          refine hK _ ?_
          clear hK K
          refine hl_pure (fun K hK => ?_)
          go_simp
          refine hK _ ?_
          clear hK K
          refine hl_pure (fun K hK => ?_)
          go_simp
          refine hK _ ?_
          clear hK K
          refine hl_quiet (fun K hK => ?_)
          go_simp
          refine hK _ ?_
          clear hK K
          refine hl_pure (fun K hK => ?_)
          go_simp
          refine hK _ ?_
          clear hK K
          refine hl_pure (fun K hK => ?_)
          go_simp
          refine hK _ ?_
          clear hK K
          refine hl_nil ?_
          intro w3 hx3 K hK
          have x3 : Ext wr w3 := ((Ext.refl wr).alloc _).trans hx3
          go_wp2_with fail
          go_roundw
          case rel => exact ⟨j + 1 + 1, out, by go_num, by omega, ⟨A1, c1, rfl, R1.ext x3, fun q hq => ⟨(F1 q hq).1, Nat.lt_of_lt_of_le (F1 q hq).2 x3.size⟩⟩, hol, hx.trans x3, .inr ⟨⟨by omega, by omega⟩, by rw [HG.out, HFS.out]; simp only [Nat.add_sub_cancel]; rw [HM.out]⟩⟩
          case measure => simp [intOf]; omega
        · have hep : p < m.seq := by omega
          go_wp2_with fail
          refine wp_region_x 13 [0, 0, 0, 0, 1, 0, 0, 0, 0, 0, 1, 0, 0] (by kernel_rfl) (by kernel_rfl) (by kernel_rfl) ?_
          simp only [List.take_succ_cons, List.take_zero, List.drop_succ_cons, List.drop_zero]
          refine hl_pure (fun K hK => ?_)
          go_simp
          refine hK _ ?_
          clear hK K
          refine hl_pure (fun K hK => ?_)
          go_simp
          refine hK _ ?_
          clear hK K
          refine hl_pure (fun K hK => ?_)
          go_simp
          refine hK _ ?_
          clear hK K
          refine hl_pure (fun K hK => ?_)
          go_simp
          refine hK _ ?_
          clear hK K
          refine hl_quiet (fun K hK => ?_)
          go_simp
          refine hK _ ?_
          clear hK K
          refine hl_pure (fun K hK => ?_)
          go_simp
          refine hK _ ?_
          clear hK K
          refine hl_pure (fun K hK => ?_)
          go_simp
          refine hK _ ?_
          clear hK K
          refine hl_pure (fun K hK => ?_)
          go_simp
          refine hK _ ?_
          clear hK K
          refine hl_pure (fun K hK => ?_)
          go_simp
          refine hK _ ?_
          clear hK K
          refine hl_pure (fun K hK => ?_)
          go_simp
          refine hK _ ?_
          clear hK K
          refine hl_quiet (fun K hK => ?_)
          go_simp
          refine hK _ ?_
          clear hK K
          refine hl_pure (fun K hK => ?_)
          go_simp
          refine hK _ ?_
          clear hK K
          refine hl_pure (fun K hK => ?_)
          go_simp
          refine hK _ ?_
          clear hK K
          refine hl_nil ?_
          intro w3 hx3 K hK
          have x3 : Ext wr w3 := ((Ext.refl wr).alloc _).trans hx3
          have hq3 : w3.cell? ⟨b, off + j * 9 + 2, none⟩ = some (.int .i64 p) := (x3.facts.1 _ _ hbr).trans hq1
          have hM3 : At w3 wr.heap.size 34 #[.int .i64 m.kind, .int .i64 m.sym, .int .i64 m.seq, .int .i64 m.tick, .int .i64 m.id, .int .i64 m.wth, .int .i64 m.price, .int .i64 m.qty, .int .i64 m.code] := At.ext (by repeat (first | (with_reducible exact At.new _ _ _) | ((with_reducible refine At.new' _ _ _ _ ?_); simp; done) | (with_reducible assumption) | (with_reducible refine At.drew ?_) | (with_reducible refine At.alloc ?_ _) | (with_reducible apply At.upd) | (with_reducible apply At.setRow) | (with_reducible refine At.rowFar ?_ (by first | (simp; done) | (simp; omega) | omega) _) | ((with_reducible refine At.far ?_ (by first | (simp; done) | (simp; omega) | omega) _)) | (with_reducible rfl) | (simp; done))) hx3
          have e3 := cellsAt_at hM3
          have s3 := hM3.lt
          go_wp2_with fail
          have x3w := hx.trans x3
          have hg0 : w.heap.size ≤ wr.heap.size := hx.size
          have hO1 : ∀ q ∈ ablk A1, w.heap.size ≤ q ∧ q < w3.heap.size ∧ q ≠ wr.heap.size := fun q hq => by have := F1 q hq; omega
          have R3 := R1.ext x3
          generalize wr.heap.size = g0 at *
          clear e3 hq3 hq1 hs1
          go_loopw [2, 5] (fun v n wq => ∃ (N : Int) (out2 : List Int) (A2 : Option Addr) (c2 : Nat), n = .int .i64 N ∧ p + 1 ≤ N ∧ N ≤ m.seq ∧ v = .slice A2 out2.length c2 ∧ Row wq 2 1 A2 out2.length c2 (longs out2) ∧ (∀ q ∈ ablk A2, w.heap.size ≤ q ∧ q < wq.heap.size ∧ q ≠ g0) ∧ out2.length ≤ 100 ∧ Ext w wq ∧ At wq g0 34 #[.int .i64 m.kind, .int .i64 m.sym, .int .i64 m.seq, .int .i64 m.tick, .int .i64 m.id, .int .i64 m.wth, .int .i64 m.price, .int .i64 m.qty, .int .i64 m.code] ∧ fillB out (p + 1) m.seq = fillB out2 N m.seq) (fun _ n _ => (m.seq - intOf n).toNat)
          case atStart => exact ⟨p + 1, out, A1, c1, by go_num, by omega, by omega, rfl, R3, hO1, hol, x3w, hM3, rfl⟩
          case round =>
            obtain ⟨N, out2, A2, c2, rfl, hN1, hN2, rfl, R2, F2, hl2, hx2, hM2, hfl⟩ := hrel
            have e2 := cellsAt_at hM2
            have s2 := hM2.lt
            by_cases hlt2 : N < m.seq
            · by_cases hful : out2.length = 100
              · have hres : gapsL l = out2 := by rw [HG.out, hfl, fill_stop (by omega), gaps_full _ _ _ (by omega)]
                have HR := Lib.hid hres
                have h100 : ((out2.length : Int) == 100) = true := by simp; omega
                have HFUL := Lib.hid hful
                clear hful hres hfl
                go_wp2_with fail
                try rw [Exit.noGoto_ret]
                first | refine fin_ret rfl (fun K hK => ?_) | refine fin_norm rfl (fun K hK => ?_)
                simp [results, Try.results8, go_sem, rsat]
                try go_simp
                refine hK _ ?_
                clear hK K
                rw [HR.out]
                exact ⟨hx2, _, rfl, A2, c2, rfl, R2, fun q hq => ⟨(F2 q hq).1, (F2 q hq).2.1⟩⟩
              · have hfg := fill_go (out := out2) (n := N) (m := m.seq) ⟨hlt2, by omega⟩
                rw [hfg] at hfl
                have HFL := Lib.hid hfl
                have h100 : ((out2.length : Int) == 100) = false := beq_eq_false_iff_ne.2 (by omega)
                have hnw : wrap64 (N + 1) = N + 1 := wrap64_in ⟨by omega, by omega⟩
                clear hfl hfg
                go_wp2_with (at_builtin; refine wpList_rowapp rfl _ _ 25 2 1 8 (.int .i64 0) rfl Try.underlying25 i64Info rfl (by decide) _ A2 out2.length c2 (longs out2) rfl R2 [.int .i64 N] rfl rfl rfl (by unfold maxLen; omega) (by omega) ?_)
                intro D3 f3 z3 S3 hC3 hf3
                obtain ⟨⟨A5, c5, h5, R5, F5⟩, y3⟩ := OwnI.app (ns := [N]) hx2 (fun q hq => ⟨(F2 q hq).1, (F2 q hq).2.1⟩) ((Ext.refl wr).alloc _) hC3 S3 hf3
                have hM3' := hC3.at (hM2.alloc (.cells #[.int .i64 N] 2)) (fun hm => (F2 _ hm).2.2 rfl)
                injection h5 with h5 h6 h7
                subst h5 h7
                go_wp2_with fail
                go_roundw
                case rel =>
                  refine ⟨N + 1, out2 ++ [N], D3, f3, by go_num, by omega, by omega, by simp, R5, fun q hq => ⟨(F5 q hq).1, (F5 q hq).2, ?_⟩, by simp; omega, y3, hM3', HFL.out⟩
                  rcases hf3 q hq with h1 | h1
                  · exact (F2 q h1).2.2
                  · omega
                case measure => simp [intOf]; omega
            · have hres : fillB out (p + 1) m.seq = out2 := by rw [hfl, fill_stop (by omega)]
              have HR := Lib.hid hres
              clear hres hfl
              go_wp2_with fail
              go_roundw
              case rel => exact ⟨j + 1 + 1, out2, by go_num, by omega, ⟨A2, c2, rfl, R2, fun q hq => ⟨(F2 q hq).1, (F2 q hq).2.1⟩⟩, hl2, hx2, .inr ⟨⟨by omega, by omega⟩, by rw [HG.out, HR.out]; simp only [Nat.add_sub_cancel]; rw [HM.out]⟩⟩
              case measure => simp [intOf]; omega
    · obtain rfl : k = l.length := by omega
      have hfin : gapsL l = out := by
        rcases hg with ⟨h1, h2⟩ | ⟨h1, h2⟩
        · have : l = [] := List.eq_nil_of_length_eq_zero h1
          rw [this, h2]
          rfl
        · rw [h2, List.drop_length, gapsG]
      have HF := Lib.hid hfin
      clear hfin
      go_wp2_with fail
      try rw [Exit.noGoto_ret]
      first | refine fin_ret rfl (fun K hK => ?_) | refine fin_norm rfl (fun K hK => ?_)
      simp [results, Try.results8, go_sem, rsat]
      try go_simp
      refine hK _ ?_
      clear hK K
      rw [HF.out]
      exact ⟨hx, _, rfl, A1, c1, rfl, R1, F1⟩
end Go.Proofs.Ythophidcgkjdeaa
/- Gaps (layer 26), by the document; law FeedGaps. No condition. -/
namespace Go.Proofs.Ythophidcgkjdeaa
open Go.RowKit
attribute [local go_sem] Later.cell QUpon_value QUpon_enter MUpon_value run_eql_slice_nil Same.cell
attribute [local go_sem ↓ high] loadMsg_is storeMsg_is
attribute [local go_sem] run_loadMsg run_loadMsg_at run_storeMsg one_int one_bool one_slice one_ptr one_str setRow_new setRow_past cell_ca frozen_ca cellsAt_alloc_at cellsAt_alloc_past cellsAt_drew cellsAt_later cellsAt_setCell cellsAt_set_same cellsAt_setRow_same cellsAt_setRow_far subAt_alloc subAt_drew subAt_later subAt_setCell subAt_setRow ltn_2 ltn_3 ltn_4 ltn_5
set_option maxHeartbeats 1000000 in
set_option maxRecDepth 100000 in
theorem rgaps_c (A : Option Addr) (c : Nat) (l : List Mg) (hl : l.length ≤ 60) (w : World) (hL : Lies Mg.cells 9 w A c l) (hok : ∀ m ∈ l, m.Ok) :
    Calls Try.prog 9 #[.slice A l.length c] w fun e w' => Ext w w' ∧ ∃ v, e = .returned v ∧ OwnI w w' v (gapsL l) := by
  go_enter Try.func9, Try.ntmps9
  go_wp2_with fail
  go_loopw [3, 4, 5] (fun v i n wr => ∃ (k : Nat) (out : List Int), i = .int .i64 ((k : Int) + 1) ∧ OwnI w wr v out ∧ out.length ≤ 100 ∧ Ext w wr ∧ ((k = 0 ∧ l = [] ∧ out = []) ∨ ∃ h : k < l.length, gapsL l = gapsG out l[k].seq (l.drop (k + 1)))) (fun _ i _ _ => l.length - (intOf i).toNat)
  case atStart =>
    refine ⟨0, [], by go_num, OwnI.nil _ _, by decide, Ext.refl _, ?_⟩
    match l with
    | [] => exact .inl ⟨rfl, rfl, rfl⟩
    | m :: l => exact .inr ⟨by simp, rfl⟩
  case round =>
    obtain ⟨k, out, rfl, ⟨A1, c1, rfl, R1, F1⟩, hol, hx, hg⟩ := hrel
    by_cases hlt : k + 1 < l.length
    · rcases hg with ⟨_, h, _⟩ | ⟨hk, hg⟩
      · rw [h] at hlt; simp at hlt
      obtain ⟨b, off, rfl, hb, hs, hq⟩ := hL.msg (k + 1) hlt
      obtain ⟨b', off', hA', _, hs0, hq0⟩ := hL.msg k hk
      injection hA' with hA'
      injection hA' with hA1 hA2
      subst hA1 hA2
      have hbr : b < wr.heap.size := Nat.lt_of_lt_of_le hb hx.size
      have hq1 := (hx.facts.1 _ _ hb).trans hq0
      have hmk1 := (hok l[k + 1] (List.getElem_mem _)).seq
      have hpk := (hok l[k] (List.getElem_mem _)).seq
      have hd := List.drop_eq_getElem_cons hlt
      rw [hd, gapsG] at hg
      generalize hm : l[k + 1] = m at hq hg hmk1
      generalize l[k].seq = p at hq1 hpk hg
      have HG := Lib.hid hg
      have HM := Lib.hid hm
      generalize hms : m.seq = s at hq HG hmk1
      have HMS := Lib.hid hms
      clear hms hg hm hd hs hs0 hq0
      unfold I64 at hpk hmk1
      have hjw : IntKind.i64.wrap (k : Int) = (k : Int) := by rw [IntWalk.i64_left, wrap64_in ⟨by omega, by omega⟩]
      have hjr : (0 : Int) ≤ (k : Int) ∧ (k : Int) < (l.length : Int) := by omega
      go_wp2_with fail
      go_loopw [3, 5] (fun v n wq => ∃ (N : Int) (out2 : List Int) (A2 : Option Addr) (c2 : Nat), n = .int .i64 N ∧ p ≤ N ∧ N ≤ 9223372036854775807 ∧ v = .slice A2 out2.length c2 ∧ Row wq 2 1 A2 out2.length c2 (longs out2) ∧ (∀ q ∈ ablk A2, w.heap.size ≤ q ∧ q < wq.heap.size) ∧ out2.length ≤ 100 ∧ Ext w wq ∧ fillB out (p + 1) s = fillB out2 (N + 1) s) (fun _ n _ => (s - intOf n).toNat)
      case atStart => exact ⟨p, out, A1, c1, rfl, by omega, hpk.2, rfl, R1, F1, hol, hx, rfl⟩
      case round =>
        obtain ⟨N, out2, A2, c2, rfl, hN1, hN2, rfl, R2, F2, hl2, hx2, hfl⟩ := hrel
        have hq2 := (hx2.facts.1 _ _ hb).trans hq
        have hkw : IntKind.i64.wrap ((k : Int) + 1) = (k : Int) + 1 := by rw [IntWalk.i64_left, wrap64_in ⟨by omega, by omega⟩]
        by_cases hful : out2.length < 100
        · by_cases hn1 : N < s
          · by_cases hn2 : N + 1 < s
            · have hfg := fill_go (out := out2) (n := N + 1) (m := s) ⟨hn2, hful⟩
              rw [hfg] at hfl
              have HFL := Lib.hid hfl
              have hnw : wrap64 (N + 1) = N + 1 := wrap64_in ⟨by omega, by omega⟩
              clear hfl hfg
              go_wp2_with (at_builtin; refine wpList_rowapp rfl _ _ 25 2 1 8 (.int .i64 0) rfl Try.underlying25 i64Info rfl (by decide) _ A2 out2.length c2 (longs out2) rfl R2 [.int .i64 (N + 1)] rfl rfl rfl (by unfold maxLen; omega) (by omega) ?_)
              intro D3 f3 z3 S3 hC3 hf3
              obtain ⟨⟨A5, c5, h5, R5, F5⟩, y3⟩ := OwnI.app (ns := [N + 1]) hx2 F2 ((Ext.refl wr).alloc _) hC3 S3 hf3
              injection h5 with h5 h6 h7
              subst h5 h7
              go_wp2_with fail
              go_roundw
              case rel => exact ⟨N + 1, out2 ++ [N + 1], D3, f3, by go_num, by omega, by omega, by simp, R5, F5, by simp; omega, y3, HFL.out⟩
              case measure => simp [intOf]; omega
            · have hres : fillB out (p + 1) s = out2 := by rw [hfl, fill_stop (by omega)]
              have HR := Lib.hid hres
              have hnw : wrap64 (N + 1) = N + 1 := wrap64_in ⟨by omega, by omega⟩
              clear hres hfl
              go_wp2_with fail
              go_roundw
              case rel => exact ⟨k + 1, out2, by go_num, ⟨A2, c2, rfl, R2, F2⟩, hl2, hx2, .inr ⟨hlt, by rw [HG.out, HR.out, HM.out, HMS.out]⟩⟩
              case measure => simp [intOf]; omega
          · have hres : fillB out (p + 1) s = out2 := by rw [hfl, fill_stop (by omega)]
            have HR := Lib.hid hres
            clear hres hfl
            go_wp2_with fail
            go_roundw
            case rel => exact ⟨k + 1, out2, by go_num, ⟨A2, c2, rfl, R2, F2⟩, hl2, hx2, .inr ⟨hlt, by rw [HG.out, HR.out, HM.out, HMS.out]⟩⟩
            case measure => simp [intOf]; omega
        · have hres : fillB out (p + 1) s = out2 := by rw [hfl, fill_stop (by omega)]
          have HR := Lib.hid hres
          clear hres hfl
          go_wp2_with fail
          go_roundw
          case rel => exact ⟨k + 1, out2, by go_num, ⟨A2, c2, rfl, R2, F2⟩, hl2, hx2, .inr ⟨hlt, by rw [HG.out, HR.out, HM.out, HMS.out]⟩⟩
          case measure => simp [intOf]; omega
    · have hfin : gapsL l = out := by
        rcases hg with ⟨h1, h2, h3⟩ | ⟨h1, h2⟩
        · rw [h2, h3]
          rfl
        · rw [h2, List.drop_eq_nil_of_le (by omega), gapsG]
      have HF := Lib.hid hfin
      clear hfin
      go_wp2_with fail
      first | refine fin_ret rfl (fun K hK => ?_) | refine fin_norm rfl (fun K hK => ?_)
      simp [results, Try.results9, go_sem, rsat]
      try go_simp
      refine hK _ ?_
      clear hK K
      rw [HF.out]
      exact ⟨hx, _, rfl, A1, c1, rfl, R1, F1⟩
end Go.Proofs.Ythophidcgkjdeaa
/- Law FeedGaps. No condition. -/
namespace Go.Proofs.Ythophidcgkjdeaa
open Go.RowKit
attribute [local go_sem] Later.cell QUpon_value QUpon_enter MUpon_value run_eql_slice_nil Same.cell
attribute [local go_sem ↓ high] loadMsg_is storeMsg_is
attribute [local go_sem] run_loadMsg run_loadMsg_at run_storeMsg one_int one_bool one_slice one_ptr one_str setRow_new setRow_past cell_ca frozen_ca cellsAt_alloc_at cellsAt_alloc_past cellsAt_drew cellsAt_later cellsAt_setCell cellsAt_set_same cellsAt_setRow_same cellsAt_setRow_far subAt_alloc subAt_drew subAt_later subAt_setCell subAt_setRow ltn_2 ltn_3 ltn_4 ltn_5
set_option maxHeartbeats 1000000 in
theorem same16_c (A B : Option Addr) (c d : Nat) (xs : List Int) (hl : xs.length ≤ 1000) (w : World) (hA : Src w 1 A xs.length (longs xs)) (hB : Src w 1 B xs.length (longs xs)) :
    Calls Try.prog 7 #[.slice A xs.length c, .slice B xs.length d] w fun e w' => e = .returned (.bool true) ∧ Ext w w' := by
  have ebb : ((xs.length : Int) != (xs.length : Int)) = false := by simp
  go_enter Try.func7, Try.ntmps7
  go_wp2_with fail
  go_loopw [5] (fun i wr => ∃ k : Nat, i = .int .i64 k ∧ k ≤ xs.length ∧ Ext w wr) (fun i _ => xs.length - (intOf i).toNat)
  case atStart => exact ⟨0, rfl, by omega, Ext.refl _⟩
  case round =>
    obtain ⟨k, rfl, hk, hx⟩ := hrel
    by_cases hlt : k < xs.length
    · obtain ⟨b, off, rfl, hb, hc⟩ := hA.lt (by omega) (by decide)
      obtain ⟨b2, off2, rfl, hb2, hc2⟩ := hB.lt (by omega) (by decide)
      have e0 : (longs xs)[k]? = some (.int .i64 xs[k]) := by unfold longs; rw [List.getElem?_map, List.getElem?_eq_getElem hlt]; rfl
      have h1 : wr.cell? ⟨b, off + k, none⟩ = some (.int .i64 xs[k]) := (hx.facts.1 _ _ hb).trans ((hc k (by omega)).trans e0)
      have h2 : wr.cell? ⟨b2, off2 + k, none⟩ = some (.int .i64 xs[k]) := (hx.facts.1 _ _ hb2).trans ((hc2 k (by omega)).trans e0)
      have hbr : b < wr.heap.size := Nat.lt_of_lt_of_le hb hx.size
      have hbr2 : b2 < wr.heap.size := Nat.lt_of_lt_of_le hb2 hx.size
      generalize xs[k] = y at h1 h2
      have hkr : (0 : Int) ≤ (k : Int) ∧ (k : Int) < (xs.length : Int) := by omega
      clear hc hc2 e0
      go_wp2_with fail
      refine wp_region_x 9 [0, 0, 0, 1, 0, 0, 0, 1, 0] (by kernel_rfl) (by kernel_rfl) (by kernel_rfl) ?_
      simp only [List.take_succ_cons, List.take_zero, List.drop_succ_cons, List.drop_zero]
      refine hl_pure (fun K hK => ?_)
      go_simp
      refine hK _ ?_
      clear hK K
      refine hl_pure (fun K hK => ?_)
      go_simp
      refine hK _ ?_
      clear hK K
      refine hl_pure (fun K hK => ?_)
      go_simp
      refine hK _ ?_
      clear hK K
      refine hl_quiet (fun K hK => ?_)
      go_simp
      refine hK _ ?_
      clear hK K
      refine hl_pure (fun K hK => ?_)
      go_simp
      refine hK _ ?_
      clear hK K
      refine hl_pure (fun K hK => ?_)
      go_simp
      refine hK _ ?_
      clear hK K
      refine hl_pure (fun K hK => ?_)
      go_simp
      refine hK _ ?_
      clear hK K
      refine hl_quiet (fun K hK => ?_)
      go_simp
      refine hK _ ?_
      clear hK K
      refine hl_pure (fun K hK => ?_)
      go_simp
      refine hK _ ?_
      clear hK K
      refine hl_nil ?_
      intro w3 hx3 K hK
      go_wp2_with fail
      go_roundw
      case rel => exact ⟨k + 1, by go_num, by omega, hx.trans hx3⟩
      case measure => simp [intOf]; omega
    · obtain rfl : k = xs.length := by omega
      go_wp2_with fail
      first | refine fin_ret rfl (fun K hK => ?_) | refine fin_norm rfl (fun K hK => ?_)
      simp [results, Try.results7, go_sem, rsat]
      try go_simp
      refine hK _ ?_
      clear hK K
      exact ⟨rfl, hx⟩
def msgZ : Value := .agg #[.int .i64 0, .int .i64 0, .int .i64 0, .int .i64 0, .int .i64 0, .int .i64 0, .int .i64 0, .int .i64 0, .int .i64 0]
theorem msgInfo : (Try.prog.info? 34).map (fun i => (i.zero, i.size, i.bytes)) = some (some msgZ, 9, 72) := by kernel_rfl
theorem last_c (g : Nat) (A : Option Addr) (n c : Nat) (w : World) (h : At w g 53 #[.slice A n c]) : Calls Try.prog 20 #[.pointer (some ⟨g, 0, none⟩)] w fun e w' => e = .returned (.int .i64 (n : Int)) ∧ Ext w w' := by
  have c0 : w.cell? ⟨g, 0, none⟩ = some (.slice A n c) := h.cell 0
  clear h
  go_enter Try.func20, Try.ntmps20
  go_wp2_with fail
  first | refine fin_ret rfl (fun K hK => ?_) | refine fin_norm rfl (fun K hK => ?_)
  simp [results, Try.results20, go_sem, rsat]
  try go_simp
  refine hK _ ?_
  clear hK K
  exact ⟨rfl, (by repeat (first | (with_reducible exact Ext.refl _) | (with_reducible assumption) | (with_reducible refine Ext.alloc ?_ _) | (with_reducible refine Ext.drew ?_) | (with_reducible refine Ext.drewN ?_ _) | (with_reducible refine Ext.setCell ?_ (by simp; try omega) _) | (with_reducible refine Ext.setRow ?_ (by simp; try omega) _)))⟩
set_option maxHeartbeats 2000000 in
set_option maxRecDepth 100000 in
theorem put_new (g : Nat) (w : World) (h : At w g 53 #[.slice none 0 0]) : Calls Try.prog 11 #[.pointer (some ⟨g, 0, none⟩), .int .i64 7, .agg #[.int .i64 6, .int .i64 0, .int .i64 0, .int .i64 0, .int .i64 0, .int .i64 0, .int .i64 0, .int .i64 0, .int .i64 0]] w
    fun e w' => e = .returned (.tuple #[.agg #[.int .i64 6, .int .i64 0, .int .i64 1, .int .i64 7, .int .i64 0, .int .i64 0, .int .i64 0, .int .i64 0, .int .i64 0], .int .i64 0]) ∧ Chg w w' [g] := by
  have C1 := fun W (hW : At W g 53 #[.slice none 0 0]) => last_c g none 0 0 W hW
  have C2 := right_c ⟨6, 0, 1, 7, 0, 0, 0, 0, 0⟩
  rw [show rightB ⟨6, 0, 1, 7, 0, 0, 0, 0, 0⟩ = true by decide] at C2
  have HC1 := Lib.hid C1
  have HC2 := Lib.hid C2
  clear C1 C2
  have sg := h.lt
  go_enter Try.func11, Try.ntmps11
  go_wp2_with fail
  refine (HC1.out _ (h.ext (by repeat (first | (with_reducible exact Ext.refl _) | (with_reducible assumption) | (with_reducible refine Ext.alloc ?_ _) | (with_reducible refine Ext.drew ?_) | (with_reducible refine Ext.drewN ?_ _) | (with_reducible refine Ext.setCell ?_ (by simp; try omega) _) | (with_reducible refine Ext.setRow ?_ (by simp; try omega) _))))).mono ?_
  rintro e w1 ⟨rfl, hxw1⟩
  have g1 := h.ext (Ext.trans (by repeat (first | (with_reducible exact Ext.refl _) | (with_reducible assumption) | (with_reducible refine Ext.alloc ?_ _) | (with_reducible refine Ext.drew ?_) | (with_reducible refine Ext.drewN ?_ _) | (with_reducible refine Ext.setCell ?_ (by simp; try omega) _) | (with_reducible refine Ext.setRow ?_ (by simp; try omega) _))) hxw1)
  have M_w1 := At.ext (g := w.heap.size) (t := 34) (cs := #[.int .i64 6, .int .i64 0, .int .i64 0, .int .i64 0, .int .i64 0, .int .i64 0, .int .i64 0, .int .i64 0, .int .i64 0]) (by repeat (first | (with_reducible exact At.new _ _ _) | ((with_reducible refine At.new' _ _ _ _ ?_); simp; done) | (with_reducible assumption) | (with_reducible refine At.drew ?_) | (with_reducible refine At.alloc ?_ _) | (with_reducible apply At.upd) | (with_reducible apply At.setRow) | (with_reducible refine At.rowFar ?_ (by first | (simp; done) | (simp; omega) | omega) _) | ((with_reducible refine At.far ?_ (by first | (simp; done) | (simp; omega) | omega) _)) | (with_reducible rfl) | (simp; done))) hxw1
  have R_w1 := At.ext (g := w.heap.size + 1) (t := 34) (cs := #[.int .i64 0, .int .i64 0, .int .i64 0, .int .i64 0, .int .i64 0, .int .i64 0, .int .i64 0, .int .i64 0, .int .i64 0]) (by repeat (first | (with_reducible exact At.new _ _ _) | ((with_reducible refine At.new' _ _ _ _ ?_); simp; done) | (with_reducible assumption) | (with_reducible refine At.drew ?_) | (with_reducible refine At.alloc ?_ _) | (with_reducible apply At.upd) | (with_reducible apply At.setRow) | (with_reducible refine At.rowFar ?_ (by first | (simp; done) | (simp; omega) | omega) _) | ((with_reducible refine At.far ?_ (by first | (simp; done) | (simp; omega) | omega) _)) | (with_reducible rfl) | (simp; done))) hxw1
  have xw1 : Ext w w1 := Ext.trans (by repeat (first | (with_reducible exact Ext.refl _) | (with_reducible assumption) | (with_reducible refine Ext.alloc ?_ _) | (with_reducible refine Ext.drew ?_) | (with_reducible refine Ext.drewN ?_ _) | (with_reducible refine Ext.setCell ?_ (by simp; try omega) _) | (with_reducible refine Ext.setRow ?_ (by simp; try omega) _))) hxw1
  clear hxw1
  have s_M_w1 := M_w1.lt
  have e_M_w1 := cellsAt_at M_w1
  have s_R_w1 := R_w1.lt
  have e_R_w1 := cellsAt_at R_w1
  have lw : w.heap.size + 1 < w1.heap.size := R_w1.lt
  go_wp2_with fail
  obtain ⟨w2, hw2⟩ : ∃ w2 : World, w2 = (w1.setCell ⟨w.heap.size, 3, none⟩ (.int .i64 7)).setCell ⟨w.heap.size, 2, none⟩ (.int .i64 1) := ⟨_, rfl⟩
  have x2 : Ext w w2 := by rw [hw2]; exact ((Ext.setCell xw1 (Nat.le_refl _) _).setCell (Nat.le_refl _) _)
  have M2 : At w2 w.heap.size 34 #[.int .i64 6, .int .i64 0, .int .i64 1, .int .i64 7, .int .i64 0, .int .i64 0, .int .i64 0, .int .i64 0, .int .i64 0] := by rw [hw2]; exact ((M_w1.set 3 _).set 2 _)
  have R2 : At w2 (w.heap.size + 1) 34 #[.int .i64 0, .int .i64 0, .int .i64 0, .int .i64 0, .int .i64 0, .int .i64 0, .int .i64 0, .int .i64 0, .int .i64 0] := by rw [hw2]; exact ((R_w1.far (by simp) _).far (by simp) _)
  have G2 := h.ext x2
  rw [← hw2]
  clear hw2 M_w1 R_w1 e_M_w1 e_R_w1 g1
  refine (HC2.out _).mono ?_
  rintro e w3 ⟨rfl, hx3⟩
  have M3 := M2.ext hx3
  have R3 := R2.ext hx3
  have G3 := G2.ext hx3
  have x3 := x2.trans hx3
  have eM := cellsAt_at M3
  have eR := cellsAt_at R3
  have sM := M3.lt
  have sR := R3.lt
  have sG := G3.lt
  have c0 : w3.cell? ⟨g, 0, none⟩ = some (.slice none 0 0) := G3.cell 0
  have f0 := G3.frozen 0
  go_wp2_with fail
  refine gen_world (fun W => W = w3) rfl (fun w4 hF => ?_)
  subst hF
  refine wp_region_m 7 [0, 0, 0, 0, 1, 1, 2] 6 (MadeS w4 34 1 #[.int .i64 6, .int .i64 0, .int .i64 1, .int .i64 7, .int .i64 0, .int .i64 0, .int .i64 0, .int .i64 0, .int .i64 0]) _ (by kernel_rfl) (by kernel_rfl) rfl (by omega) rfl MadeS.ext ?_
  simp only [List.take_succ_cons, List.take_zero, List.drop_succ_cons, List.drop_zero]
  refine hl_pure (fun K hK => ?_)
  go_simp
  refine hK _ ?_
  clear hK K
  refine hl_pure (fun K hK => ?_)
  go_simp
  refine hK _ ?_
  clear hK K
  refine hl_pure (fun K hK => ?_)
  go_simp
  refine hK _ ?_
  clear hK K
  refine hl_pure (fun K hK => ?_)
  go_simp
  refine hK _ ?_
  clear hK K
  refine hl_quiet (fun K hK => ?_)
  go_simp
  refine hK _ ?_
  clear hK K
  refine hl_quiet (fun K hK => ?_)
  go_simp
  refine hK _ ?_
  clear hK K
  refine hl_make rfl (fun x => by go_simp; exact Later.mades x _ _ _) ?_
  refine hl_nil ?_
  intro u5 w5 hx5 hu5 K hK
  obtain ⟨q5, rfl, hq5, hB5⟩ := hu5
  go_wp2_with (at_builtin; refine wpList_rowcat rfl _ _ 22 34 9 72 msgZ rfl Try.underlying22 msgInfo rfl (by decide) _ none 0 0 [] rfl (Row.nil _ _ _ _) _ 1 1 _ rfl (Src.at hB5 rfl) rfl (by unfold maxLen; omega) (by omega) ?_)
  intro A' c' w6 hR6 hC6 hf6
  have C36 : Ext w4 w6 := hx5.trans (hC6.ext (by simp [ablk]))
  have x6 := x3.trans C36
  have M6 := M3.ext C36
  have R6 := R3.ext C36
  have G6 := G3.ext C36
  have eM6 := cellsAt_at M6
  have eR6 := cellsAt_at R6
  have sM6 := M6.lt
  have sR6 := R6.lt
  have sG6 := G6.lt
  have c6 : w6.cell? ⟨g, 0, none⟩ = some (.slice none 0 0) := G6.cell 0
  have f6 := G6.frozen 0
  have hgM : w.heap.size ≠ g := by omega
  have hgR : w.heap.size + 1 ≠ g := by omega
  clear c0 f0 eM eR sM sR sG M3 R3 G3 hC6 hx5 hB5
  go_wp2_with fail
  obtain ⟨w8, hw8⟩ : ∃ w8 : World, w8 = (w6.setCell ⟨g, 0, none⟩ (.slice A' 1 c')).setRow (w.heap.size + 1) #[.int .i64 6, .int .i64 0, .int .i64 1, .int .i64 7, .int .i64 0, .int .i64 0, .int .i64 0, .int .i64 0, .int .i64 0] := ⟨_, rfl⟩
  have C8 : Chg w w8 [g] := by rw [hw8]; exact (((Chg.of_ext x6 [g]).set (.inl (by simp)) _).setRow (.inr (by simp)) _)
  have R8 : At w8 (w.heap.size + 1) 34 #[.int .i64 6, .int .i64 0, .int .i64 1, .int .i64 7, .int .i64 0, .int .i64 0, .int .i64 0, .int .i64 0, .int .i64 0] := by rw [hw8]; exact (R6.far (by simpa using hgR) _).setRow _
  have e8 := cellsAt_at R8
  have s8 := R8.lt
  rw [← hw8]
  clear hw8 eM6 eR6 c6 f6 M6 R6 G6
  first | refine fin_ret rfl (fun K hK => ?_) | refine fin_norm rfl (fun K hK => ?_)
  simp [results, Try.results11, go_sem, rsat]
  try go_simp
  refine hK _ ?_
  clear hK K
  exact ⟨rfl, C8⟩
theorem Chg.extOf {w0 a b : World} {m : List Nat} (h : Chg a b m) (hx : Ext w0 a) (hm : ∀ i ∈ m, w0.heap.size ≤ i) : Ext w0 b := (Chg.step (Chg.of_ext hx []) h (fun i hi => .inr (hm i hi))).ext (by simp)
theorem fill_len : ∀ (k : Nat) (out : List Int) (n m : Int), (m - n).toNat ≤ k → out.length ≤ 100 → (fillB out n m).length ≤ 100 := by
  intro k
  induction k with
  | zero => intro out n m h1 h2; rw [fill_stop (by omega)]; exact h2
  | succ k ih =>
    intro out n m h1 h2
    by_cases h : n < m ∧ out.length < 100
    · rw [fill_go h]
      exact ih _ _ _ (by omega) (by simp; omega)
    · rw [fill_stop h]; exact h2
theorem gapsG_len : ∀ (l : List Mg) (out : List Int) (p : Int), out.length ≤ 100 → (gapsG out p l).length ≤ 100
  | [], _, _, h => h
  | m :: l, out, p, h => gapsG_len l _ _ (fill_len _ _ _ _ (Nat.le_refl _) h)
theorem gaps_len (l : List Mg) : (gapsL l).length ≤ 1000 := by
  match l with
  | [] => decide
  | m :: l => exact Nat.le_trans (gapsG_len l [] _ (by decide)) (by decide)
theorem gaps3 : gapsL [⟨0, 0, 1, 0, 0, 0, 0, 0, 0⟩, ⟨0, 0, 2, 0, 0, 0, 0, 0, 0⟩, ⟨0, 0, 5, 0, 0, 0, 0, 0, 0⟩] = [3, 4] := by
  have a : fillB [] (1 + 1) 2 = [] := fill_stop (by decide)
  have b : fillB [] (2 + 1) 5 = [3, 4] := by
    rw [fill_go (by decide), fill_go (by decide), fill_stop (by decide)]
    rfl
  simp only [gapsL, gapsG]
  rw [a, b]
set_option maxHeartbeats 2000000 in
set_option maxRecDepth 100000 in
theorem alive_c26 (w : World) : Calls Try.prog 6 #[] w fun e w' => e = .returned (.bool true) ∧ Ext w w' := by
  have C3 := fun W (g : Nat) (hW : At W g 34 #[.int .i64 0, .int .i64 0, .int .i64 1, .int .i64 0, .int .i64 0, .int .i64 0, .int .i64 0, .int .i64 0, .int .i64 0, .int .i64 0, .int .i64 0, .int .i64 2, .int .i64 0, .int .i64 0, .int .i64 0, .int .i64 0, .int .i64 0, .int .i64 0, .int .i64 0, .int .i64 0, .int .i64 5, .int .i64 0, .int .i64 0, .int .i64 0, .int .i64 0, .int .i64 0, .int .i64 0]) =>
    gaps_c (some ⟨g, 0, none⟩) 3 [⟨0, 0, 1, 0, 0, 0, 0, 0, 0⟩, ⟨0, 0, 2, 0, 0, 0, 0, 0, 0⟩, ⟨0, 0, 5, 0, 0, 0, 0, 0, 0⟩] (by decide) W ⟨by decide, by decide, Src.at hW rfl⟩ (fun m hm => by
      simp only [List.mem_cons, List.not_mem_nil, or_false] at hm
      rcases hm with rfl | rfl | rfl <;> (constructor <;> exact ⟨by decide, by decide⟩))
  rw [gaps3] at C3
  have HC3 := Lib.hid C3
  clear C3
  go_enter Try.func6, Try.ntmps6
  go_wp2_with fail
  have CN : Calls Try.prog 10 #[] w fun e w' => e = .returned (.pointer (some ⟨w.heap.size, 0, none⟩)) ∧ w' = w.alloc (.cells #[.slice none 0 0] 53) := by
    go_enter Try.func10, Try.ntmps10
    go_wp2_with fail
    first | refine fin_ret rfl (fun K hK => ?_) | refine fin_norm rfl (fun K hK => ?_)
    simp [results, Try.results10, go_sem, rsat]
    try go_simp
    refine hK _ ?_
    clear hK K
    exact ⟨rfl, rfl⟩
  refine CN.mono ?_
  rintro e w0 ⟨rfl, hw0⟩
  have x0 : Ext w w0 := by rw [hw0]; exact (by repeat (first | (with_reducible exact Ext.refl _) | (with_reducible assumption) | (with_reducible refine Ext.alloc ?_ _) | (with_reducible refine Ext.drew ?_) | (with_reducible refine Ext.drewN ?_ _) | (with_reducible refine Ext.setCell ?_ (by simp; try omega) _) | (with_reducible refine Ext.setRow ?_ (by simp; try omega) _)))
  have G0 : At w0 w.heap.size 53 #[.slice none 0 0] := by rw [hw0]; exact (by repeat (first | (with_reducible exact At.new _ _ _) | ((with_reducible refine At.new' _ _ _ _ ?_); simp; done) | (with_reducible assumption) | (with_reducible refine At.drew ?_) | (with_reducible refine At.alloc ?_ _) | (with_reducible apply At.upd) | (with_reducible apply At.setRow) | (with_reducible refine At.rowFar ?_ (by first | (simp; done) | (simp; omega) | omega) _) | ((with_reducible refine At.far ?_ (by first | (simp; done) | (simp; omega) | omega) _)) | (with_reducible rfl) | (simp; done)))
  clear hw0 CN
  go_wp2_with fail
  refine (put_new w.heap.size w0 G0).mono ?_
  rintro e w1 ⟨rfl, C1⟩
  have x1 : Ext w w1 := C1.extOf x0 (by simp)
  go_wp2_with fail
  obtain ⟨w2, hw2⟩ : ∃ w2 : World, w2 = (w1.alloc (.cells #[.int .i64 6, .int .i64 0, .int .i64 1, .int .i64 7, .int .i64 0, .int .i64 0, .int .i64 0, .int .i64 0, .int .i64 0] 34)).alloc (.cells #[.int .i64 0, .int .i64 0, .int .i64 1, .int .i64 0, .int .i64 0, .int .i64 0, .int .i64 0, .int .i64 0, .int .i64 0, .int .i64 0, .int .i64 0, .int .i64 2, .int .i64 0, .int .i64 0, .int .i64 0, .int .i64 0, .int .i64 0, .int .i64 0, .int .i64 0, .int .i64 0, .int .i64 5, .int .i64 0, .int .i64 0, .int .i64 0, .int .i64 0, .int .i64 0, .int .i64 0] 34) := ⟨_, rfl⟩
  have x2 : Ext w1 w2 := by rw [hw2]; exact (by repeat (first | (with_reducible exact Ext.refl _) | (with_reducible assumption) | (with_reducible refine Ext.alloc ?_ _) | (with_reducible refine Ext.drew ?_) | (with_reducible refine Ext.drewN ?_ _) | (with_reducible refine Ext.setCell ?_ (by simp; try omega) _) | (with_reducible refine Ext.setRow ?_ (by simp; try omega) _)))
  have M2 : At w2 w1.heap.size 34 #[.int .i64 6, .int .i64 0, .int .i64 1, .int .i64 7, .int .i64 0, .int .i64 0, .int .i64 0, .int .i64 0, .int .i64 0] := by rw [hw2]; exact (by repeat (first | (with_reducible exact At.new _ _ _) | ((with_reducible refine At.new' _ _ _ _ ?_); simp; done) | (with_reducible assumption) | (with_reducible refine At.drew ?_) | (with_reducible refine At.alloc ?_ _) | (with_reducible apply At.upd) | (with_reducible apply At.setRow) | (with_reducible refine At.rowFar ?_ (by first | (simp; done) | (simp; omega) | omega) _) | ((with_reducible refine At.far ?_ (by first | (simp; done) | (simp; omega) | omega) _)) | (with_reducible rfl) | (simp; done)))
  have N2 : At w2 (w1.heap.size + 1) 34 #[.int .i64 0, .int .i64 0, .int .i64 1, .int .i64 0, .int .i64 0, .int .i64 0, .int .i64 0, .int .i64 0, .int .i64 0, .int .i64 0, .int .i64 0, .int .i64 2, .int .i64 0, .int .i64 0, .int .i64 0, .int .i64 0, .int .i64 0, .int .i64 0, .int .i64 0, .int .i64 0, .int .i64 5, .int .i64 0, .int .i64 0, .int .i64 0, .int .i64 0, .int .i64 0, .int .i64 0] := by rw [hw2]; exact (by repeat (first | (with_reducible exact At.new _ _ _) | ((with_reducible refine At.new' _ _ _ _ ?_); simp; done) | (with_reducible assumption) | (with_reducible refine At.drew ?_) | (with_reducible refine At.alloc ?_ _) | (with_reducible apply At.upd) | (with_reducible apply At.setRow) | (with_reducible refine At.rowFar ?_ (by first | (simp; done) | (simp; omega) | omega) _) | ((with_reducible refine At.far ?_ (by first | (simp; done) | (simp; omega) | omega) _)) | (with_reducible rfl) | (simp; done)))
  rw [← hw2]
  clear hw2
  refine (HC3.out w2 _ N2).mono ?_
  rintro e w3 ⟨hx3, v, rfl, A3, c3, rfl, R3, F3⟩
  have M3 := M2.ext hx3
  have e3 := cellsAt_at M3
  have s3 := M3.lt
  obtain ⟨b, off, cur, rfl, _⟩ := R3.at_ (by have := R3.le; simp at this; omega)
  have i0 : w3.cell? ⟨b, off, none⟩ = some (.int .i64 3) := R3.cell rfl (j := 0) (by decide)
  have i1 : w3.cell? ⟨b, off + 1, none⟩ = some (.int .i64 4) := R3.cell rfl (j := 1) (by decide)
  clear R3 F3
  simp only [List.length_cons, List.length_nil]
  go_wp2_with fail
  first | refine fin_ret rfl (fun K hK => ?_) | refine fin_norm rfl (fun K hK => ?_)
  simp [results, Try.results6, go_sem, rsat]
  try go_simp
  refine hK _ ?_
  clear hK K
  exact ⟨rfl, (x1.trans x2).trans hx3⟩
set_option maxHeartbeats 2000000 in
set_option maxRecDepth 100000 in
theorem feedgaps_c (x : Mgs) (w : World) (h : x.At w) : Calls Try.prog 3 #[x.v] w fun e w' => e = .returned (.bool true) ∧ Ext w w' := by
  unfold Mgs.v
  have hlm : x.l.length ≤ 9223372036854775807 := by have := h.lies.le; have := h.lies.max; unfold maxLen at this; omega
  by_cases h60 : 60 < x.l.length
  ·
    go_enter Try.func3, Try.ntmps3
    go_wp2_with fail
    refine (alive_c26 _).mono ?_
    rintro e w1 ⟨rfl, hx1⟩
    go_wp2_with fail
    first | refine fin_ret rfl (fun K hK => ?_) | refine fin_norm rfl (fun K hK => ?_)
    simp [results, Try.results3, go_sem, rsat]
    try go_simp
    refine hK _ ?_
    clear hK K
    exact ⟨rfl, hx1⟩
  · have C1 := gaps_c x.A x.c x.l (by omega) w h.lies h.ok
    have C2 := fun W hx => rgaps_c x.A x.c x.l (by omega) W (h.lies.ext hx) h.ok
    have hg : (gapsL x.l).length ≤ 1000 := gaps_len x.l
    generalize gapsL x.l = g at C1 C2 hg
    have HC1 := Lib.hid C1
    have HC2 := Lib.hid C2
    clear C1 C2
    go_enter Try.func3, Try.ntmps3
    go_wp2_with fail
    refine HC1.out.mono ?_
    rintro e w1 ⟨hx1, v1, rfl, o1⟩
    go_wp2_with fail
    refine (HC2.out w1 hx1).mono ?_
    rintro e w2 ⟨hx2, v2, rfl, o2⟩
    obtain ⟨A1, c1, rfl, R1, _⟩ := o1.ext hx2
    obtain ⟨A2, c2, rfl, R2, _⟩ := o2
    go_wp2_with fail
    refine (same16_c A1 A2 c1 c2 g hg w2 R1.src R2.src).mono ?_
    rintro e w3 ⟨rfl, hx3⟩
    go_wp2_with fail
    refine (alive_c26 _).mono ?_
    rintro e w4 ⟨rfl, hx4⟩
    go_wp2_with fail
    first | refine fin_ret rfl (fun K hK => ?_) | refine fin_norm rfl (fun K hK => ?_)
    simp [results, Try.results3, go_sem, rsat]
    try go_simp
    refine hK _ ?_
    clear hK K
    exact ⟨rfl, ((hx1.trans hx2).trans hx3).trans hx4⟩
end Go.Proofs.Ythophidcgkjdeaa
