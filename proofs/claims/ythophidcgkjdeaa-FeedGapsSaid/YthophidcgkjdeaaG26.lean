/- Gaps (layer 26), by the program and by the document. No condition. -/
import Derived.Test.YthophidcgkjdeaaMl
import Derived.Test.YthophidcgkjdeaaM1b
import Derived.WalkMore
namespace Go.Proofs.Ythophidcgkjdeaa
open Go.RowKit
attribute [local go_sem] Later.cell QUpon_value QUpon_enter MUpon_value run_eql_slice_nil Same.cell
attribute [local go_sem ↓ high] loadMsg_is storeMsg_is
attribute [local go_sem] run_loadMsg run_loadMsg_at run_storeMsg one_int one_bool one_slice one_ptr one_str setRow_new setRow_past cell_ca frozen_ca cellsAt_alloc_at cellsAt_alloc_past cellsAt_drew cellsAt_later cellsAt_setCell cellsAt_set_same cellsAt_setRow_same cellsAt_setRow_far subAt_alloc subAt_drew subAt_later subAt_setCell subAt_setRow ltn_2 ltn_3 ltn_4 ltn_5
theorem i64Info : (Try.prog.info? 2).map (fun i => (i.zero, i.size, i.bytes)) = some (some (.int .i64 0), 1, 8) := by kernel_rfl
theorem longs_one (l : List Int) : (longs l).all (·.oneCell') = true := by
  unfold longs
  rw [List.all_map]
  exact List.all_eq_true.2 (fun _ _ => rfl)
/-- A slice of numbers of the call's own. -/
def OwnI (w0 w : World) (v : Value) (xs : List Int) : Prop := ∃ A c, v = .slice A xs.length c ∧ Row w 2 1 A xs.length c (longs xs) ∧ ∀ k ∈ ablk A, w0.heap.size ≤ k ∧ k < w.heap.size
theorem OwnI.nil (w0 w : World) : OwnI w0 w (.slice none 0 0) [] := ⟨none, 0, rfl, Row.nil _ _ _ _, by simp [ablk]⟩
theorem OwnI.ext {w0 w w' : World} {v : Value} {xs : List Int} (h : OwnI w0 w v xs) (hx : Ext w w') : OwnI w0 w' v xs := by
  obtain ⟨A, c, rfl, hR, hf⟩ := h
  exact ⟨A, c, rfl, hR.ext hx, fun k hk => ⟨(hf k hk).1, Nat.lt_of_lt_of_le (hf k hk).2 hx.size⟩⟩
theorem OwnI.app {w0 w w1 w2 : World} {A A' : Option Addr} {bs ns : List Int} {c' : Nat} (hx : Ext w0 w) (hf : ∀ k ∈ ablk A, w0.heap.size ≤ k ∧ k < w.heap.size) (hx1 : Ext w w1) (hC : Chg w1 w2 (ablk A)) (hR : Row w2 2 1 A' (bs.length + ns.length) c' (longs bs ++ longs ns))
    (hf2 : ∀ k ∈ ablk A', k ∈ ablk A ∨ (w.heap.size ≤ k ∧ k < w2.heap.size)) : OwnI w0 w2 (.slice A' (bs.length + ns.length) c') (bs ++ ns) ∧ Ext w0 w2 := by
  have h1 := hx.size
  have h2 := hx1.size
  have h3 := hC.size
  refine ⟨⟨A', c', by rw [List.length_append], by rw [List.length_append]; unfold longs at *; rw [List.map_append]; exact hR, fun k hk => ?_⟩, ?_⟩
  · rcases hf2 k hk with h | h
    · have := hf k h; omega
    · omega
  · exact (Chg.step (Chg.of_ext (hx.trans hx1) []) hC (fun i hi => .inr (hf i hi).1)).ext (by simp)
/-- From n up to m, as long as there are fewer than 100. -/
def fillB (out : List Int) (n m : Int) : List Int := if n < m ∧ out.length < 100 then fillB (out ++ [n]) (n + 1) m else out
termination_by (m - n).toNat
decreasing_by omega
theorem fill_stop {out : List Int} {n m : Int} (h : ¬ (n < m ∧ out.length < 100)) : fillB out n m = out := by rw [fillB, if_neg h]
theorem fill_go {out : List Int} {n m : Int} (h : n < m ∧ out.length < 100) : fillB out n m = fillB (out ++ [n]) (n + 1) m := by rw [fillB, if_pos h]
def gapsG : List Int → Int → List Mg → List Int
  | out, _, [] => out
  | out, p, m :: l => gapsG (fillB out (p + 1) m.seq) m.seq l
def gapsL : List Mg → List Int
  | [] => []
  | m :: l => gapsG [] m.seq l
theorem gaps_full : ∀ (l : List Mg) (out : List Int) (p : Int), ¬ out.length < 100 → gapsG out p l = out
  | [], _, _, _ => rfl
  | m :: l, out, p, h => by
    rw [gapsG, fill_stop (fun h1 => h h1.2)]
    exact gaps_full l out _ h
set_option maxHeartbeats 1000000 in
set_option maxRecDepth 100000 in
theorem gaps_c (A : Option Addr) (c : Nat) (l : List Mg) (hl : l.length ≤ 60) (w : World) (hL : Lies Mg.cells 9 w A c l) (hok : ∀ m ∈ l, m.Ok) :
    Calls Try.prog 8 #[.slice A l.length c] w fun e w' => Ext w w' ∧ ∃ v, e = .returned v ∧ OwnI w w' v (gapsL l) := by
  go_enter Try.func8, Try.ntmps8
  go_wp2_with fail
  go_step3
  go_wp2_with fail
  go_step3
  go_wp2_with fail
  go_loopw [2, 8] (fun v i wr => ∃ (k : Nat) (out : List Int), i = .int .i64 k ∧ k ≤ l.length ∧ OwnI w wr v out ∧ out.length ≤ 100 ∧ Ext w wr ∧ ((k = 0 ∧ out = []) ∨ ∃ h : 0 < k ∧ k - 1 < l.length, gapsL l = gapsG out (l[k - 1]'h.2).seq (l.drop k))) (fun _ i _ => l.length - (intOf i).toNat)
  case atStart => exact ⟨0, [], rfl, by omega, OwnI.nil _ _, by decide, Ext.refl _, .inl ⟨rfl, rfl⟩⟩
  case round =>
    obtain ⟨k, out, rfl, hk, ⟨A1, c1, rfl, R1, F1⟩, hol, hx, hg⟩ := hrel
    by_cases hlt : k < l.length
    · obtain ⟨b, off, rfl, hb, hs, hq⟩ := hL.msg k hlt
      have hs1 := (subAt_ext hx hb).trans hs
      have hbr : b < wr.heap.size := Nat.lt_of_lt_of_le hb hx.size
      have hmk := hok l[k] (List.getElem_mem _)
      by_cases hk0 : k = 0
      · subst hk0
        simp only [Nat.zero_mul, Nat.add_zero] at hs1 hq
        rcases hg with ⟨_, rfl⟩ | ⟨h, _⟩
        · have hgl : gapsL l = gapsG [] l[0].seq (l.drop 1) := by
            match l, hlt with
            | m :: l, _ => rfl
          have HG := Lib.hid hgl
          clear hgl
          generalize l[0] = m at hs1 hmk
          go_wp2_with fail
          refine wp_region_x 13 [0, 0, 0, 0, 1, 0, 0, 0, 0, 0, 1, 0, 0] (by kernel_rfl) (by kernel_rfl) (by kernel_rfl) ?_
          simp only [List.take_succ_cons, List.take_zero, List.drop_succ_cons, List.drop_zero]
          refine hl_pure (fun K hK => ?_)
          go_simp
          refine hK _ ?_
          clear hK K
          refine hl_pure (fun K hK => ?_)
          go_simp
          refine hK _ ?_
          clear hK K
          refine hl_pure (fun K hK => ?_)
          go_simp
          refine hK _ ?_
          clear hK K
          refine hl_pure (fun K hK => ?_)
          go_simp
          refine hK _ ?_
          clear hK K
          refine hl_quiet (fun K hK => ?_)
          go_simp
          refine hK _ ?_
          clear hK K
          refine hl_pure (fun K hK => ?_)
          go_simp
          refine hK _ ?_
          clear hK K
          refine hl_pure (fun K hK => ?_)
          go_simp
          refine hK _ ?_
          clear hK K
          refine hl_pure (fun K hK => ?_)
          go_simp
          refine hK _ ?_
          clear hK K
          refine hl_pure (fun K hK => ?_)
          go_simp
          refine hK _ ?_
          clear hK K
          refine hl_pure (fun K hK => ?_)
          go_simp
          refine hK _ ?_
          clear hK K
          refine hl_quiet (fun K hK => ?_)
          go_simp
          refine hK _ ?_
          clear hK K
          refine hl_pure (fun K hK => ?_)
          go_simp
          refine hK _ ?_
          clear hK K
          refine hl_pure (fun K hK => ?_)
          go_simp
          refine hK _ ?_
          clear hK K
          refine hl_nil ?_
          intro w3 hx3 K hK
          have x3 : Ext wr w3 := ((Ext.refl wr).alloc _).trans hx3
          go_wp2_with fail
          go_roundw
          case rel => exact ⟨1, [], by go_num, by omega, ⟨A1, c1, rfl, R1.ext x3, fun q hq => ⟨(F1 q hq).1, Nat.lt_of_lt_of_le (F1 q hq).2 x3.size⟩⟩, by decide, hx.trans x3, .inr ⟨⟨by decide, by omega⟩, HG.out⟩⟩
          case measure => simp [intOf]; omega
        · omega
      · obtain ⟨j, rfl⟩ : ∃ j, k = j + 1 := ⟨k - 1, by omega⟩
        rcases hg with ⟨h, _⟩ | ⟨hj, hg⟩
        · omega
        obtain ⟨b', off', hA', _, hs0, hq0⟩ := hL.msg j (by omega)
        injection hA' with hA'
        injection hA' with hA1 hA2
        subst hA1 hA2
        have hq1 := (hx.facts.1 _ _ hb).trans hq0
        have hpk := (hok l[j] (List.getElem_mem _)).seq
        have hd := List.drop_eq_getElem_cons hlt
        simp only [Nat.add_sub_cancel] at hg
        rw [hd, gapsG] at hg
        have hmk1 := hmk.seq
        generalize hm : l[j + 1] = m at hs1 hmk hg hmk1
        generalize l[j].seq = p at hq1 hpk hg
        have HG := Lib.hid hg
        have HM := Lib.hid hm
        clear hg hm hd hs hs0 hq hq0
        unfold I64 at hpk hmk1
        have hjb : ((j : Int) + 1 == 0) = false := beq_eq_false_iff_ne.2 (by omega)
        have hjw : IntKind.i64.wrap (j : Int) = (j : Int) := by rw [IntWalk.i64_left, wrap64_in ⟨by omega, by omega⟩]
        have hjr : (0 : Int) ≤ (j : Int) ∧ (j : Int) < (l.length : Int) := by omega
        have hjn : ¬ ((j : Int) + 1 = 0) := by omega
        by_cases hle : m.seq ≤ p
        · have hfs : fillB out (p + 1) m.seq = out := fill_stop (by omega)
          have HFS := Lib.hid hfs
          clear hfs
          go_wp2_with fail
          refine wp_region_x 13 [0, 0, 0, 0, 1, 0, 0, 0, 0, 0, 1, 0, 0] (by kernel_rfl) (by kernel_rfl) (by kernel_rfl) ?_
          simp only [List.take_succ_cons, List.take_zero, List.drop_succ_cons, List.drop_zero]
          refine hl_pure (fun K hK => ?_)
          go_simp
          refine hK _ ?_
          clear hK K
          refine hl_pure (fun K hK => ?_)
          go_simp
          refine hK _ ?_
          clear hK K
          refine hl_pure (fun K hK => ?_)
          go_simp
          refine hK _ ?_
          clear hK K
          refine hl_pure (fun K hK => ?_)
          go_simp
          refine hK _ ?_
          clear hK K
          refine hl_quiet (fun K hK => ?_)
          go_simp
          refine hK _ ?_
          clear hK K
          refine hl_pure (fun K hK => ?_)
          go_simp
          refine hK _ ?_
          clear hK K
          refine hl_pure (fun K hK => ?_)
          go_simp
          refine hK _ ?_
          clear hK K
          refine hl_pure (fun K hK => ?_)
          go_simp
          refine hK _ ?_
          clear hK K
          refine hl_pure (fun K hK => ?_)
          go_simp
          refine hK _ ?_
          clear hK K
          refine hl_pure (fun K hK => ?_)
          go_simp
          refine hK _ ?_
          clear hK K
          refine hl_quiet (fun K hK => ?_)
          go_simp
          refine hK _ ?_
          clear hK K
          refine hl_pure (fun K hK => ?_)
          go_simp
          refine hK _ ?_
          clear hK K
          refine hl_pure (fun K hK => ?_)
          go_simp
          refine hK _ ?_
          clear hK K
          refine hl_nil ?_
          intro w3 hx3 K hK
          have x3 : Ext wr w3 := ((Ext.refl wr).alloc _).trans hx3
          go_wp2_with fail
          go_roundw
          case rel => exact ⟨j + 1 + 1, out, by go_num, by omega, ⟨A1, c1, rfl, R1.ext x3, fun q hq => ⟨(F1 q hq).1, Nat.lt_of_lt_of_le (F1 q hq).2 x3.size⟩⟩, hol, hx.trans x3, .inr ⟨⟨by omega, by omega⟩, by rw [HG.out, HFS.out]; simp only [Nat.add_sub_cancel]; rw [HM.out]⟩⟩
          case measure => simp [intOf]; omega
        · have hep : p < m.seq := by omega
          go_wp2_with fail
          refine wp_region_x 13 [0, 0, 0, 0, 1, 0, 0, 0, 0, 0, 1, 0, 0] (by kernel_rfl) (by kernel_rfl) (by kernel_rfl) ?_
          simp only [List.take_succ_cons, List.take_zero, List.drop_succ_cons, List.drop_zero]
          refine hl_pure (fun K hK => ?_)
          go_simp
          refine hK _ ?_
          clear hK K
          refine hl_pure (fun K hK => ?_)
          go_simp
          refine hK _ ?_
          clear hK K
          refine hl_pure (fun K hK => ?_)
          go_simp
          refine hK _ ?_
          clear hK K
          refine hl_pure (fun K hK => ?_)
          go_simp
          refine hK _ ?_
          clear hK K
          refine hl_quiet (fun K hK => ?_)
          go_simp
          refine hK _ ?_
          clear hK K
          refine hl_pure (fun K hK => ?_)
          go_simp
          refine hK _ ?_
          clear hK K
          refine hl_pure (fun K hK => ?_)
          go_simp
          refine hK _ ?_
          clear hK K
          refine hl_pure (fun K hK => ?_)
          go_simp
          refine hK _ ?_
          clear hK K
          refine hl_pure (fun K hK => ?_)
          go_simp
          refine hK _ ?_
          clear hK K
          refine hl_pure (fun K hK => ?_)
          go_simp
          refine hK _ ?_
          clear hK K
          refine hl_quiet (fun K hK => ?_)
          go_simp
          refine hK _ ?_
          clear hK K
          refine hl_pure (fun K hK => ?_)
          go_simp
          refine hK _ ?_
          clear hK K
          refine hl_pure (fun K hK => ?_)
          go_simp
          refine hK _ ?_
          clear hK K
          refine hl_nil ?_
          intro w3 hx3 K hK
          have x3 : Ext wr w3 := ((Ext.refl wr).alloc _).trans hx3
          have hq3 : w3.cell? ⟨b, off + j * 9 + 2, none⟩ = some (.int .i64 p) := (x3.facts.1 _ _ hbr).trans hq1
          have hM3 : At w3 wr.heap.size 34 #[.int .i64 m.kind, .int .i64 m.sym, .int .i64 m.seq, .int .i64 m.tick, .int .i64 m.id, .int .i64 m.wth, .int .i64 m.price, .int .i64 m.qty, .int .i64 m.code] := At.ext (by repeat (first | (with_reducible exact At.new _ _ _) | ((with_reducible refine At.new' _ _ _ _ ?_); simp; done) | (with_reducible assumption) | (with_reducible refine At.drew ?_) | (with_reducible refine At.alloc ?_ _) | (with_reducible apply At.upd) | (with_reducible apply At.setRow) | (with_reducible refine At.rowFar ?_ (by first | (simp; done) | (simp; omega) | omega) _) | ((with_reducible refine At.far ?_ (by first | (simp; done) | (simp; omega) | omega) _)) | (with_reducible rfl) | (simp; done))) hx3
          have e3 := cellsAt_at hM3
          have s3 := hM3.lt
          go_wp2_with fail
          have x3w := hx.trans x3
          have hg0 : w.heap.size ≤ wr.heap.size := hx.size
          have hO1 : ∀ q ∈ ablk A1, w.heap.size ≤ q ∧ q < w3.heap.size ∧ q ≠ wr.heap.size := fun q hq => by have := F1 q hq; omega
          have R3 := R1.ext x3
          generalize wr.heap.size = g0 at *
          clear e3 hq3 hq1 hs1
          go_loopw [2, 5] (fun v n wq => ∃ (N : Int) (out2 : List Int) (A2 : Option Addr) (c2 : Nat), n = .int .i64 N ∧ p + 1 ≤ N ∧ N ≤ m.seq ∧ v = .slice A2 out2.length c2 ∧ Row wq 2 1 A2 out2.length c2 (longs out2) ∧ (∀ q ∈ ablk A2, w.heap.size ≤ q ∧ q < wq.heap.size ∧ q ≠ g0) ∧ out2.length ≤ 100 ∧ Ext w wq ∧ At wq g0 34 #[.int .i64 m.kind, .int .i64 m.sym, .int .i64 m.seq, .int .i64 m.tick, .int .i64 m.id, .int .i64 m.wth, .int .i64 m.price, .int .i64 m.qty, .int .i64 m.code] ∧ fillB out (p + 1) m.seq = fillB out2 N m.seq) (fun _ n _ => (m.seq - intOf n).toNat)
          case atStart => exact ⟨p + 1, out, A1, c1, by go_num, by omega, by omega, rfl, R3, hO1, hol, x3w, hM3, rfl⟩
          case round =>
            obtain ⟨N, out2, A2, c2, rfl, hN1, hN2, rfl, R2, F2, hl2, hx2, hM2, hfl⟩ := hrel
            have e2 := cellsAt_at hM2
            have s2 := hM2.lt
            by_cases hlt2 : N < m.seq
            · by_cases hful : out2.length = 100
              · have hres : gapsL l = out2 := by rw [HG.out, hfl, fill_stop (by omega), gaps_full _ _ _ (by omega)]
                have HR := Lib.hid hres
                have h100 : ((out2.length : Int) == 100) = true := by simp; omega
                have HFUL := Lib.hid hful
                clear hful hres hfl
                go_wp2_with fail
                try rw [Exit.noGoto_ret]
                first | refine fin_ret rfl (fun K hK => ?_) | refine fin_norm rfl (fun K hK => ?_)
                simp [results, Try.results8, go_sem, rsat]
                try go_simp
                refine hK _ ?_
                clear hK K
                rw [HR.out]
                exact ⟨hx2, _, rfl, A2, c2, rfl, R2, fun q hq => ⟨(F2 q hq).1, (F2 q hq).2.1⟩⟩
              · have hfg := fill_go (out := out2) (n := N) (m := m.seq) ⟨hlt2, by omega⟩
                rw [hfg] at hfl
                have HFL := Lib.hid hfl
                have h100 : ((out2.length : Int) == 100) = false := beq_eq_false_iff_ne.2 (by omega)
                have hnw : wrap64 (N + 1) = N + 1 := wrap64_in ⟨by omega, by omega⟩
                clear hfl hfg
                go_wp2_with (at_builtin; refine wpList_rowapp rfl _ _ 25 2 1 8 (.int .i64 0) rfl Try.underlying25 i64Info rfl (by decide) _ A2 out2.length c2 (longs out2) rfl R2 [.int .i64 N] rfl rfl rfl (by unfold maxLen; omega) (by omega) ?_)
                intro D3 f3 z3 S3 hC3 hf3
                obtain ⟨⟨A5, c5, h5, R5, F5⟩, y3⟩ := OwnI.app (ns := [N]) hx2 (fun q hq => ⟨(F2 q hq).1, (F2 q hq).2.1⟩) ((Ext.refl wr).alloc _) hC3 S3 hf3
                have hM3' := hC3.at (hM2.alloc (.cells #[.int .i64 N] 2)) (fun hm => (F2 _ hm).2.2 rfl)
                injection h5 with h5 h6 h7
                subst h5 h7
                go_wp2_with fail
                go_roundw
                case rel =>
                  refine ⟨N + 1, out2 ++ [N], D3, f3, by go_num, by omega, by omega, by simp, R5, fun q hq => ⟨(F5 q hq).1, (F5 q hq).2, ?_⟩, by simp; omega, y3, hM3', HFL.out⟩
                  rcases hf3 q hq with h1 | h1
                  · exact (F2 q h1).2.2
                  · omega
                case measure => simp [intOf]; omega
            · have hres : fillB out (p + 1) m.seq = out2 := by rw [hfl, fill_stop (by omega)]
              have HR := Lib.hid hres
              clear hres hfl
              go_wp2_with fail
              go_roundw
              case rel => exact ⟨j + 1 + 1, out2, by go_num, by omega, ⟨A2, c2, rfl, R2, fun q hq => ⟨(F2 q hq).1, (F2 q hq).2.1⟩⟩, hl2, hx2, .inr ⟨⟨by omega, by omega⟩, by rw [HG.out, HR.out]; simp only [Nat.add_sub_cancel]; rw [HM.out]⟩⟩
              case measure => simp [intOf]; omega
    · obtain rfl : k = l.length := by omega
      have hfin : gapsL l = out := by
        rcases hg with ⟨h1, h2⟩ | ⟨h1, h2⟩
        · have : l = [] := List.eq_nil_of_length_eq_zero h1
          rw [this, h2]
          rfl
        · rw [h2, List.drop_length, gapsG]
      have HF := Lib.hid hfin
      clear hfin
      go_wp2_with fail
      try rw [Exit.noGoto_ret]
      first | refine fin_ret rfl (fun K hK => ?_) | refine fin_norm rfl (fun K hK => ?_)
      simp [results, Try.results8, go_sem, rsat]
      try go_simp
      refine hK _ ?_
      clear hK K
      rw [HF.out]
      exact ⟨hx, _, rfl, A1, c1, rfl, R1, F1⟩
end Go.Proofs.Ythophidcgkjdeaa
