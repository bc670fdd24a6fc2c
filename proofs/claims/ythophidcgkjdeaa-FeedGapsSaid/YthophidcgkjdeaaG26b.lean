/- Gaps (layer 26), by the document; law FeedGaps. No condition. -/
import Derived.Test.YthophidcgkjdeaaG26
namespace Go.Proofs.Ythophidcgkjdeaa
open Go.RowKit
attribute [local go_sem] Later.cell QUpon_value QUpon_enter MUpon_value run_eql_slice_nil Same.cell
attribute [local go_sem ↓ high] loadMsg_is storeMsg_is
attribute [local go_sem] run_loadMsg run_loadMsg_at run_storeMsg one_int one_bool one_slice one_ptr one_str setRow_new setRow_past cell_ca frozen_ca cellsAt_alloc_at cellsAt_alloc_past cellsAt_drew cellsAt_later cellsAt_setCell cellsAt_set_same cellsAt_setRow_same cellsAt_setRow_far subAt_alloc subAt_drew subAt_later subAt_setCell subAt_setRow ltn_2 ltn_3 ltn_4 ltn_5
set_option maxHeartbeats 1000000 in
set_option maxRecDepth 100000 in
theorem rgaps_c (A : Option Addr) (c : Nat) (l : List Mg) (hl : l.length ≤ 60) (w : World) (hL : Lies Mg.cells 9 w A c l) (hok : ∀ m ∈ l, m.Ok) :
    Calls Try.prog 9 #[.slice A l.length c] w fun e w' => Ext w w' ∧ ∃ v, e = .returned v ∧ OwnI w w' v (gapsL l) := by
  go_enter Try.func9, Try.ntmps9
  go_wp2_with fail
  go_loopw [3, 4, 5] (fun v i n wr => ∃ (k : Nat) (out : List Int), i = .int .i64 ((k : Int) + 1) ∧ OwnI w wr v out ∧ out.length ≤ 100 ∧ Ext w wr ∧ ((k = 0 ∧ l = [] ∧ out = []) ∨ ∃ h : k < l.length, gapsL l = gapsG out l[k].seq (l.drop (k + 1)))) (fun _ i _ _ => l.length - (intOf i).toNat)
  case atStart =>
    refine ⟨0, [], by go_num, OwnI.nil _ _, by decide, Ext.refl _, ?_⟩
    match l with
    | [] => exact .inl ⟨rfl, rfl, rfl⟩
    | m :: l => exact .inr ⟨by simp, rfl⟩
  case round =>
    obtain ⟨k, out, rfl, ⟨A1, c1, rfl, R1, F1⟩, hol, hx, hg⟩ := hrel
    by_cases hlt : k + 1 < l.length
    · rcases hg with ⟨_, h, _⟩ | ⟨hk, hg⟩
      · rw [h] at hlt; simp at hlt
      obtain ⟨b, off, rfl, hb, hs, hq⟩ := hL.msg (k + 1) hlt
      obtain ⟨b', off', hA', _, hs0, hq0⟩ := hL.msg k hk
      injection hA' with hA'
      injection hA' with hA1 hA2
      subst hA1 hA2
      have hbr : b < wr.heap.size := Nat.lt_of_lt_of_le hb hx.size
      have hq1 := (hx.facts.1 _ _ hb).trans hq0
      have hmk1 := (hok l[k + 1] (List.getElem_mem _)).seq
      have hpk := (hok l[k] (List.getElem_mem _)).seq
      have hd := List.drop_eq_getElem_cons hlt
      rw [hd, gapsG] at hg
      generalize hm : l[k + 1] = m at hq hg hmk1
      generalize l[k].seq = p at hq1 hpk hg
      have HG := Lib.hid hg
      have HM := Lib.hid hm
      generalize hms : m.seq = s at hq HG hmk1
      have HMS := Lib.hid hms
      clear hms hg hm hd hs hs0 hq0
      unfold I64 at hpk hmk1
      have hjw : IntKind.i64.wrap (k : Int) = (k : Int) := by rw [IntWalk.i64_left, wrap64_in ⟨by omega, by omega⟩]
      have hjr : (0 : Int) ≤ (k : Int) ∧ (k : Int) < (l.length : Int) := by omega
      go_wp2_with fail
      go_loopw [3, 5] (fun v n wq => ∃ (N : Int) (out2 : List Int) (A2 : Option Addr) (c2 : Nat), n = .int .i64 N ∧ p ≤ N ∧ N ≤ 9223372036854775807 ∧ v = .slice A2 out2.length c2 ∧ Row wq 2 1 A2 out2.length c2 (longs out2) ∧ (∀ q ∈ ablk A2, w.heap.size ≤ q ∧ q < wq.heap.size) ∧ out2.length ≤ 100 ∧ Ext w wq ∧ fillB out (p + 1) s = fillB out2 (N + 1) s) (fun _ n _ => (s - intOf n).toNat)
      case atStart => exact ⟨p, out, A1, c1, rfl, by omega, hpk.2, rfl, R1, F1, hol, hx, rfl⟩
      case round =>
        obtain ⟨N, out2, A2, c2, rfl, hN1, hN2, rfl, R2, F2, hl2, hx2, hfl⟩ := hrel
        have hq2 := (hx2.facts.1 _ _ hb).trans hq
        have hkw : IntKind.i64.wrap ((k : Int) + 1) = (k : Int) + 1 := by rw [IntWalk.i64_left, wrap64_in ⟨by omega, by omega⟩]
        by_cases hful : out2.length < 100
        · by_cases hn1 : N < s
          · by_cases hn2 : N + 1 < s
            · have hfg := fill_go (out := out2) (n := N + 1) (m := s) ⟨hn2, hful⟩
              rw [hfg] at hfl
              have HFL := Lib.hid hfl
              have hnw : wrap64 (N + 1) = N + 1 := wrap64_in ⟨by omega, by omega⟩
              clear hfl hfg
              go_wp2_with (at_builtin; refine wpList_rowapp rfl _ _ 25 2 1 8 (.int .i64 0) rfl Try.underlying25 i64Info rfl (by decide) _ A2 out2.length c2 (longs out2) rfl R2 [.int .i64 (N + 1)] rfl rfl rfl (by unfold maxLen; omega) (by omega) ?_)
              intro D3 f3 z3 S3 hC3 hf3
              obtain ⟨⟨A5, c5, h5, R5, F5⟩, y3⟩ := OwnI.app (ns := [N + 1]) hx2 F2 ((Ext.refl wr).alloc _) hC3 S3 hf3
              injection h5 with h5 h6 h7
              subst h5 h7
              go_wp2_with fail
              go_roundw
              case rel => exact ⟨N + 1, out2 ++ [N + 1], D3, f3, by go_num, by omega, by omega, by simp, R5, F5, by simp; omega, y3, HFL.out⟩
              case measure => simp [intOf]; omega
            · have hres : fillB out (p + 1) s = out2 := by rw [hfl, fill_stop (by omega)]
              have HR := Lib.hid hres
              have hnw : wrap64 (N + 1) = N + 1 := wrap64_in ⟨by omega, by omega⟩
              clear hres hfl
              go_wp2_with fail
              go_roundw
              case rel => exact ⟨k + 1, out2, by go_num, ⟨A2, c2, rfl, R2, F2⟩, hl2, hx2, .inr ⟨hlt, by rw [HG.out, HR.out, HM.out, HMS.out]⟩⟩
              case measure => simp [intOf]; omega
          · have hres : fillB out (p + 1) s = out2 := by rw [hfl, fill_stop (by omega)]
            have HR := Lib.hid hres
            clear hres hfl
            go_wp2_with fail
            go_roundw
            case rel => exact ⟨k + 1, out2, by go_num, ⟨A2, c2, rfl, R2, F2⟩, hl2, hx2, .inr ⟨hlt, by rw [HG.out, HR.out, HM.out, HMS.out]⟩⟩
            case measure => simp [intOf]; omega
        · have hres : fillB out (p + 1) s = out2 := by rw [hfl, fill_stop (by omega)]
          have HR := Lib.hid hres
          clear hres hfl
          go_wp2_with fail
          go_roundw
          case rel => exact ⟨k + 1, out2, by go_num, ⟨A2, c2, rfl, R2, F2⟩, hl2, hx2, .inr ⟨hlt, by rw [HG.out, HR.out, HM.out, HMS.out]⟩⟩
          case measure => simp [intOf]; omega
    · have hfin : gapsL l = out := by
        rcases hg with ⟨h1, h2, h3⟩ | ⟨h1, h2⟩
        · rw [h2, h3]
          rfl
        · rw [h2, List.drop_eq_nil_of_le (by omega), gapsG]
      have HF := Lib.hid hfin
      clear hfin
      go_wp2_with fail
      first | refine fin_ret rfl (fun K hK => ?_) | refine fin_norm rfl (fun K hK => ?_)
      simp [results, Try.results9, go_sem, rsat]
      try go_simp
      refine hK _ ?_
      clear hK K
      rw [HF.out]
      exact ⟨hx, _, rfl, A1, c1, rfl, R1, F1⟩
end Go.Proofs.Ythophidcgkjdeaa
