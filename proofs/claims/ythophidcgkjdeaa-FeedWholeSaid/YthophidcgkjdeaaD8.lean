/- Law FeedWhole. No condition. -/
import Derived.Test.YthophidcgkjdeaaDB
namespace Go.Proofs.Ythophidcgkjdeaa
open Go.RowKit
attribute [local go_sem] Later.cell QUpon_value QUpon_enter MUpon_value run_eql_slice_nil Same.cell
attribute [local go_sem ↓ high] loadMsg_is storeMsg_is
attribute [local go_sem] run_loadMsg run_loadMsg_at run_storeMsg one_int one_bool one_slice one_ptr one_str setRow_new setRow_past cell_ca frozen_ca cellsAt_alloc_at cellsAt_alloc_past cellsAt_drew cellsAt_later cellsAt_setCell cellsAt_set_same cellsAt_setRow_same cellsAt_setRow_far subAt_alloc subAt_drew subAt_later subAt_setCell subAt_setRow ltn_2 ltn_3 ltn_4 ltn_5
theorem gapsG_none : ∀ (l : List Mg) (p : Int), (∀ i (hi : i < l.length), l[i].seq = p + 1 + i) → gapsG [] p l = []
  | [], _, _ => rfl
  | m :: l, p, h => by
    have h0 := h 0 (by simp)
    simp only [List.getElem_cons_zero] at h0
    show gapsG (fillB [] (p + 1) m.seq) m.seq l = []
    rw [fill_stop (by omega)]
    refine gapsG_none l m.seq (fun i hi => ?_)
    have := h (i + 1) (by simp; omega)
    simp only [List.getElem_cons_succ] at this
    rw [this, h0]
    omega
theorem gaps_none {tick : Int} {l : List Mg} (h : Num tick l) : gapsL l = [] := by
  cases l with
  | nil => rfl
  | cons m l =>
    refine gapsG_none l m.seq (fun i hi => ?_)
    have h0 := h.seq 0 (by simp)
    have := h.seq (i + 1) (by simp; omega)
    simp only [List.getElem_cons_zero] at h0
    simp only [List.getElem_cons_succ] at this
    rw [this, h0]
    omega
theorem num_str {tick : Int} {l : List Mg} (h : Num tick l) (k : Nat) : (strM (l.drop k)).1 = stream ((l.drop k).map formB) ∧ allM (stream ((l.drop k).map formB)) = (l.drop k, 0) := by
  have hr : (l.drop k).all rightB = true := List.all_eq_true.2 fun x hx => List.all_eq_true.1 h.right x (List.mem_of_mem_drop hx)
  refine ⟨by unfold strM; rw [if_pos hr], all_back (fun m hm => h.ok m (List.mem_of_mem_drop hm)) hr⟩
/-- One feed. -/
structure OneF (w0 w : World) (ga : Nat) (Aa : Option Addr) (l : List Mg) : Prop where
  ext : Ext w0 w
  a : FdP w ga Aa l
  ga_ : w0.heap.size ≤ ga
  fa : ∀ j ∈ ablk Aa, w0.heap.size ≤ j
theorem OneF.extR {w0 w w' : World} {ga : Nat} {Aa : Option Addr} {l : List Mg} (h : OneF w0 w ga Aa l) (hx : Ext w w') : OneF w0 w' ga Aa l := ⟨h.ext.trans hx, h.a.ext hx, h.ga_, h.fa⟩
theorem OneF.step {w0 w w' : World} {ga : Nat} {Aa A' : Option Addr} {l l' : List Mg} (h : OneF w0 w ga Aa l) (hW : FdP w' ga A' l') (hC : Chg w w' (ga :: ablk Aa)) (hf : ∀ k ∈ ablk A', k ∈ ablk Aa ∨ w.heap.size ≤ k) : OneF w0 w' ga A' l' :=
  ⟨hC.extOfV h.ext (fun i hi => by rcases List.mem_cons.1 hi with rfl | h1; exact h.ga_; exact h.fa i h1), hW, h.ga_, fun j hj => by
    rcases hf j hj with h1 | h1
    · exact h.fa j h1
    · exact Nat.le_trans h.ext.size h1⟩
structure FedW (w0 w : World) (ga : Nat) (tick : Int) (k : Nat) (acc : List Mg) : Prop where
  ex : ∃ Aa, OneF w0 w ga Aa acc
  num : Num tick acc
  len : acc.length ≤ k
set_option maxHeartbeats 4000000 in
set_option maxRecDepth 100000 in
theorem feedwhole_c (x : Mgs) (seq : Int) (iq : I64 seq) (w : World) (h : x.At w) : Calls Try.prog 5 #[x.v, .int .i64 seq] w fun e w' => e = .returned (.bool true) ∧ Ext w w' := by
  obtain ⟨A, c, l⟩ := x
  obtain ⟨hL, hO⟩ := h
  simp only at hL hO
  simp only [Mgs.v]
  have hlm : l.length ≤ 9223372036854775807 := by have := hL.le; have := hL.max; unfold maxLen at this; omega
  have i9 : I64 9 := ⟨by decide, by decide⟩
  have i0 : I64 0 := ⟨by decide, by decide⟩
  by_cases hl : 60 < l.length
  ·
    go_enter Try.func5, Try.ntmps5
    go_wp2_with fail
    refine (alive_c26 _).mono ?_
    rintro e w1 ⟨rfl, hx1⟩
    go_wp2_with fail
    first | refine fin_ret rfl (fun K hK => ?_) | refine fin_norm rfl (fun K hK => ?_)
    simp [results, Try.results5, go_sem, rsat]
    try go_simp
    refine hK _ ?_
    clear hK K
    exact ⟨rfl, hx1⟩
  go_enter Try.func5, Try.ntmps5
  go_wp2_with fail
  refine (fnew_c _).mono ?_
  rintro e w2 ⟨rfl, hw2⟩
  have D0 : OneF w w2 w.heap.size none [] := by
    rw [hw2]
    exact ⟨(Ext.refl _).alloc _, ⟨by simp [ablk], 0, At.new _ _ _, Row.nil _ _ _ _⟩, Nat.le_refl _, by simp [ablk]⟩
  have hga0 := D0.ga_
  clear hw2
  generalize hga : w.heap.size = ga at D0 hga0 ⊢
  clear hga
  go_wp2_with fail
  go_loopw [6, 7] (fun s i wr => ∃ k : Nat, i = .int .i64 k ∧ s = .int .i64 ((putAll 9 (l.take k)).length : Nat) ∧ k ≤ l.length ∧ FedW w wr ga 9 k (putAll 9 (l.take k))) (fun _ i _ => l.length - (intOf i).toNat)
  case atStart => exact ⟨0, rfl, rfl, Nat.zero_le _, ⟨none, D0⟩, Num.nil _, Nat.zero_le _⟩
  case round =>
    clear D0
    obtain ⟨k, rfl, rfl, hk, HF⟩ := hrel
    obtain ⟨Aa, D⟩ := HF.ex
    by_cases hk1 : k < l.length
    · obtain ⟨b, off, hA', hbw, e9, _⟩ := hL.msg k hk1
      have hst := putAll_take (tick := 9) hk1
      have hm := hO l[k] (List.getElem_mem hk1)
      generalize l[k] = m at *
      subst hA'
      have hacc := HF.len
      obtain ⟨hN, hNl⟩ := HF.num.step (m := m) i9 hm (by omega)
      have er := (subAt_ext D.ext hbw).trans e9
      have C1 := feput_c ga Aa _ 9 m (by omega) wr D.a
      have hor : putAll 9 (l.take (k + 1)) = putAll 9 (l.take k) ∨ (putAll 9 (l.take (k + 1))).length = (putAll 9 (l.take k)).length + 1 := by
        rw [hst]; unfold putStep; split
        · exact .inr (by simp)
        · exact .inl rfl
      rw [← hst] at C1 hN hNl
      have HC1 := Lib.hid C1
      have hbr := Nat.lt_of_lt_of_le hbw D.ext.size
      clear C1 hst
      generalize putAll 9 (l.take k) = acc at *
      generalize hac : putAll 9 (l.take (k + 1)) = acc' at *
      have HAC := Lib.hid hac
      clear hac
      go_wp2_with fail
      refine HC1.out.mono ?_
      rintro e w4 ⟨⟨v4, f4, rfl, hv1, hv2, hv3⟩, A4, F4, C4, f4'⟩
      have D4 := D.step F4 C4 f4'
      by_cases hf : f4 = 0
      · have hl1 := hv3.1 hf
        subst hf
        have hw1 : wrap64 ((acc.length : Nat) + 1) = (acc'.length : Nat) := by rw [wrap64_in ⟨by omega, by omega⟩, hl1]; simp
        have HW1 := Lib.hid hw1
        have HL1 := Lib.hid hl1
        clear hv3 hw1 hl1 hor
        go_wp2_with fail
        go_roundw
        case rel => exact ⟨k + 1, by go_num, by rw [HAC.out, HL1.out]; go_num, by omega, by rw [HAC.out]; exact ⟨⟨A4, D4.extR ((Ext.refl _).alloc _)⟩, hN, by omega⟩⟩
        case measure => simp [intOf]; omega
      · have hfb : (f4 == 0) = false := beq_eq_false_iff_ne.2 hf
        have hl1 : ¬ acc'.length = acc.length + 1 := fun h => hf (hv3.2 h)
        have hsm : acc' = acc := hor.resolve_right hl1
        have HSM := Lib.hid hsm
        clear hv3 hf hl1 hsm hor
        go_wp2_with fail
        go_roundw
        case rel => exact ⟨k + 1, by go_num, by rw [HAC.out, HSM.out], by omega, by rw [HAC.out]; exact ⟨⟨A4, D4.extR ((Ext.refl _).alloc _)⟩, hN, by omega⟩⟩
        case measure => simp [intOf]; omega
    · obtain rfl : k = l.length := by omega
      have hN := HF.num
      have hlen := HF.len
      generalize putAll 9 (l.take l.length) = acc at *
      clear HF hL hO
      have C5 := fbytes_c ga Aa acc 0 i0 (by omega) hN.ok wr D.a
      have C6 := fbytes_c ga Aa acc seq iq (by omega) hN.ok
      obtain ⟨s1, s2⟩ := num_str hN (sN 0 acc.length)
      have s0 : acc.drop (sN 0 acc.length) = acc := by unfold sN; simp
      rw [s0] at s1 s2 C5
      have hbl := strM_len (l := acc) (by omega)
      have hby := strM_byt acc
      rw [s1] at C5 hbl hby
      obtain ⟨t1, t2⟩ := num_str hN (sN seq acc.length)
      have hbl2 := strM_len (l := acc.drop (sN seq acc.length)) (by rw [List.length_drop]; omega)
      have hby2 := strM_byt (acc.drop (sN seq acc.length))
      rw [t1] at hbl2 hby2
      generalize stream (acc.map formB) = bs at *
      generalize hb2 : stream ((acc.drop (sN seq acc.length)).map formB) = bs2 at *
      have HC5 := Lib.hid C5
      have HC6 := Lib.hid C6
      have HS2 := Lib.hid s2
      have HT1 := Lib.hid t1
      have HT2 := Lib.hid t2
      clear C5 C6 s1 s2 t1 t2 s0 hb2
      go_wp2_with fail
      refine HC5.out.mono ?_
      rintro e w4 ⟨hx4, v4, rfl, O4⟩
      obtain ⟨A4, c4, rfl, R4, n4⟩ := O4
      have C7 := mall_c A4 c4 bs hby (by omega) R4.le R4.max w4 R4.src (fun _ k hk => (n4 k hk).2)
      unfold AllM6 at C7
      rw [HS2.out] at C7
      simp only at C7
      have HC7 := Lib.hid C7
      clear C7
      go_wp2_with fail
      refine HC7.out.mono ?_
      rintro e w5 ⟨hx5, A5, c5, rfl, O5⟩
      have D5 := D.extR (hx4.trans hx5)
      have C8 := gaps_c A5 c5 acc (by omega) w5 O5.lies hN.ok
      rw [gaps_none hN] at C8
      have HC8 := Lib.hid C8
      clear C8 R4 n4
      go_wp2_with fail
      refine HC8.out.mono ?_
      rintro e w6 ⟨hx6, v6, rfl, O6⟩
      obtain ⟨A6, c6, rfl, _, _⟩ := O6
      have D6 := D5.extR hx6
      have O6 := O5.ext hx6
      simp only [List.length_nil, Int.natCast_zero]
      go_wp2_with fail
      have hal : acc.length ≤ 9223372036854775807 := by omega
      clear hbl hby
      go_loopw [12] (fun i wr => ∃ k : Nat, i = .int .i64 k ∧ k ≤ acc.length ∧ Ext w6 wr) (fun i _ => acc.length - (intOf i).toNat)
      case atStart => exact ⟨0, rfl, Nat.zero_le _, Ext.refl _⟩
      case round =>
        obtain ⟨k, rfl, hk, hx⟩ := hrel
        by_cases hk1 : k < acc.length
        · obtain ⟨b, off, hA', hbw, hc⟩ := (O6.ext hx).lies.cell (fun _ => rfl) (by decide) k hk1
          have q2 := hc 2 (by decide)
          have q3 := hc 3 (by decide)
          simp only [Mg.cells, List.getElem?_cons_zero, List.getElem?_cons_succ] at q2 q3
          rw [hN.seq k hk1] at q2
          rw [hN.tick _ (List.getElem_mem hk1)] at q3
          subst hA'
          have hwk : wrap64 ((k : Int) + 1) = (k : Int) + 1 := wrap64_in ⟨by omega, by omega⟩
          have hwk2 : IntKind.i64.wrap ((k : Int) + 1) = (k : Int) + 1 := by rw [IntWalk.i64_left]; exact hwk
          clear hc
          go_wp2_with fail
          go_roundw
          case rel => exact ⟨k + 1, by go_num, by omega, hx⟩
          case measure => simp [intOf]; omega
        · obtain rfl : k = acc.length := by omega
          have D7 := D6.extR hx
          have O7 := O6.ext hx
          go_wp2_with fail
          refine (HC6.out _ D7.a).mono ?_
          rintro e w8 ⟨hx8, v8, rfl, O8⟩
          rw [HT1.out] at O8
          obtain ⟨A8, c8, rfl, R8, n8⟩ := O8
          have C9 := mall_c A8 c8 bs2 hby2 (by omega) R8.le R8.max w8 R8.src (fun _ k hk => (n8 k hk).2)
          unfold AllM6 at C9
          rw [HT2.out] at C9
          simp only at C9
          have HC9 := Lib.hid C9
          clear C9
          go_wp2_with fail
          refine HC9.out.mono ?_
          rintro e w9 ⟨hx9, A9, c9, rfl, O9⟩
          have O9' := (O7.ext hx8).ext hx9
          have X9 := ((D7.ext).trans hx8).trans hx9
          obtain ⟨mm, hmm⟩ : ∃ mm, mm = sN seq acc.length := ⟨_, rfl⟩
          rw [← hmm] at O9 ⊢
          have hmle : mm ≤ acc.length := by rw [hmm]; unfold sN; omega
          have hmv : (seq < 0 ∧ mm = 0) ∨ (0 ≤ seq ∧ seq < acc.length ∧ seq = (mm : Int)) ∨ ((acc.length : Int) ≤ seq ∧ mm = acc.length) := by rw [hmm]; unfold sN; omega
          have hdl : (acc.drop mm).length = acc.length - mm := List.length_drop
          have hRd := O9'.row.dropN hmle
          rw [← flat_drop, ← hdl] at hRd
          have C10 := mlists_c A9 (cutA A5 c5 mm 9) c9 (c5 - mm) (acc.drop mm) w9 O9.lies ⟨hRd.le, hRd.max, hRd.src⟩
          rw [hdl] at C10 ⊢
          have hcl := O9'.row.le
          have hcm := O9'.row.max
          have hca := O9'.row.at_
          unfold maxLen at hcm
          have HC10 := Lib.hid C10
          clear C10 hmm hdl hRd O9 O9' O7 O6 D6 D7 D5 HC9 HC8 HC7 HC6 HC5
          by_cases hcn : c5 - mm = 0
          · have ec : cutA A5 c5 mm 9 = A5 := if_pos hcn
            rw [ec] at HC10
            clear ec hca
            rcases hmv with ⟨h1, rfl⟩ | ⟨h1, h2, rfl⟩ | ⟨h1, rfl⟩
            · rw [hcn, Nat.sub_zero] at HC10
              go_wp2_with fail
              refine (HC10.out).mono ?_
              rintro e w10 ⟨rfl, hx10⟩
              go_wp2_with fail
              refine (alive_c26 _).mono ?_
              rintro e w11 ⟨rfl, hx11⟩
              go_wp2_with fail
              first | refine fin_ret rfl (fun K hK => ?_) | refine fin_norm rfl (fun K hK => ?_)
              simp [results, Try.results5, go_sem, rsat]
              try go_simp
              refine hK _ ?_
              clear hK K
              exact ⟨rfl, (X9.trans hx10).trans hx11⟩
            · exfalso; omega
            · rw [hcn, Nat.sub_self] at HC10
              rcases Int.lt_trichotomy seq (acc.length : Int) with h2 | h2 | h2
              · exfalso; omega
              · subst h2
                go_wp2_with fail
                refine (HC10.out).mono ?_
                rintro e w10 ⟨rfl, hx10⟩
                go_wp2_with fail
                refine (alive_c26 _).mono ?_
                rintro e w11 ⟨rfl, hx11⟩
                go_wp2_with fail
                first | refine fin_ret rfl (fun K hK => ?_) | refine fin_norm rfl (fun K hK => ?_)
                simp [results, Try.results5, go_sem, rsat]
                try go_simp
                refine hK _ ?_
                clear hK K
                exact ⟨rfl, (X9.trans hx10).trans hx11⟩
              · clear h1
                go_wp2_with fail
                refine (HC10.out).mono ?_
                rintro e w10 ⟨rfl, hx10⟩
                go_wp2_with fail
                refine (alive_c26 _).mono ?_
                rintro e w11 ⟨rfl, hx11⟩
                go_wp2_with fail
                first | refine fin_ret rfl (fun K hK => ?_) | refine fin_norm rfl (fun K hK => ?_)
                simp [results, Try.results5, go_sem, rsat]
                try go_simp
                refine hK _ ?_
                clear hK K
                exact ⟨rfl, (X9.trans hx10).trans hx11⟩
          · obtain ⟨b, off, cur, rfl, _, _, _⟩ := hca (by omega)
            have ec : cutA (some ⟨b, off, none⟩) c5 mm 9 = some ⟨b, off + mm * 9, none⟩ := by unfold cutA; rw [if_neg hcn]; simp [Addr.add_lit]
            rw [ec] at HC10
            clear ec hca
            rcases hmv with ⟨h1, rfl⟩ | ⟨h1, h2, rfl⟩ | ⟨h1, rfl⟩
            · rw [Nat.sub_zero, Nat.sub_zero, Nat.zero_mul, Nat.add_zero] at HC10
              go_wp2_with fail
              refine (HC10.out).mono ?_
              rintro e w10 ⟨rfl, hx10⟩
              go_wp2_with fail
              refine (alive_c26 _).mono ?_
              rintro e w11 ⟨rfl, hx11⟩
              go_wp2_with fail
              first | refine fin_ret rfl (fun K hK => ?_) | refine fin_norm rfl (fun K hK => ?_)
              simp [results, Try.results5, go_sem, rsat]
              try go_simp
              refine hK _ ?_
              clear hK K
              exact ⟨rfl, (X9.trans hx10).trans hx11⟩
            · clear h1
              go_wp2_with fail
              refine (HC10.out).mono ?_
              rintro e w10 ⟨rfl, hx10⟩
              go_wp2_with fail
              refine (alive_c26 _).mono ?_
              rintro e w11 ⟨rfl, hx11⟩
              go_wp2_with fail
              first | refine fin_ret rfl (fun K hK => ?_) | refine fin_norm rfl (fun K hK => ?_)
              simp [results, Try.results5, go_sem, rsat]
              try go_simp
              refine hK _ ?_
              clear hK K
              exact ⟨rfl, (X9.trans hx10).trans hx11⟩
            · rw [Nat.sub_self] at HC10
              rcases Int.lt_trichotomy seq (acc.length : Int) with h2 | h2 | h2
              · exfalso; omega
              · subst h2
                go_wp2_with fail
                refine (HC10.out).mono ?_
                rintro e w10 ⟨rfl, hx10⟩
                go_wp2_with fail
                refine (alive_c26 _).mono ?_
                rintro e w11 ⟨rfl, hx11⟩
                go_wp2_with fail
                first | refine fin_ret rfl (fun K hK => ?_) | refine fin_norm rfl (fun K hK => ?_)
                simp [results, Try.results5, go_sem, rsat]
                try go_simp
                refine hK _ ?_
                clear hK K
                exact ⟨rfl, (X9.trans hx10).trans hx11⟩
              · clear h1
                go_wp2_with fail
                refine (HC10.out).mono ?_
                rintro e w10 ⟨rfl, hx10⟩
                go_wp2_with fail
                refine (alive_c26 _).mono ?_
                rintro e w11 ⟨rfl, hx11⟩
                go_wp2_with fail
                first | refine fin_ret rfl (fun K hK => ?_) | refine fin_norm rfl (fun K hK => ?_)
                simp [results, Try.results5, go_sem, rsat]
                try go_simp
                refine hK _ ?_
                clear hK K
                exact ⟨rfl, (X9.trans hx10).trans hx11⟩
end Go.Proofs.Ythophidcgkjdeaa
