/- Law WindowBetween. No condition. -/
import Derived.Test.YtgjaiikfgejgoaaV7
import Derived.Test.YtgjaiikfgejgoaaFq
namespace Go.Proofs.Ytgjaiikfgejgoaa
open Go.RowKit
attribute [local go_sem] Later.cell QUpon_value QUpon_enter MUpon_value
theorem Chg.extOf8 {w0 a b : World} {m : List Nat} (h : Chg a b m) (hx : Ext w0 a) (hm : ∀ i ∈ m, w0.heap.size ≤ i) : Ext w0 b := (Chg.step (Chg.of_ext hx []) h (fun i hi => .inr (hm i hi))).ext (by simp)
theorem mean_cons {grid : Int} {l : List Tr} (h : l ≠ []) : meanR grid l = .tuple #[.int .i64 (meanV grid l), .bool true] := by
  cases l with
  | nil => exact absurd rfl h
  | cons x l => rfl
theorem addB_yes {last t p q : Int} (h1 : last ≤ t) (h2 : 0 ≤ t) (h3 : t ≤ 1152921504606846976) (hp : 1 ≤ p ∧ p ≤ 1099511627776) (hq : 1 ≤ q ∧ q ≤ 4294967296) : addB last t p q = true := by
  unfold addB comesB
  rw [pricedB_one, decide_eq_true ⟨h1, h2, h3⟩, decide_eq_true hp, decide_eq_true ((qtyI_iff q).2 hq)]
  rfl
theorem comes_yes {last t : Int} (h1 : last ≤ t) (h2 : 0 ≤ t) (h3 : t ≤ 1152921504606846976) : comesB last t = true := by
  unfold comesB
  exact decide_eq_true ⟨h1, h2, h3⟩
theorem newB_yes {span grid : Int} (hs : 1 ≤ span ∧ span ≤ 1099511627776) (hg : 1 ≤ grid ∧ grid ≤ 1099511627776) : newB span grid grid = true := by
  unfold newB pricedB
  rw [decide_eq_true ⟨hs.1, hs.2, hg.2⟩, decide_eq_true ((priceI_iff _ _).2 ⟨hg.1, hg.1, hg.2, by rw [Int.ediv_self (by omega), Int.one_mul]⟩)]
  rfl
/-- Two windows side by side. -/
structure Two (w wr : World) (ga gb : Nat) (Aa Ab : Option Addr) (span grid la lb : Int) (l m : List Tr) : Prop where
  ext : Ext w wr
  a : Win wr ga Aa span grid grid la l
  b : Win wr gb Ab span grid grid lb m
  ga_ : w.heap.size ≤ ga
  gb_ : w.heap.size ≤ gb
  ne : ga ≠ gb
  fa : ∀ j ∈ ablk Aa, w.heap.size ≤ j ∧ j ≠ gb ∧ j ∉ ablk Ab
  fb : ∀ j ∈ ablk Ab, w.heap.size ≤ j ∧ j ≠ ga ∧ j ∉ ablk Aa
theorem Two.adda {w wr w' : World} {ga gb : Nat} {Aa Ab A' : Option Addr} {span grid la lb la' : Int} {l l' m : List Tr} (h : Two w wr ga gb Aa Ab span grid la lb l m) (hW : Win w' ga A' span grid grid la' l') (hC : Chg wr w' (ga :: ablk Aa)) (hf : ∀ k ∈ ablk A', k ∈ ablk Aa ∨ wr.heap.size ≤ k) : Two w w' ga gb A' Ab span grid la' lb l' m := by
  have gbl : gb < wr.heap.size := h.b.ex.choose_spec.1.lt
  refine ⟨hC.extOf8 h.ext (fun i hi => by rcases List.mem_cons.1 hi with rfl | h1; exact h.ga_; exact (h.fa i h1).1), hW, h.b.chg hC (fun hm => ?_) (fun k hk hm => ?_), h.ga_, h.gb_, h.ne, fun j hj => ?_, fun j hj => ⟨(h.fb j hj).1, (h.fb j hj).2.1, fun h1 => ?_⟩⟩
  · rcases List.mem_cons.1 hm with h1 | h1
    · exact h.ne h1.symm
    · exact (h.fa _ h1).2.1 rfl
  · rcases List.mem_cons.1 hm with h1 | h1
    · exact (h.fb k hk).2.1 h1
    · exact (h.fb k hk).2.2 h1
  · rcases hf j hj with h1 | h1
    · exact h.fa j h1
    · exact ⟨Nat.le_trans h.ext.size h1, by omega, fun h2 => by have := (h.b.alt j h2).1; omega⟩
  · rcases hf j h1 with h2 | h2
    · exact (h.fb j hj).2.2 h2
    · have := (h.b.alt j hj).1; omega
theorem Two.swap {w wr : World} {ga gb : Nat} {Aa Ab : Option Addr} {span grid la lb : Int} {l m : List Tr} (h : Two w wr ga gb Aa Ab span grid la lb l m) : Two w wr gb ga Ab Aa span grid lb la m l := ⟨h.ext, h.b, h.a, h.gb_, h.ga_, h.ne.symm, h.fb, h.fa⟩
theorem Two.extR {w wr w' : World} {ga gb : Nat} {Aa Ab : Option Addr} {span grid la lb : Int} {l m : List Tr} (h : Two w wr ga gb Aa Ab span grid la lb l m) (hx : Ext wr w') : Two w w' ga gb Aa Ab span grid la lb l m := ⟨h.ext.trans hx, h.a.ext hx, h.b.ext hx, h.ga_, h.gb_, h.ne, h.fa, h.fb⟩
theorem Two.mean {w wr w' : World} {ga gb : Nat} {Aa Ab A' : Option Addr} {span grid la lb la' : Int} {l l' m : List Tr} (h : Two w wr ga gb Aa Ab span grid la lb l m) (hA : ablk A' = ablk Aa) (hW : Win w' ga A' span grid grid la' l') (hC : Chg wr w' [ga]) : Two w w' ga gb A' Ab span grid la' lb l' m :=
  h.adda hW (hC.mono (fun k _ hk => by simp at hk; simp [hk])) (fun k hk => .inl (by rw [hA] at hk; exact hk))
set_option maxHeartbeats 16000000 in
set_option maxRecDepth 100000 in
theorem windowbetween_c (span grid : Int) (A : Option Addr) (c : Nat) (ps : List Int) (q gap : Int) (iS : I64 span) (iG : I64 grid) (iQ : I64 q) (iP : I64 gap) (w : World) (h : (⟨A, c, ps⟩ : Sl).At .i64 w) :
    Calls Try.prog 3 #[.int .i64 span, .int .i64 grid, .slice A ps.length c, .int .i64 q, .int .i64 gap] w fun e w' => e = .returned (.bool true) ∧ Ext w w' := by
  have hlm : ps.length ≤ 9223372036854775807 := by have := h.le; have := h.max; unfold maxLen at this; simp only at *; omega
  have HA := Lib.hid alive_c
  by_cases k0 : ps.length = 0
  · have kb : ((ps.length : Int) == 0) = true := by simp [k0]
    clear k0
    clear h
    go_enter Try.func3, Try.ntmps3
    go_wp2_with fail
    refine (HA.out _).mono ?_
    rintro e w1 ⟨rfl, hx1⟩
    go_wp2_with fail
    first | refine fin_ret rfl (fun K hK => ?_) | refine fin_norm rfl (fun K hK => ?_)
    simp [results, Try.results3, go_sem, rsat]
    try go_simp
    refine hK _ ?_
    clear hK K
    exact ⟨rfl, hx1⟩
  have kb : ((ps.length : Int) == 0) = false := beq_eq_false_iff_ne.2 (by omega)
  by_cases k1 : 30 < ps.length
  · have kc : (30 : Int) < (ps.length : Int) := by omega
    clear h
    go_enter Try.func3, Try.ntmps3
    go_wp2_with fail
    refine (HA.out _).mono ?_
    rintro e w1 ⟨rfl, hx1⟩
    go_wp2_with fail
    first | refine fin_ret rfl (fun K hK => ?_) | refine fin_norm rfl (fun K hK => ?_)
    simp [results, Try.results3, go_sem, rsat]
    try go_simp
    refine hK _ ?_
    clear hK K
    exact ⟨rfl, hx1⟩
  have kc : ¬ (30 : Int) < (ps.length : Int) := by omega
  by_cases k2 : span < 1
  · skip
    clear h
    go_enter Try.func3, Try.ntmps3
    go_wp2_with fail
    refine (HA.out _).mono ?_
    rintro e w1 ⟨rfl, hx1⟩
    go_wp2_with fail
    first | refine fin_ret rfl (fun K hK => ?_) | refine fin_norm rfl (fun K hK => ?_)
    simp [results, Try.results3, go_sem, rsat]
    try go_simp
    refine hK _ ?_
    clear hK K
    exact ⟨rfl, hx1⟩
  by_cases k3 : 1099511627776 < span
  · skip
    clear h
    go_enter Try.func3, Try.ntmps3
    go_wp2_with fail
    refine (HA.out _).mono ?_
    rintro e w1 ⟨rfl, hx1⟩
    go_wp2_with fail
    first | refine fin_ret rfl (fun K hK => ?_) | refine fin_norm rfl (fun K hK => ?_)
    simp [results, Try.results3, go_sem, rsat]
    try go_simp
    refine hK _ ?_
    clear hK K
    exact ⟨rfl, hx1⟩
  by_cases k4 : grid < 1
  · skip
    clear h
    go_enter Try.func3, Try.ntmps3
    go_wp2_with fail
    refine (HA.out _).mono ?_
    rintro e w1 ⟨rfl, hx1⟩
    go_wp2_with fail
    first | refine fin_ret rfl (fun K hK => ?_) | refine fin_norm rfl (fun K hK => ?_)
    simp [results, Try.results3, go_sem, rsat]
    try go_simp
    refine hK _ ?_
    clear hK K
    exact ⟨rfl, hx1⟩
  by_cases k5 : 1099511627776 < grid
  · skip
    clear h
    go_enter Try.func3, Try.ntmps3
    go_wp2_with fail
    refine (HA.out _).mono ?_
    rintro e w1 ⟨rfl, hx1⟩
    go_wp2_with fail
    first | refine fin_ret rfl (fun K hK => ?_) | refine fin_norm rfl (fun K hK => ?_)
    simp [results, Try.results3, go_sem, rsat]
    try go_simp
    refine hK _ ?_
    clear hK K
    exact ⟨rfl, hx1⟩
  by_cases k6 : q < 1
  · skip
    clear h
    go_enter Try.func3, Try.ntmps3
    go_wp2_with fail
    refine (HA.out _).mono ?_
    rintro e w1 ⟨rfl, hx1⟩
    go_wp2_with fail
    first | refine fin_ret rfl (fun K hK => ?_) | refine fin_norm rfl (fun K hK => ?_)
    simp [results, Try.results3, go_sem, rsat]
    try go_simp
    refine hK _ ?_
    clear hK K
    exact ⟨rfl, hx1⟩
  by_cases k7 : 4294967296 < q
  · skip
    clear h
    go_enter Try.func3, Try.ntmps3
    go_wp2_with fail
    refine (HA.out _).mono ?_
    rintro e w1 ⟨rfl, hx1⟩
    go_wp2_with fail
    first | refine fin_ret rfl (fun K hK => ?_) | refine fin_norm rfl (fun K hK => ?_)
    simp [results, Try.results3, go_sem, rsat]
    try go_simp
    refine hK _ ?_
    clear hK K
    exact ⟨rfl, hx1⟩
  by_cases k8 : gap < 0
  · skip
    clear h
    go_enter Try.func3, Try.ntmps3
    go_wp2_with fail
    refine (HA.out _).mono ?_
    rintro e w1 ⟨rfl, hx1⟩
    go_wp2_with fail
    first | refine fin_ret rfl (fun K hK => ?_) | refine fin_norm rfl (fun K hK => ?_)
    simp [results, Try.results3, go_sem, rsat]
    try go_simp
    refine hK _ ?_
    clear hK K
    exact ⟨rfl, hx1⟩
  by_cases k9 : 1099511627776 < gap
  · skip
    clear h
    go_enter Try.func3, Try.ntmps3
    go_wp2_with fail
    refine (HA.out _).mono ?_
    rintro e w1 ⟨rfl, hx1⟩
    go_wp2_with fail
    first | refine fin_ret rfl (fun K hK => ?_) | refine fin_norm rfl (fun K hK => ?_)
    simp [results, Try.results3, go_sem, rsat]
    try go_simp
    refine hK _ ?_
    clear hK K
    exact ⟨rfl, hx1⟩
  obtain ⟨b, off, hA, hb, hcell⟩ := h.cells (by simp only; omega)
  simp only at hA hcell
  subst hA
  have hwf : ∀ x ∈ ps, I64 x := fun x hx => I64.of_wf (h.wf x hx)
  obtain ⟨p0, hp0⟩ : ∃ p0, p0 = ps[0]?.getD 0 := ⟨_, rfl⟩
  have c0 := hcell 0 (by omega)
  rw [← hp0, Nat.add_zero] at c0
  have hp0m : p0 ∈ ps := by
    rw [hp0, List.getElem?_eq_getElem (by omega), Option.getD_some]
    exact List.getElem_mem _
  have HP0 := Lib.hid hp0
  have HPM := Lib.hid hp0m
  clear hp0 hp0m
  have hnb := newB_yes (span := span) (grid := grid) ⟨by omega, by omega⟩ ⟨by omega, by omega⟩
  have ht : wrap64 (gap + span) = gap + span := wrap64_in ⟨by omega, by omega⟩
  go_enter Try.func3, Try.ntmps3
  go_wp2_with fail
  refine (new_c span grid grid iS iG iG _).mono ?_
  rintro e w1 ⟨hx1, (⟨hb1, _⟩ | ⟨_, ga, hga, rfl, hA1⟩)⟩
  · rw [hnb] at hb1; cases hb1
  have Wa : Win w1 ga none span grid grid 0 [] := ⟨by simp, by simp [ablk], 0, hA1, Row.nil _ _ _ _⟩
  have gal := hA1.lt
  clear hA1
  go_wp2_with fail
  refine (new_c span grid grid iS iG iG _).mono ?_
  rintro e w2 ⟨hx2, (⟨hb1, _⟩ | ⟨_, gb, hgb, rfl, hA2⟩)⟩
  · rw [hnb] at hb1; cases hb1
  have T2 : Two w w2 ga gb none none span grid 0 0 [] [] := ⟨hx1.trans hx2, Wa.ext hx2, ⟨by simp, by simp [ablk], 0, hA2, Row.nil _ _ _ _⟩, hga, Nat.le_trans hx1.size hgb, by omega, by simp [ablk], by simp [ablk]⟩
  have d0 := (T2.ext.facts.1 b off hb).trans c0
  have hbl2 : b < w2.heap.size := Nat.lt_of_lt_of_le hb T2.ext.size
  have hpos : 0 < ps.length := by omega
  have k8' : 0 ≤ gap := by omega
  clear Wa hA2 hgb gal hga hx1 hx2
  go_wp2_with fail
  refine wp_region_x 8 [0, 0, 1, 0, 0, 1, 0, 0] (by kernel_rfl) (by kernel_rfl) (by kernel_rfl) ?_
  simp only [List.take_succ_cons, List.take_zero, List.drop_succ_cons, List.drop_zero]
  refine hl_pure (fun K hK => ?_)
  go_simp
  refine hK _ ?_
  clear hK K
  refine hl_pure (fun K hK => ?_)
  go_simp
  refine hK _ ?_
  clear hK K
  refine hl_quiet (fun K hK => ?_)
  go_simp
  refine hK _ ?_
  clear hK K
  refine hl_pure (fun K hK => ?_)
  go_simp
  refine hK _ ?_
  clear hK K
  refine hl_pure (fun K hK => ?_)
  go_simp
  refine hK _ ?_
  clear hK K
  refine hl_quiet (fun K hK => ?_)
  go_simp
  refine hK _ ?_
  clear hK K
  refine hl_pure (fun K hK => ?_)
  go_simp
  refine hK _ ?_
  clear hK K
  refine hl_pure (fun K hK => ?_)
  go_simp
  refine hK _ ?_
  clear hK K
  refine hl_nil ?_
  intro w3 hx3 K hK
  have T3 := T2.extR hx3
  clear T2 d0 hbl2 hx3
  go_wp2_with fail
  refine (wadd_c ga none span grid grid 0 [] 0 7 q (by decide) (by decide) iQ _ T3.a (by decide)).mono ?_
  rintro e w4 (⟨hb1, _⟩ | ⟨_, rfl, A4, W4, C4, f4⟩)
  · rw [addB_yes (by decide) (by decide) (by decide) (by decide) ⟨by omega, by omega⟩] at hb1; cases hb1
  have T4 := T3.adda W4 C4 f4
  clear T3 W4 C4 f4
  go_wp2_with fail
  refine (wadd_c ga A4 span grid grid 0 _ gap 9 q iP (by decide) iQ _ T4.a (by simp)).mono ?_
  rintro e w5 (⟨hb1, _⟩ | ⟨_, rfl, A5, W5, C5, f5⟩)
  · rw [addB_yes (by omega) (by omega) (by omega) (by decide) ⟨by omega, by omega⟩] at hb1; cases hb1
  have T5 := T4.adda W5 C5 f5
  clear T4 W5 C5 f5
  simp only [List.nil_append, List.cons_append] at T5
  go_wp2_with fail
  go_loopw [15, 16, 18] (fun lo hi i wr => ∃ (k : Nat) (Aa Ab : Option Addr) (la lb : Int), i = .int .i64 k ∧ k ≤ ps.length ∧ lo = .int .i64 (loP p0 (ps.take k)) ∧ hi = .int .i64 (hiP p0 (ps.take k)) ∧ (∀ p ∈ ps.take k, 1 ≤ p ∧ p ≤ 1099511627776) ∧ la ≤ gap + span ∧ lb ≤ gap + span ∧ (0 < k → 1 ≤ p0 ∧ p0 ≤ 1099511627776) ∧ Two w wr ga gb Aa Ab span grid la lb (⟨0, 7, q⟩ :: ⟨gap, 9, q⟩ :: trs (gap + span) q (ps.take k)) (trs (gap + span) q (ps.take k))) (fun _ _ i _ => ps.length - (intOf i).toNat)
  case atStart => exact ⟨0, A5, none, gap, 0, rfl, by omega, rfl, rfl, by simp, by omega, by omega, fun h => absurd h (by omega), by simpa [trs] using T5⟩
  case round =>
    obtain ⟨k, Aa, Ab, la, lb, rfl, hk, rfl, rfl, hall, hla, hlb, hfst, T⟩ := hrel
    clear T5
    by_cases hlt : k < ps.length
    · have d1 := (T.ext.facts.1 b (off + k) hb).trans (hcell k hlt)
      have hbr : b < wr.heap.size := Nat.lt_of_lt_of_le hb T.ext.size
      have htk : ps.take (k + 1) = ps.take k ++ [ps[k]] := List.take_succ_eq_append_getElem hlt
      rw [List.getElem?_eq_getElem hlt, Option.getD_some] at d1
      have hx64 := hwf ps[k] (List.getElem_mem _)
      have hk0 : k = 0 → p0 = ps[k] := fun h => by subst h; rw [HP0.out, List.getElem?_eq_getElem hlt, Option.getD_some]
      obtain ⟨x, hx⟩ : ∃ x, x = ps[k] := ⟨_, rfl⟩
      rw [← hx] at d1 htk hx64 hk0
      have HX := Lib.hid hx.symm
      clear hx
      have HTK := Lib.hid htk
      have HK0 := Lib.hid hk0
      have HALL := Lib.hid hall
      have HFST := Lib.hid hfst
      have HCE := Lib.hid hcell
      have hlen : (trs (gap + span) q (ps.take k)).length ≤ 30 := by rw [trs_len, List.length_take]; omega
      obtain ⟨lo, hlo⟩ : ∃ lo, lo = loP p0 (ps.take k) := ⟨_, rfl⟩
      obtain ⟨hi, hhi⟩ : ∃ hi, hi = hiP p0 (ps.take k) := ⟨_, rfl⟩
      rw [← hlo, ← hhi]
      have HLO := Lib.hid hlo
      have HHI := Lib.hid hhi
      clear htk hk0 hall hfst hcell hlo hhi
      by_cases x1 : x < 1
      · go_wp2_with fail
        refine (HA.out _).mono ?_
        rintro e w6 ⟨rfl, hx6⟩
        go_wp2_with fail
        first | refine fin_ret rfl (fun K hK => ?_) | refine fin_norm rfl (fun K hK => ?_)
        simp [results, Try.results3, go_sem, rsat]
        try go_simp
        refine hK _ ?_
        clear hK K
        exact ⟨rfl, T.ext.trans hx6⟩
      by_cases x2 : 1099511627776 < x
      · go_wp2_with fail
        refine (HA.out _).mono ?_
        rintro e w6 ⟨rfl, hx6⟩
        go_wp2_with fail
        first | refine fin_ret rfl (fun K hK => ?_) | refine fin_norm rfl (fun K hK => ?_)
        simp [results, Try.results3, go_sem, rsat]
        try go_simp
        refine hK _ ?_
        clear hK K
        exact ⟨rfl, T.ext.trans hx6⟩
      by_cases y1 : x < lo <;> by_cases y2 : hi < x
      all_goals
        go_wp2_with fail
        try (exfalso; omega)
        refine (wadd_c ga Aa span grid grid la _ (gap + span) x q ⟨by omega, by omega⟩ hx64 iQ _ T.a (by simp only [List.length_cons]; omega)).mono ?_
        rintro e w6 (⟨hb1, _⟩ | ⟨_, rfl, A6, W6, C6, f6⟩)
        · rw [addB_yes (by omega) (by omega) (by omega) ⟨by omega, by omega⟩ ⟨by omega, by omega⟩] at hb1; cases hb1
        have T6 := T.adda W6 C6 f6
        have d6 := (T6.ext.facts.1 b (off + k) hb).trans (HCE.out k hlt)
        rw [List.getElem?_eq_getElem hlt, Option.getD_some, HX.out] at d6
        have hb6 : b < w6.heap.size := Nat.lt_of_lt_of_le hb T6.ext.size
        clear T W6 C6 f6 d1 hbr
        go_wp2_with fail
        refine (wadd_c gb Ab span grid grid lb _ (gap + span) x q ⟨by omega, by omega⟩ hx64 iQ _ T6.b (by omega)).mono ?_
        rintro e w7 (⟨hb1, _⟩ | ⟨_, rfl, A7, W7, C7, f7⟩)
        · rw [addB_yes (by omega) (by omega) (by omega) ⟨by omega, by omega⟩ ⟨by omega, by omega⟩] at hb1; cases hb1
        have T7 := (T6.swap.adda W7 C7 f7).swap
        clear T6 W7 C7 f7 d6 hb6
        go_wp2_with fail
        go_roundw
        case rel =>
          refine ⟨k + 1, A6, A7, gap + span, gap + span, by go_num, by omega, ?_, ?_, fun p hp => ?_, Int.le_refl _, Int.le_refl _, fun _ => ?_, ?_⟩
          · rw [HTK.out, loP_app, ← HLO.out]; try (congr 1; omega)
          · rw [HTK.out, hiP_app, ← HHI.out]; try (congr 1; omega)
          · rw [HTK.out] at hp
            rcases List.mem_append.1 hp with h1 | h1
            · exact HALL.out p h1
            · rw [List.mem_singleton.1 h1]; omega
          · rcases Nat.eq_zero_or_pos k with h1 | h1
            · rw [HK0.out h1]; omega
            · exact HFST.out h1
          · rw [HTK.out, trs_app]; exact T7
        case measure => simp [intOf]; omega
    · obtain rfl : k = ps.length := by omega
      rw [List.take_length] at hall T
      have htl := trs_len (gap + span) q ps
      rw [List.take_length] at *
      have hf := hfst hpos
      have hne : ps ≠ [] := fun h => by rw [h] at hpos; simp at hpos
      have hgs : gap + span - span = gap := by omega
      have hd1 := drop_two (q := q) (t := gap + span) k8' (by omega) ps
      have hd2 := drop_trs (c := gap) (t := gap + span) (q := q) (by omega) ps
      have hbt := between (t := gap + span) (q := q) (grid := grid) (p0 := p0) (ps := ps) (by omega) (by omega) hne hf HPM.out hall
      have hin := loP_in ps p0 hf hall
      have hne2 : trs (gap + span) q ps ≠ [] := fun h => by rw [h] at htl; simp at htl; omega
      obtain ⟨lo, hlo⟩ : ∃ lo, lo = loP p0 ps := ⟨_, rfl⟩
      obtain ⟨hi, hhi⟩ : ∃ hi, hi = hiP p0 ps := ⟨_, rfl⟩
      rw [← hlo, ← hhi] at hbt hin ⊢
      have hmc := mean_cons (grid := grid) hne2
      generalize meanV grid (trs (gap + span) q ps) = mv at hbt hmc
      obtain ⟨m1, m2, m3, m4⟩ := hbt
      have HMC := Lib.hid hmc
      have HD1 := Lib.hid hd1
      have HD2 := Lib.hid hd2
      clear hlo hhi hall hfst hmc hd1 hd2 hcell
      go_wp2_with fail
      refine (mean_c ga Aa span grid grid la _ (gap + span) ⟨by omega, by omega⟩ ⟨by omega, by omega⟩ ⟨by omega, by omega⟩ _ T.a (by simp only [List.length_cons]; omega)).mono ?_
      rintro e w6 (⟨hb1, _⟩ | ⟨_, rfl, A6, hA6, W6, C6⟩)
      · rw [comes_yes (by omega) (by omega) (by omega)] at hb1; cases hb1
      have T6 := T.mean hA6 W6 C6
      rw [hgs, HD1.out, HMC.out]
      clear T W6 C6 hA6
      go_wp2_with fail
      refine (mean_c gb Ab span grid grid lb _ (gap + span) ⟨by omega, by omega⟩ ⟨by omega, by omega⟩ ⟨by omega, by omega⟩ _ T6.b (by omega)).mono ?_
      rintro e w7 (⟨hb1, _⟩ | ⟨_, rfl, A7, hA7, W7, C7⟩)
      · rw [comes_yes (by omega) (by omega) (by omega)] at hb1; cases hb1
      have T7 := T6.swap.mean hA7 W7 C7
      rw [hgs, HD2.out, HMC.out]
      have x7 := T7.ext
      clear T6 W7 C7 hA7 T7
      go_wp2_with fail
      all_goals
        refine (HA.out _).mono ?_
        rintro e w8 ⟨rfl, hx8⟩
        go_wp2_with fail
        first | refine fin_ret rfl (fun K hK => ?_) | refine fin_norm rfl (fun K hK => ?_)
        simp [results, Try.results3, go_sem, rsat]
        try go_simp
        refine hK _ ?_
        clear hK K
        exact ⟨rfl, x7.trans hx8⟩
end Go.Proofs.Ytgjaiikfgejgoaa
