/- Laws ScriptReads and ScriptBack. No condition. -/
import Derived.Test.YthfomohophmbaaaSB
import Derived.Test.YthfomohophmbaaaS7
namespace Go.Proofs.Ythfomohophmbaaa
open Go.RowKit
attribute [local go_sem] Later.cell QUpon_value QUpon_enter MUpon_value run_eql_slice_nil Same.cell
attribute [local go_sem ↓ high] loadStp_is storeStp_is
attribute [local go_sem] run_loadStp run_loadStp_at run_storeStp one_int one_bool one_slice one_ptr one_str setRow_new setRow_past cell_ca frozen_ca cellsAt_alloc_at cellsAt_alloc_past cellsAt_drew cellsAt_later cellsAt_setCell cellsAt_set_same cellsAt_setRow_same cellsAt_setRow_far subAt_alloc subAt_drew subAt_later subAt_setCell subAt_setRow ltn_2 ltn_3 ltn_4 ltn_5
set_option maxHeartbeats 4000000 in
set_option maxRecDepth 100000 in
theorem scriptreads_c (b : Bs) (w : World) (h : b.At w) : Calls Try.prog 5 #[b.v] w fun e w' => e = .returned (.bool true) ∧ Ext w w' := by
  have HA := Lib.hid alive_c29
  have hlm := h.len
  unfold maxLen at hlm
  obtain ⟨A, c, xs⟩ := b
  unfold Bs.v
  simp only at hlm ⊢
  by_cases hl : 3000 < xs.length
  · have hli : (3000 : Int) < (xs.length : Int) := by omega
    clear h hl
    go_enter Try.func5, Try.ntmps5
    go_wp2_with fail
    refine (HA.out _).mono ?_
    rintro e w1 ⟨rfl, hx1⟩
    go_wp2_with fail
    first | refine fin_ret rfl (fun K hK => ?_) | refine fin_norm rfl (fun K hK => ?_)
    simp [results, Try.results5, go_sem, rsat]
    try go_simp
    refine hK _ ?_
    clear hK K
    exact ⟨rfl, hx1⟩
  have hli : ¬ (3000 : Int) < (xs.length : Int) := by omega
  have C1 := sread_c A c xs h.byt (by omega) w h.src
  have C2 := fun W hx => rsread_c A c xs h.byt (by omega) h.le h.max W (h.src.ext hx)
  unfold ReadIs at C1 C2
  generalize readS xs = R at C1 C2
  have HC1 := Lib.hid C1
  have HC2 := Lib.hid C2
  clear C1 C2 h
  go_enter Try.func5, Try.ntmps5
  go_wp2_with fail
  refine HC1.out.mono ?_
  rintro e w1 ⟨hx1, x, f, rfl, hX, hR⟩
  go_wp2_with fail
  refine (HC2.out _ hx1).mono ?_
  rintro e w2 ⟨hx2, y, g, rfl, hY, hR2⟩
  have hfg : f = g := by rw [← hR] at hR2; injection hR2 with _ h2; exact h2.symm
  have hxy : y.l.map Sp.key = x.l.map Sp.key := by rw [← hR] at hR2; injection hR2 with h1 _
  subst hfg
  have hff : (f == f) = true := by simp
  have C3 := rssame_c x y w2 (hX.ext hx2) hY
  have hsm : sameS x.l y.l = true := decide_eq_true hxy.symm
  rw [hsm] at C3
  have HC3 := Lib.hid C3
  clear C3 hsm hxy hR hR2 hX hY
  unfold Sts.v at *
  go_wp2_with fail
  refine HC3.out.mono ?_
  rintro e w3 ⟨rfl, hx3⟩
  go_wp2_with fail
  refine (HA.out _).mono ?_
  rintro e w4 ⟨rfl, hx4⟩
  go_wp2_with fail
  first | refine fin_ret rfl (fun K hK => ?_) | refine fin_norm rfl (fun K hK => ?_)
  simp [results, Try.results5, go_sem, rsat]
  try go_simp
  refine hK _ ?_
  clear hK K
  exact ⟨rfl, ((hx1.trans hx2).trans hx3).trans hx4⟩
theorem encSL_len (l : List Sp) : (encSL l).length ≤ 200000 := by
  unfold encSL
  split
  · simp
  split
  · rename_i h1 h2
    have := formsS_len h2
    have n1 := numB_len64 (n := l.length) (by omega)
    rw [List.length_append]; omega
  · simp
set_option maxHeartbeats 8000000 in
set_option maxRecDepth 100000 in
theorem scriptback_c (x : Sts) (b : Bs) (w : World) (hx : x.At w) (hb : b.At w) : Calls Try.prog 6 #[x.v, b.v] w fun e w' => e = .returned (.bool true) ∧ Ext w w' := by
  have HA := Lib.hid alive_c29
  have hlm := hb.len
  unfold maxLen at hlm
  have CL := light29_c x w hx
  obtain ⟨A, c, xs⟩ := b
  unfold Bs.v
  simp only at hlm ⊢
  cases hL : lightS x.l with
  | false =>
    rw [hL] at CL
    have HL := Lib.hid CL
    clear CL hL hb
    unfold Sts.v at *
    go_enter Try.func6, Try.ntmps6
    go_wp2_with fail
    refine HL.out.mono ?_
    rintro e w1 ⟨rfl, hx1⟩
    go_wp2_with fail
    refine (HA.out _).mono ?_
    rintro e w2 ⟨rfl, hx2⟩
    go_wp2_with fail
    first | refine fin_ret rfl (fun K hK => ?_) | refine fin_norm rfl (fun K hK => ?_)
    simp [results, Try.results6, go_sem, rsat]
    try go_simp
    refine hK _ ?_
    clear hK K
    exact ⟨rfl, hx1.trans hx2⟩
  | true =>
    rw [hL] at CL
    have HL := Lib.hid CL
    clear CL hL
    by_cases hl : 3000 < xs.length
    · have hli : (3000 : Int) < (xs.length : Int) := by omega
      clear hb hl
      unfold Sts.v at *
      go_enter Try.func6, Try.ntmps6
      go_wp2_with fail
      refine HL.out.mono ?_
      rintro e w1 ⟨rfl, hx1⟩
      go_wp2_with fail
      refine (HA.out _).mono ?_
      rintro e w2 ⟨rfl, hx2⟩
      go_wp2_with fail
      first | refine fin_ret rfl (fun K hK => ?_) | refine fin_norm rfl (fun K hK => ?_)
      simp [results, Try.results6, go_sem, rsat]
      try go_simp
      refine hK _ ?_
      clear hK K
      exact ⟨rfl, hx1.trans hx2⟩
    have hli : ¬ (3000 : Int) < (xs.length : Int) := by omega
    have CE := fun W h => sencode_c x W (hx.ext h)
    unfold EncS at CE
    have hE := enc_key x.l
    have hEl := encSL_len x.l
    have hEb := encSL_byt hx.ok
    have hkn : ∀ k ∈ x.l.map Sp.key, I64 k.2.2.1 := fun k hk => by
      obtain ⟨p, hp, rfl⟩ := List.mem_map.1 hk
      exact (hx.ok p hp).n
    have CR := fun W h => sread_c A c xs hb.byt (by omega) W (hb.src.ext h)
    unfold ReadIs at CR
    have hinv := fun m (h : readS xs = (m, 0)) => readS_inv hb.byt h
    have hbad := fun m f (h : readS xs = (m, f)) => readS_bad h
    generalize readS xs = RR at CR hinv hbad
    have HCR := Lib.hid CR
    have HCE := Lib.hid CE
    have HINV := Lib.hid hinv
    have HBAD := Lib.hid hbad
    have HSB := Lib.hid hb
    clear CR CE hinv hbad hb
    by_cases hf : encSF x.l = 0
    · obtain ⟨e1, e2, e3⟩ := hE.1 hf
      have hall : ∀ k ∈ x.l.map Sp.key, rightK k = true ∧ I64 k.2.2.1 := fun k hk => ⟨e2 k hk, hkn k hk⟩
      have p1 := readS_put (l := x.l.map Sp.key) (by rw [List.length_map]; exact e1) hall []
      have p2 := readS_put (l := x.l.map Sp.key) (by rw [List.length_map]; exact e1) hall [1]
      rw [List.append_nil, if_pos rfl, ← e3] at p1
      rw [if_neg (by simp), ← e3] at p2
      rw [hf] at HCE
      generalize encSL x.l = E at HCE hEl hEb p1 p2
      have CR1 := fun A1 c1 W (h : Src W 1 A1 E.length (bc E)) => sread_c A1 c1 E hEb (by omega) W h
      have CR2 := fun A1 c1 W (h : Src W 1 A1 (E ++ [1]).length (bc (E ++ [1]))) => sread_c A1 c1 (E ++ [1]) (hEb.app (by intro y hy; simp at hy; omega)) (by simp; omega) W h
      unfold ReadIs at CR1 CR2
      rw [p1] at CR1
      rw [p2] at CR2
      have HR1 := Lib.hid CR1
      have HR2 := Lib.hid CR2
      have HX := Lib.hid hx
      clear CR1 CR2 p1 p2 hE e1 e2 e3 hall hkn hf hx
      unfold Sts.v at *
      go_enter Try.func6, Try.ntmps6
      go_wp2_with fail
      refine HL.out.mono ?_
      rintro e w1 ⟨rfl, hx1⟩
      go_wp2_with fail
      refine (HCE.out _ hx1).mono ?_
      rintro e w2 ⟨hx2, v, rfl, A2, c2, rfl, R2, F2⟩
      have y2 := hx1.trans hx2
      go_wp2_with fail
      refine (HR1.out _ _ _ R2.src).mono ?_
      rintro e w3 ⟨hx3, ⟨B3, d3, l3⟩, f3, rfl, hX3, hk3⟩
      injection hk3 with hk3 hf3
      subst hf3
      have R3 := R2.ext hx3
      have y3 := y2.trans hx3
      simp only at hk3 ⊢
      clear R2 F2 hx2 hx1
      go_wp2_with (at_builtin; refine wpList_rowcat rfl _ _ 25 5 1 1 (.int .u8 0) rfl Try.underlying25 u8Info rfl (by decide) _ _ 0 0 [] rfl (Row.nil _ _ _ _) _ _ _ (bc E) rfl (R3.src.ext (by exact (by repeat (first | (with_reducible exact Ext.refl _) | (with_reducible assumption) | (with_reducible refine Ext.alloc ?_ _) | (with_reducible refine Ext.drew ?_) | (with_reducible refine Ext.drewN ?_ _) | (with_reducible refine Ext.setCell ?_ (by simp; try omega) _) | (with_reducible refine Ext.setRow ?_ (by simp; try omega) _))))) (bc_one E) (by unfold maxLen; omega) (by omega) ?_)
      intro A4 c4 w4 hR4 hC4 hf4
      have hR4 : Row w4 5 1 A4 E.length c4 (bc E) := by simpa using hR4
      have x4 : Ext w3 w4 := (Chg.step (Chg.of_ext (by exact (by repeat (first | (with_reducible exact Ext.refl _) | (with_reducible assumption) | (with_reducible refine Ext.alloc ?_ _) | (with_reducible refine Ext.drew ?_) | (with_reducible refine Ext.drewN ?_ _) | (with_reducible refine Ext.setCell ?_ (by simp; try omega) _) | (with_reducible refine Ext.setRow ?_ (by simp; try omega) _)))) []) hC4 (fun i hi => by simp [ablk] at hi; right; omega)).ext (by simp)
      have kA4 : ∀ k ∈ ablk A4, w3.heap.size ≤ k := fun k hk => by
        rcases hf4 k hk with h1 | h1
        · simp [ablk] at h1; omega
        · first | omega | (simp at h1; omega)
      go_wp2_with (at_builtin; refine wpList_rowapp rfl _ _ 25 5 1 1 (.int .u8 0) rfl Try.underlying25 u8Info rfl (by decide) _ A4 E.length c4 (bc E) rfl hR4 [.int .u8 1] rfl rfl rfl (by unfold maxLen; omega) (by omega) ?_)
      intro A5 c5 w5 hR5 hC5 hf5
      have x5 : Ext w3 w5 := (Chg.step (Chg.of_ext (x4.alloc _) []) hC5 (fun i hi => .inr (kA4 i hi))).ext (by simp)
      have hS5 : Src w5 1 A5 (E ++ [1]).length (bc (E ++ [1])) := by rw [List.length_append, bc_app]; exact hR5.src
      have C6 := HR2.out A5 c5 w5 hS5
      rw [List.length_append] at C6
      have HC6 := Lib.hid C6
      clear hC4 hf4 hC5 hf5 kA4 x4 hR4 C6 hS5
      simp only [List.length_cons, List.length_nil, Nat.zero_add] at HC6
      go_wp2_with fail
      refine HC6.out.mono ?_
      rintro e w6 ⟨hx6, ⟨B6, d6, l6⟩, f6, rfl, hX6, hk6⟩
      injection hk6 with hk6 hf6
      subst hf6
      have y6 := (y3.trans x5).trans hx6
      have CS := ssame_c x ⟨B3, d3, l3⟩ w6 (HX.out.ext y6) ((hX3.ext x5).ext hx6)
      rw [show sameS x.l l3 = true from decide_eq_true hk3.symm] at CS
      unfold Sts.v at CS
      have HCS := Lib.hid CS
      clear CS hk3 hk6 hX6 hX3 R3 x5 hx6 y3 y2 hx3
      simp only at HCS ⊢
      go_wp2_with fail
      refine HCS.out.mono ?_
      rintro e w7 ⟨rfl, hx7⟩
      have y7 := y6.trans hx7
      go_wp2_with fail
      refine (HCR.out _ y7).mono ?_
      rintro e w8 ⟨hx8, ⟨B8, d8, l8⟩, f8, rfl, hX8, hk8⟩
      have y8 := y7.trans hx8
      simp only at hk8 ⊢
      by_cases h8 : f8 = 0
      · subst h8
        obtain ⟨g1, g2, g3⟩ := HINV.out _ hk8.symm
        have hE8 := (enc_key l8).2 (by rw [← List.length_map (f := Sp.key)]; exact g1) (fun k hk => (g2 k hk).1)
        have C9 := sencode_c ⟨B8, d8, l8⟩ w8 hX8
        unfold EncS at C9
        simp only at C9
        rw [hE8.1, hE8.2, ← g3] at C9
        unfold Sts.v at C9
        have HC9 := Lib.hid C9
        clear C9 hE8 g1 g2 g3 hk8 hX8
        simp only at HC9
        go_wp2_with fail
        refine HC9.out.mono ?_
        rintro e w9 ⟨hx9, v9, rfl, A9, c9, rfl, R9, F9⟩
        have y9 := y8.trans hx9
        have C10 := same_c A9 A _ _ c9 c xs xs w9 R9.src (HSB.out.src.ext y9) HSB.out.byt HSB.out.byt
        rw [decide_eq_true rfl] at C10
        have HC10 := Lib.hid C10
        clear C10 R9 F9
        go_wp2_with fail
        refine HC10.out.mono ?_
        rintro e w10 ⟨rfl, hx10⟩
        go_wp2_with fail
        refine (HA.out _).mono ?_
        rintro e w11 ⟨rfl, hx11⟩
        go_wp2_with fail
        first | refine fin_ret rfl (fun K hK => ?_) | refine fin_norm rfl (fun K hK => ?_)
        simp [results, Try.results6, go_sem, rsat]
        try go_simp
        refine hK _ ?_
        clear hK K
        exact ⟨rfl, (y9.trans hx10).trans hx11⟩
      · have hm := HBAD.out _ _ hk8.symm h8
        obtain rfl : l8 = [] := List.map_eq_nil_iff.1 hm
        have hfb8 : (f8 != 0) = true := bne_iff_ne.2 h8
        clear hm hk8 h8 hX8
        simp only [List.length_nil]
        go_wp2_with fail
        refine (HA.out _).mono ?_
        rintro e w11 ⟨rfl, hx11⟩
        go_wp2_with fail
        first | refine fin_ret rfl (fun K hK => ?_) | refine fin_norm rfl (fun K hK => ?_)
        simp [results, Try.results6, go_sem, rsat]
        try go_simp
        refine hK _ ?_
        clear hK K
        exact ⟨rfl, y8.trans hx11⟩
    · have hfb : (encSF x.l == 0) = false := beq_eq_false_iff_ne.2 hf
      generalize encSF x.l = ef at HCE hfb hf
      clear hf hE hkn
      unfold Sts.v at *
      go_enter Try.func6, Try.ntmps6
      go_wp2_with fail
      refine HL.out.mono ?_
      rintro e w1 ⟨rfl, hx1⟩
      go_wp2_with fail
      refine (HCE.out _ hx1).mono ?_
      rintro e w7 ⟨hx2, v, rfl, A2, c2, rfl, R2, F2⟩
      have y7 := hx1.trans hx2
      clear R2 F2
      go_wp2_with fail
      refine (HCR.out _ y7).mono ?_
      rintro e w8 ⟨hx8, ⟨B8, d8, l8⟩, f8, rfl, hX8, hk8⟩
      have y8 := y7.trans hx8
      simp only at hk8 ⊢
      by_cases h8 : f8 = 0
      · subst h8
        obtain ⟨g1, g2, g3⟩ := HINV.out _ hk8.symm
        have hE8 := (enc_key l8).2 (by rw [← List.length_map (f := Sp.key)]; exact g1) (fun k hk => (g2 k hk).1)
        have C9 := sencode_c ⟨B8, d8, l8⟩ w8 hX8
        unfold EncS at C9
        simp only at C9
        rw [hE8.1, hE8.2, ← g3] at C9
        unfold Sts.v at C9
        have HC9 := Lib.hid C9
        clear C9 hE8 g1 g2 g3 hk8 hX8
        simp only at HC9
        go_wp2_with fail
        refine HC9.out.mono ?_
        rintro e w9 ⟨hx9, v9, rfl, A9, c9, rfl, R9, F9⟩
        have y9 := y8.trans hx9
        have C10 := same_c A9 A _ _ c9 c xs xs w9 R9.src (HSB.out.src.ext y9) HSB.out.byt HSB.out.byt
        rw [decide_eq_true rfl] at C10
        have HC10 := Lib.hid C10
        clear C10 R9 F9
        go_wp2_with fail
        refine HC10.out.mono ?_
        rintro e w10 ⟨rfl, hx10⟩
        go_wp2_with fail
        refine (HA.out _).mono ?_
        rintro e w11 ⟨rfl, hx11⟩
        go_wp2_with fail
        first | refine fin_ret rfl (fun K hK => ?_) | refine fin_norm rfl (fun K hK => ?_)
        simp [results, Try.results6, go_sem, rsat]
        try go_simp
        refine hK _ ?_
        clear hK K
        exact ⟨rfl, (y9.trans hx10).trans hx11⟩
      · have hm := HBAD.out _ _ hk8.symm h8
        obtain rfl : l8 = [] := List.map_eq_nil_iff.1 hm
        have hfb8 : (f8 != 0) = true := bne_iff_ne.2 h8
        clear hm hk8 h8 hX8
        simp only [List.length_nil]
        go_wp2_with fail
        refine (HA.out _).mono ?_
        rintro e w11 ⟨rfl, hx11⟩
        go_wp2_with fail
        first | refine fin_ret rfl (fun K hK => ?_) | refine fin_norm rfl (fun K hK => ?_)
        simp [results, Try.results6, go_sem, rsat]
        try go_simp
        refine hK _ ?_
        clear hK K
        exact ⟨rfl, y8.trans hx11⟩
end Go.Proofs.Ythfomohophmbaaa
