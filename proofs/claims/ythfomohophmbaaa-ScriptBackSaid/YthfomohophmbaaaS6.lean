/- Steps (layer 29): which lists are the same, by both; lists that are light. No condition. -/
import Derived.Test.YthfomohophmbaaaS5
namespace Go.Proofs.Ythfomohophmbaaa
open Go.RowKit
attribute [local go_sem] Later.cell QUpon_value QUpon_enter MUpon_value run_eql_slice_nil Same.cell
attribute [local go_sem ↓ high] loadStp_is storeStp_is
attribute [local go_sem] run_loadStp run_loadStp_at run_storeStp one_int one_bool one_slice one_ptr one_str setRow_new setRow_past cell_ca frozen_ca cellsAt_alloc_at cellsAt_alloc_past cellsAt_drew cellsAt_later cellsAt_setCell cellsAt_set_same cellsAt_setRow_same cellsAt_setRow_far subAt_alloc subAt_drew subAt_later subAt_setCell subAt_setRow ltn_2 ltn_3 ltn_4 ltn_5
theorem bequal_c (A B : Option Addr) (n m c d : Nat) (xs ys : List Int) (w : World) (hA : Src w 1 A n (bc xs)) (hB : Src w 1 B m (bc ys)) (hx : Byt xs) (hy : Byt ys) :
    Calls Try.prog 32 #[.slice A n c, .slice B m d] w fun e w' => e = .returned (.bool (decide (xs = ys))) ∧ Ext w w' := by
  have e1 := conv_str (c := c) hA
  have e2 := conv_str (c := d) hB
  have e3 := str_beq hx hy
  go_enter Try.func32, Try.ntmps32
  go_wp2_with fail
  first | refine fin_ret rfl (fun K hK => ?_) | refine fin_norm rfl (fun K hK => ?_)
  simp [results, Try.results32, go_sem, rsat]
  try go_simp
  refine hK _ ?_
  clear hK K
  exact ⟨rfl, (by repeat (first | (with_reducible exact Ext.refl _) | (with_reducible assumption) | (with_reducible refine Ext.alloc ?_ _) | (with_reducible refine Ext.drew ?_) | (with_reducible refine Ext.drewN ?_ _) | (with_reducible refine Ext.setCell ?_ (by simp; try omega) _) | (with_reducible refine Ext.setRow ?_ (by simp; try omega) _)))⟩
def Sp.key (p : Sp) : Int × Int × Int × List Int := (p.kind, p.sym, p.n, p.raw.xs)
def sameS (a b : List Sp) : Bool := decide (a.map Sp.key = b.map Sp.key)
theorem key_iff (p q : Sp) : p.key = q.key ↔ p.kind = q.kind ∧ p.sym = q.sym ∧ p.n = q.n ∧ p.raw.xs = q.raw.xs := by
  unfold Sp.key
  simp only [Prod.mk.injEq]
theorem sameS_len {a b : List Sp} (h : a.length ≠ b.length) : sameS a b = false := by
  unfold sameS
  rw [decide_eq_false]
  intro h1
  have := congrArg List.length h1
  simp only [List.length_map] at this
  exact h this
theorem sameS_no {a b : List Sp} {k : Nat} (ha : k < a.length) (hb : k < b.length) (h : a[k].key ≠ b[k].key) : sameS a b = false := by
  unfold sameS
  rw [decide_eq_false]
  intro h1
  have h2 := congrArg (fun l => l[k]?) h1
  simp only [List.getElem?_map, List.getElem?_eq_getElem ha, List.getElem?_eq_getElem hb, Option.map_some, Option.some.injEq] at h2
  exact h h2
theorem sameS_yes {a b : List Sp} (hl : a.length = b.length) (h : (a.map Sp.key).take a.length = (b.map Sp.key).take a.length) : sameS a b = true := by
  unfold sameS
  rw [List.take_of_length_le (by simp), List.take_of_length_le (by simp; omega)] at h
  exact decide_eq_true h
theorem take_key {a b : List Sp} {k : Nat} (ha : k < a.length) (hb : k < b.length) (h : (a.map Sp.key).take k = (b.map Sp.key).take k) (he : a[k].key = b[k].key) : (a.map Sp.key).take (k + 1) = (b.map Sp.key).take (k + 1) := by
  rw [List.take_succ_eq_append_getElem (by simpa using ha), List.take_succ_eq_append_getElem (by simpa using hb), h]
  simp [he]
/-- One step and another. -/
def sameP (k s n : Int) (xs : List Int) (k' s' n' : Int) (ys : List Int) : Bool := decide (k = k' ∧ s = s' ∧ n = n' ∧ xs = ys)
set_option maxHeartbeats 4000000 in
set_option maxRecDepth 100000 in
theorem samep_c (k s n k' s' n' : Int) (A B : Option Addr) (c d : Nat) (xs ys : List Int) (w : World) (hA : Src w 1 A xs.length (bc xs)) (hB : Src w 1 B ys.length (bc ys)) (hx : Byt xs) (hy : Byt ys) :
    Calls Try.prog 31 #[.agg #[.int .i64 k, .int .i64 s, .int .i64 n, .slice A xs.length c], .agg #[.int .i64 k', .int .i64 s', .int .i64 n', .slice B ys.length d]] w fun e w' => e = .returned (.bool (sameP k s n xs k' s' n' ys)) ∧ Ext w w' := by
  have C := fun W (h : Ext w W) => bequal_c A B _ _ c d xs ys W (hA.ext h) (hB.ext h) hx hy
  by_cases h1 : k = k'
  · by_cases h2 : s = s'
    · by_cases h3 : n = n'
      · have e : sameP k s n xs k' s' n' ys = decide (xs = ys) := by unfold sameP; rw [decide_eq_decide]; simp [h1, h2, h3]
        rw [e]
        subst h1 h2 h3
        generalize decide (xs = ys) = r at C ⊢
        have HC := Lib.hid C
        have b1 : (k == k) = true := by simp
        have b2 : (s == s) = true := by simp
        have b3 : (n == n) = true := by simp
        clear C e hA hB hx hy
        go_enter Try.func31, Try.ntmps31
        go_wp2_with fail
        refine (HC.out _ (by repeat (first | (with_reducible exact Ext.refl _) | (with_reducible assumption) | (with_reducible refine Ext.alloc ?_ _) | (with_reducible refine Ext.drew ?_) | (with_reducible refine Ext.drewN ?_ _) | (with_reducible refine Ext.setCell ?_ (by simp; try omega) _) | (with_reducible refine Ext.setRow ?_ (by simp; try omega) _)))).mono ?_
        rintro e w1 ⟨rfl, hx1⟩
        go_wp2_with fail
        first | refine fin_ret rfl (fun K hK => ?_) | refine fin_norm rfl (fun K hK => ?_)
        simp [results, Try.results31, go_sem, rsat]
        try go_simp
        refine hK _ ?_
        clear hK K
        exact ⟨rfl, Ext.trans (by repeat (first | (with_reducible exact Ext.refl _) | (with_reducible assumption) | (with_reducible refine Ext.alloc ?_ _) | (with_reducible refine Ext.drew ?_) | (with_reducible refine Ext.drewN ?_ _) | (with_reducible refine Ext.setCell ?_ (by simp; try omega) _) | (with_reducible refine Ext.setRow ?_ (by simp; try omega) _))) hx1⟩
      · have e : sameP k s n xs k' s' n' ys = false := by unfold sameP; rw [decide_eq_false]; rintro ⟨_, _, h, _⟩; exact h3 h
        rw [e]
        have b3 : (n == n') = false := beq_eq_false_iff_ne.2 h3
        subst h1 h2
        have b1 : (k == k) = true := by simp
        have b2 : (s == s) = true := by simp
        clear C e hA hB hx hy h3
        go_enter Try.func31, Try.ntmps31
        go_wp2_with fail
        first | refine fin_ret rfl (fun K hK => ?_) | refine fin_norm rfl (fun K hK => ?_)
        simp [results, Try.results31, go_sem, rsat]
        try go_simp
        refine hK _ ?_
        clear hK K
        exact ⟨rfl, (by repeat (first | (with_reducible exact Ext.refl _) | (with_reducible assumption) | (with_reducible refine Ext.alloc ?_ _) | (with_reducible refine Ext.drew ?_) | (with_reducible refine Ext.drewN ?_ _) | (with_reducible refine Ext.setCell ?_ (by simp; try omega) _) | (with_reducible refine Ext.setRow ?_ (by simp; try omega) _)))⟩
    · have e : sameP k s n xs k' s' n' ys = false := by unfold sameP; rw [decide_eq_false]; rintro ⟨_, h, _, _⟩; exact h2 h
      rw [e]
      have b2 : (s == s') = false := beq_eq_false_iff_ne.2 h2
      subst h1
      have b1 : (k == k) = true := by simp
      clear C e hA hB hx hy h2
      go_enter Try.func31, Try.ntmps31
      go_wp2_with fail
      first | refine fin_ret rfl (fun K hK => ?_) | refine fin_norm rfl (fun K hK => ?_)
      simp [results, Try.results31, go_sem, rsat]
      try go_simp
      refine hK _ ?_
      clear hK K
      exact ⟨rfl, (by repeat (first | (with_reducible exact Ext.refl _) | (with_reducible assumption) | (with_reducible refine Ext.alloc ?_ _) | (with_reducible refine Ext.drew ?_) | (with_reducible refine Ext.drewN ?_ _) | (with_reducible refine Ext.setCell ?_ (by simp; try omega) _) | (with_reducible refine Ext.setRow ?_ (by simp; try omega) _)))⟩
  · have e : sameP k s n xs k' s' n' ys = false := by unfold sameP; rw [decide_eq_false]; rintro ⟨h, _, _, _⟩; exact h1 h
    rw [e]
    have b1 : (k == k') = false := beq_eq_false_iff_ne.2 h1
    clear C e hA hB hx hy h1
    go_enter Try.func31, Try.ntmps31
    go_wp2_with fail
    first | refine fin_ret rfl (fun K hK => ?_) | refine fin_norm rfl (fun K hK => ?_)
    simp [results, Try.results31, go_sem, rsat]
    try go_simp
    refine hK _ ?_
    clear hK K
    exact ⟨rfl, (by repeat (first | (with_reducible exact Ext.refl _) | (with_reducible assumption) | (with_reducible refine Ext.alloc ?_ _) | (with_reducible refine Ext.drew ?_) | (with_reducible refine Ext.drewN ?_ _) | (with_reducible refine Ext.setCell ?_ (by simp; try omega) _) | (with_reducible refine Ext.setRow ?_ (by simp; try omega) _)))⟩
set_option maxHeartbeats 8000000 in
set_option maxRecDepth 100000 in
theorem eqfunc_c (x y : Sts) (w : World) (hx : x.At w) (hy : y.At w) : Calls Try.prog 30 #[x.v, y.v, .func (.func 31) #[] #[]] w fun e w' => e = .returned (.bool (sameS x.l y.l)) ∧ Ext w w' := by
  unfold Sts.v
  obtain ⟨A, c, l⟩ := x
  obtain ⟨B, d, m⟩ := y
  have hlm : l.length ≤ 9223372036854775807 := by have := hx.le; have := hx.max; unfold maxLen at this; simp only at *; omega
  have hmm : m.length ≤ 9223372036854775807 := by have := hy.le; have := hy.max; unfold maxLen at this; simp only at *; omega
  simp only at hlm hmm ⊢
  obtain ⟨R, hR⟩ : ∃ R, R = sameS l m := ⟨_, rfl⟩
  rw [← hR]
  by_cases hl : l.length = m.length
  · have HR := Lib.hid hR
    have HL := Lib.hid hl
    have hlb : ((l.length : Int) != (m.length : Int)) = false := by rw [hl]; simp
    clear hR hl
    go_enter Try.func30, Try.ntmps30
    go_wp2_with fail
    go_loopw [17] (fun i wr => ∃ (k : Nat), i = .int .i64 k ∧ k ≤ l.length ∧ (l.map Sp.key).take k = (m.map Sp.key).take k ∧ Ext w wr) (fun i _ => l.length - (intOf i).toNat)
    case atStart => exact ⟨0, rfl, by omega, by simp, Ext.refl _⟩
    case round =>
      obtain ⟨k, rfl, hk, ht, hxw⟩ := hrel
      by_cases hlt : k < l.length
      · have hlt2 : k < m.length := by have := HL.out; omega
        obtain ⟨b, off, hA, hb, hs⟩ := hx.elem k hlt
        obtain ⟨b2, off2, hB, hb2, hs2⟩ := hy.elem k hlt2
        simp only at hA hs hB hs2
        subst hA hB
        have hno := fun h => sameS_no hlt hlt2 h
        have hyes := fun h => take_key hlt hlt2 ht h
        have pok := hx.ok l[k] (List.getElem_mem _)
        have qok := hy.ok m[k] (List.getElem_mem _)
        have hki := key_iff l[k] m[k]
        generalize l[k] = p at hs pok hno hyes hki
        generalize m[k] = q at hs2 qok hno hyes hki
        rw [hki] at hyes
        rw [Ne, hki] at hno
        obtain ⟨kd, sy, n, ⟨RA, Rc, rx⟩⟩ := p
        obtain ⟨kd', sy', n', ⟨RA', Rc', rx'⟩⟩ := q
        have hs1 := (subAt_ext hxw hb).trans hs
        have hs3 := (subAt_ext hxw hb2).trans hs2
        have hbr : b < wr.heap.size := Nat.lt_of_lt_of_le hb hxw.size
        have hbr2 : b2 < wr.heap.size := Nat.lt_of_lt_of_le hb2 hxw.size
        have psr := pok.raw.src.ext hxw
        have psr2 := qok.raw.src.ext hxw
        have pby := pok.raw.byt
        have pby2 := qok.raw.byt
        simp only [Sp.cells, Bs.v] at hs1 hs3 psr psr2 pby pby2 hno hyes
        have hnw : b ≠ wr.heap.size := by omega
        have hnw2 : b2 ≠ wr.heap.size := by omega
        have C := fun W (h : Ext wr W) => samep_c kd sy n kd' sy' n' RA RA' Rc Rc' rx rx' W (psr.ext h) (psr2.ext h) pby pby2
        cases hsp : sameP kd sy n rx kd' sy' n' rx' with
        | false =>
          have := hno (by unfold sameP at hsp; exact of_decide_eq_false hsp)
          have HNO := Lib.hid this
          rw [hsp] at C
          have HC := Lib.hid C
          clear this hno hyes C hsp hs hs2
          go_wp2_with fail
          refine (HC.out _ (by repeat (first | (with_reducible exact Ext.refl _) | (with_reducible assumption) | (with_reducible refine Ext.alloc ?_ _) | (with_reducible refine Ext.drew ?_) | (with_reducible refine Ext.drewN ?_ _) | (with_reducible refine Ext.setCell ?_ (by simp; try omega) _) | (with_reducible refine Ext.setRow ?_ (by simp; try omega) _)))).mono ?_
          rintro e w2 ⟨rfl, hx2⟩
          go_wp2_with fail
          first | refine fin_ret rfl (fun K hK => ?_) | refine fin_norm rfl (fun K hK => ?_)
          simp [results, Try.results30, go_sem, rsat]
          try go_simp
          refine hK _ ?_
          clear hK K
          exact ⟨by rw [HR.out, HNO.out], Ext.trans (by repeat (first | (with_reducible exact Ext.refl _) | (with_reducible assumption) | (with_reducible refine Ext.alloc ?_ _) | (with_reducible refine Ext.drew ?_) | (with_reducible refine Ext.drewN ?_ _) | (with_reducible refine Ext.setCell ?_ (by simp; try omega) _) | (with_reducible refine Ext.setRow ?_ (by simp; try omega) _))) hx2⟩
        | true =>
          have := hyes (by unfold sameP at hsp; exact of_decide_eq_true hsp)
          have HY := Lib.hid this
          rw [hsp] at C
          have HC := Lib.hid C
          clear this hno hyes C hsp hs hs2
          go_wp2_with fail
          refine (HC.out _ (by repeat (first | (with_reducible exact Ext.refl _) | (with_reducible assumption) | (with_reducible refine Ext.alloc ?_ _) | (with_reducible refine Ext.drew ?_) | (with_reducible refine Ext.drewN ?_ _) | (with_reducible refine Ext.setCell ?_ (by simp; try omega) _) | (with_reducible refine Ext.setRow ?_ (by simp; try omega) _)))).mono ?_
          rintro e w2 ⟨rfl, hx2⟩
          go_wp2_with fail
          go_roundw
          case rel => exact ⟨k + 1, by go_num, by omega, HY.out, Ext.trans (by repeat (first | (with_reducible exact Ext.refl _) | (with_reducible assumption) | (with_reducible refine Ext.alloc ?_ _) | (with_reducible refine Ext.drew ?_) | (with_reducible refine Ext.drewN ?_ _) | (with_reducible refine Ext.setCell ?_ (by simp; try omega) _) | (with_reducible refine Ext.setRow ?_ (by simp; try omega) _))) hx2⟩
          case measure => simp [intOf]; omega
      · obtain rfl : k = l.length := by omega
        have := sameS_yes HL.out ht
        have HY := Lib.hid this
        clear this
        go_wp2_with fail
        first | refine fin_ret rfl (fun K hK => ?_) | refine fin_norm rfl (fun K hK => ?_)
        simp [results, Try.results30, go_sem, rsat]
        try go_simp
        refine hK _ ?_
        clear hK K
        exact ⟨by rw [HR.out, HY.out], (by repeat (first | (with_reducible exact Ext.refl _) | (with_reducible assumption) | (with_reducible refine Ext.alloc ?_ _) | (with_reducible refine Ext.drew ?_) | (with_reducible refine Ext.drewN ?_ _) | (with_reducible refine Ext.setCell ?_ (by simp; try omega) _) | (with_reducible refine Ext.setRow ?_ (by simp; try omega) _)))⟩
  · have hlb : ((l.length : Int) != (m.length : Int)) = true := bne_iff_ne.2 (by omega)
    rw [hR, sameS_len hl]
    clear hl hR
    go_enter Try.func30, Try.ntmps30
    go_wp2_with fail
    first | refine fin_ret rfl (fun K hK => ?_) | refine fin_norm rfl (fun K hK => ?_)
    simp [results, Try.results30, go_sem, rsat]
    try go_simp
    refine hK _ ?_
    clear hK K
    exact ⟨rfl, (by repeat (first | (with_reducible exact Ext.refl _) | (with_reducible assumption) | (with_reducible refine Ext.alloc ?_ _) | (with_reducible refine Ext.drew ?_) | (with_reducible refine Ext.drewN ?_ _) | (with_reducible refine Ext.setCell ?_ (by simp; try omega) _) | (with_reducible refine Ext.setRow ?_ (by simp; try omega) _)))⟩
theorem ssame_c (x y : Sts) (w : World) (hx : x.At w) (hy : y.At w) : Calls Try.prog 16 #[x.v, y.v] w fun e w' => e = .returned (.bool (sameS x.l y.l)) ∧ Ext w w' := by
  have C := eqfunc_c x y
  generalize sameS x.l y.l = r at C ⊢
  unfold Sts.v at *
  have HC := Lib.hid C
  clear C
  go_enter Try.func16, Try.ntmps16
  go_wp2_with fail
  refine (HC.out _ hx hy).mono ?_
  rintro e w1 ⟨rfl, hx1⟩
  go_wp2_with fail
  first | refine fin_ret rfl (fun K hK => ?_) | refine fin_norm rfl (fun K hK => ?_)
  simp [results, Try.results16, go_sem, rsat]
  try go_simp
  refine hK _ ?_
  clear hK K
  exact ⟨rfl, hx1⟩
set_option maxHeartbeats 16000000 in
set_option maxRecDepth 100000 in
theorem rssame_c (x y : Sts) (w : World) (hx : x.At w) (hy : y.At w) : Calls Try.prog 17 #[x.v, y.v] w fun e w' => e = .returned (.bool (sameS x.l y.l)) ∧ Ext w w' := by
  unfold Sts.v
  obtain ⟨A, c, l⟩ := x
  obtain ⟨B, d, m⟩ := y
  have hlm : l.length ≤ 9223372036854775807 := by have := hx.le; have := hx.max; unfold maxLen at this; simp only at *; omega
  have hmm : m.length ≤ 9223372036854775807 := by have := hy.le; have := hy.max; unfold maxLen at this; simp only at *; omega
  simp only at hlm hmm ⊢
  obtain ⟨R, hR⟩ : ∃ R, R = sameS l m := ⟨_, rfl⟩
  rw [← hR]
  by_cases hl : l.length = m.length
  · have HR := Lib.hid hR
    have HL := Lib.hid hl
    have hlb : ((l.length : Int) != (m.length : Int)) = false := by rw [hl]; simp
    clear hR hl
    go_enter Try.func17, Try.ntmps17
    go_wp2_with fail
    go_loopw [5] (fun i wr => ∃ (k : Nat), i = .int .i64 k ∧ k ≤ l.length ∧ (l.map Sp.key).take k = (m.map Sp.key).take k ∧ Ext w wr) (fun i _ => l.length - (intOf i).toNat)
    case atStart => exact ⟨0, rfl, by omega, by simp, Ext.refl _⟩
    case round =>
      obtain ⟨k, rfl, hk, ht, hxw⟩ := hrel
      by_cases hlt : k < l.length
      · have hlt2 : k < m.length := by have := HL.out; omega
        obtain ⟨b, off, hA, hb, hc⟩ := hx.cell (by simp only; omega)
        obtain ⟨b2, off2, hB, hb2, hc2⟩ := hy.cell (by simp only; omega)
        simp only at hA hc hB hc2
        subst hA hB
        have a0 := (hxw.facts.1 _ _ hb).trans (hc k hlt 0 (by decide))
        have a1 := (hxw.facts.1 _ _ hb).trans (hc k hlt 1 (by decide))
        have a2 := (hxw.facts.1 _ _ hb).trans (hc k hlt 2 (by decide))
        have a3 := (hxw.facts.1 _ _ hb).trans (hc k hlt 3 (by decide))
        have b0 := (hxw.facts.1 _ _ hb2).trans (hc2 k hlt2 0 (by decide))
        have b1 := (hxw.facts.1 _ _ hb2).trans (hc2 k hlt2 1 (by decide))
        have b2' := (hxw.facts.1 _ _ hb2).trans (hc2 k hlt2 2 (by decide))
        have b3 := (hxw.facts.1 _ _ hb2).trans (hc2 k hlt2 3 (by decide))
        have hno := fun h => sameS_no hlt hlt2 h
        have hyes := fun h => take_key hlt hlt2 ht h
        have pok := hx.ok l[k] (List.getElem_mem _)
        have qok := hy.ok m[k] (List.getElem_mem _)
        have hki := key_iff l[k] m[k]
        generalize l[k] = p at a0 a1 a2 a3 pok hno hyes hki
        generalize m[k] = q at b0 b1 b2' b3 qok hno hyes hki
        rw [hki] at hyes
        rw [Ne, hki] at hno
        obtain ⟨kd, sy, n, ⟨RA, Rc, rx⟩⟩ := p
        obtain ⟨kd', sy', n', ⟨RA', Rc', rx'⟩⟩ := q
        have hbr : b < wr.heap.size := Nat.lt_of_lt_of_le hb hxw.size
        have hbr2 : b2 < wr.heap.size := Nat.lt_of_lt_of_le hb2 hxw.size
        have psr := pok.raw.src.ext hxw
        have psr2 := qok.raw.src.ext hxw
        have pby := pok.raw.byt
        have pby2 := qok.raw.byt
        simp only [Sp.cells, Bs.v, List.getElem?_cons_succ, List.getElem?_cons_zero, Nat.add_zero, ← Nat.add_assoc] at a0 a1 a2 a3 b0 b1 b2' b3 psr psr2 pby pby2 hno hyes
        have C := fun W (h : Ext wr W) => same_c RA RA' _ _ Rc Rc' rx rx' W (psr.ext h) (psr2.ext h) pby pby2
        clear hc hc2 hki pok qok
        have HNO := Lib.hid hno
        have HY := Lib.hid hyes
        clear hno hyes ht
        by_cases k1 : kd = kd'
        · subst k1
          have q1 : (kd != kd) = false := by simp
          by_cases k2 : sy = sy'
          · subst k2
            have q2 : (sy != sy) = false := by simp
            by_cases k3 : n = n'
            · subst k3
              have q3 : (n != n) = false := by simp
              by_cases k4 : rx = rx'
              · rw [decide_eq_true k4] at C
                have HC := Lib.hid C
                have HK := Lib.hid k4
                clear C k4
                go_wp2_with fail
                refine wp_region_x 51 [0, 0, 0, 0, 1, 0, 0, 0, 0, 1, 0, 0, 0, 0, 0, 0, 1, 0, 0, 0, 0, 1, 0, 0, 0, 0, 0, 0, 0, 1, 0, 0, 0, 0, 1, 0, 0, 0, 0, 0, 0, 0, 1, 0, 0, 0, 0, 1, 1, 0, 0] (by kernel_rfl) (by kernel_rfl) (by kernel_rfl) ?_
                simp only [List.take_succ_cons, List.take_zero, List.drop_succ_cons, List.drop_zero]
                refine hl_pure (fun K hK => ?_)
                go_simp
                refine hK _ ?_
                clear hK K
                refine hl_pure (fun K hK => ?_)
                go_simp
                refine hK _ ?_
                clear hK K
                refine hl_pure (fun K hK => ?_)
                go_simp
                refine hK _ ?_
                clear hK K
                refine hl_pure (fun K hK => ?_)
                go_simp
                refine hK _ ?_
                clear hK K
                refine hl_quiet (fun K hK => ?_)
                go_simp
                refine hK _ ?_
                clear hK K
                refine hl_pure (fun K hK => ?_)
                go_simp
                refine hK _ ?_
                clear hK K
                refine hl_pure (fun K hK => ?_)
                go_simp
                refine hK _ ?_
                clear hK K
                refine hl_pure (fun K hK => ?_)
                go_simp
                refine hK _ ?_
                clear hK K
                refine hl_pure (fun K hK => ?_)
                go_simp
                refine hK _ ?_
                clear hK K
                refine hl_quiet (fun K hK => ?_)
                go_simp
                refine hK _ ?_
                clear hK K
                refine hl_pure (fun K hK => ?_)
                go_simp
                refine hK _ ?_
                clear hK K
                refine hl_pure (fun K hK => ?_)
                go_simp
                refine hK _ ?_
                clear hK K
                refine hl_pure (fun K hK => ?_)
                go_simp
                refine hK _ ?_
                clear hK K
                refine hl_pure (fun K hK => ?_)
                go_simp
                refine hK _ ?_
                clear hK K
                refine hl_pure (fun K hK => ?_)
                go_simp
                refine hK _ ?_
                clear hK K
                refine hl_pure (fun K hK => ?_)
                go_simp
                refine hK _ ?_
                clear hK K
                refine hl_quiet (fun K hK => ?_)
                go_simp
                refine hK _ ?_
                clear hK K
                refine hl_pure (fun K hK => ?_)
                go_simp
                refine hK _ ?_
                clear hK K
                refine hl_pure (fun K hK => ?_)
                go_simp
                refine hK _ ?_
                clear hK K
                refine hl_pure (fun K hK => ?_)
                go_simp
                refine hK _ ?_
                clear hK K
                refine hl_pure (fun K hK => ?_)
                go_simp
                refine hK _ ?_
                clear hK K
                refine hl_quiet (fun K hK => ?_)
                go_simp
                refine hK _ ?_
                clear hK K
                refine hl_pure (fun K hK => ?_)
                go_simp
                refine hK _ ?_
                clear hK K
                refine hl_pure (fun K hK => ?_)
                go_simp
                refine hK _ ?_
                clear hK K
                refine hl_pure (fun K hK => ?_)
                go_simp
                refine hK _ ?_
                clear hK K
                refine hl_pure (fun K hK => ?_)
                go_simp
                refine hK _ ?_
                clear hK K
                refine hl_pure (fun K hK => ?_)
                go_simp
                refine hK _ ?_
                clear hK K
                refine hl_pure (fun K hK => ?_)
                go_simp
                refine hK _ ?_
                clear hK K
                refine hl_pure (fun K hK => ?_)
                go_simp
                refine hK _ ?_
                clear hK K
                refine hl_quiet (fun K hK => ?_)
                go_simp
                refine hK _ ?_
                clear hK K
                refine hl_pure (fun K hK => ?_)
                go_simp
                refine hK _ ?_
                clear hK K
                refine hl_pure (fun K hK => ?_)
                go_simp
                refine hK _ ?_
                clear hK K
                refine hl_pure (fun K hK => ?_)
                go_simp
                refine hK _ ?_
                clear hK K
                refine hl_pure (fun K hK => ?_)
                go_simp
                refine hK _ ?_
                clear hK K
                refine hl_quiet (fun K hK => ?_)
                go_simp
                refine hK _ ?_
                clear hK K
                refine hl_pure (fun K hK => ?_)
                go_simp
                refine hK _ ?_
                clear hK K
                refine hl_pure (fun K hK => ?_)
                go_simp
                refine hK _ ?_
                clear hK K
                refine hl_pure (fun K hK => ?_)
                go_simp
                refine hK _ ?_
                clear hK K
                refine hl_pure (fun K hK => ?_)
                go_simp
                refine hK _ ?_
                clear hK K
                refine hl_pure (fun K hK => ?_)
                go_simp
                refine hK _ ?_
                clear hK K
                refine hl_pure (fun K hK => ?_)
                go_simp
                refine hK _ ?_
                clear hK K
                refine hl_pure (fun K hK => ?_)
                go_simp
                refine hK _ ?_
                clear hK K
                refine hl_quiet (fun K hK => ?_)
                go_simp
                refine hK _ ?_
                clear hK K
                refine hl_pure (fun K hK => ?_)
                go_simp
                refine hK _ ?_
                clear hK K
                refine hl_pure (fun K hK => ?_)
                go_simp
                refine hK _ ?_
                clear hK K
                refine hl_pure (fun K hK => ?_)
                go_simp
                refine hK _ ?_
                clear hK K
                refine hl_pure (fun K hK => ?_)
                go_simp
                refine hK _ ?_
                clear hK K
                refine hl_quiet (fun K hK => ?_)
                go_simp
                refine hK _ ?_
                clear hK K
                refine hl_quiet (fun K hK => ?_)
                go_simp
                first
                  | (refine hK _ ?_; clear hK K)
                  | (apply Exists.intro; refine ⟨fun x => ?_, hK _ ?_⟩
                     · (exact HC.out _ x.ext)
                     clear hK K)
                refine hl_pure (fun K hK => ?_)
                go_simp
                refine hK _ ?_
                clear hK K
                refine hl_pure (fun K hK => ?_)
                go_simp
                refine hK _ ?_
                clear hK K
                refine hl_nil ?_
                intro w2 hxw2 K hK
                have xw2 : Ext w w2 := Ext.trans (by repeat (first | (with_reducible exact Ext.refl _) | (with_reducible assumption) | (with_reducible refine Ext.alloc ?_ _) | (with_reducible refine Ext.drew ?_) | (with_reducible refine Ext.drewN ?_ _) | (with_reducible refine Ext.setCell ?_ (by simp; try omega) _) | (with_reducible refine Ext.setRow ?_ (by simp; try omega) _))) hxw2
                obtain ⟨hcw2, hfw2⟩ := hxw2.facts
                have hsw2 := hxw2.size
                try simp only [World.size_drew, World.size_alloc, World.size_setCell] at hsw2 hcw2 hfw2
                go_wp2_with fail
                go_roundw
                case rel => exact ⟨k + 1, by go_num, by omega, HY.out (by simpa using HK.out), Ext.trans hxw hxw2⟩
                case measure => simp [intOf]; omega
              · rw [decide_eq_false k4] at C
                have HC := Lib.hid C
                have HK := Lib.hid k4
                clear C k4
                go_wp2_with fail
                refine wp_region_x 51 [0, 0, 0, 0, 1, 0, 0, 0, 0, 1, 0, 0, 0, 0, 0, 0, 1, 0, 0, 0, 0, 1, 0, 0, 0, 0, 0, 0, 0, 1, 0, 0, 0, 0, 1, 0, 0, 0, 0, 0, 0, 0, 1, 0, 0, 0, 0, 1, 1, 0, 0] (by kernel_rfl) (by kernel_rfl) (by kernel_rfl) ?_
                simp only [List.take_succ_cons, List.take_zero, List.drop_succ_cons, List.drop_zero]
                refine hl_pure (fun K hK => ?_)
                go_simp
                refine hK _ ?_
                clear hK K
                refine hl_pure (fun K hK => ?_)
                go_simp
                refine hK _ ?_
                clear hK K
                refine hl_pure (fun K hK => ?_)
                go_simp
                refine hK _ ?_
                clear hK K
                refine hl_pure (fun K hK => ?_)
                go_simp
                refine hK _ ?_
                clear hK K
                refine hl_quiet (fun K hK => ?_)
                go_simp
                refine hK _ ?_
                clear hK K
                refine hl_pure (fun K hK => ?_)
                go_simp
                refine hK _ ?_
                clear hK K
                refine hl_pure (fun K hK => ?_)
                go_simp
                refine hK _ ?_
                clear hK K
                refine hl_pure (fun K hK => ?_)
                go_simp
                refine hK _ ?_
                clear hK K
                refine hl_pure (fun K hK => ?_)
                go_simp
                refine hK _ ?_
                clear hK K
                refine hl_quiet (fun K hK => ?_)
                go_simp
                refine hK _ ?_
                clear hK K
                refine hl_pure (fun K hK => ?_)
                go_simp
                refine hK _ ?_
                clear hK K
                refine hl_pure (fun K hK => ?_)
                go_simp
                refine hK _ ?_
                clear hK K
                refine hl_pure (fun K hK => ?_)
                go_simp
                refine hK _ ?_
                clear hK K
                refine hl_pure (fun K hK => ?_)
                go_simp
                refine hK _ ?_
                clear hK K
                refine hl_pure (fun K hK => ?_)
                go_simp
                refine hK _ ?_
                clear hK K
                refine hl_pure (fun K hK => ?_)
                go_simp
                refine hK _ ?_
                clear hK K
                refine hl_quiet (fun K hK => ?_)
                go_simp
                refine hK _ ?_
                clear hK K
                refine hl_pure (fun K hK => ?_)
                go_simp
                refine hK _ ?_
                clear hK K
                refine hl_pure (fun K hK => ?_)
                go_simp
                refine hK _ ?_
                clear hK K
                refine hl_pure (fun K hK => ?_)
                go_simp
                refine hK _ ?_
                clear hK K
                refine hl_pure (fun K hK => ?_)
                go_simp
                refine hK _ ?_
                clear hK K
                refine hl_quiet (fun K hK => ?_)
                go_simp
                refine hK _ ?_
                clear hK K
                refine hl_pure (fun K hK => ?_)
                go_simp
                refine hK _ ?_
                clear hK K
                refine hl_pure (fun K hK => ?_)
                go_simp
                refine hK _ ?_
                clear hK K
                refine hl_pure (fun K hK => ?_)
                go_simp
                refine hK _ ?_
                clear hK K
                refine hl_pure (fun K hK => ?_)
                go_simp
                refine hK _ ?_
                clear hK K
                refine hl_pure (fun K hK => ?_)
                go_simp
                refine hK _ ?_
                clear hK K
                refine hl_pure (fun K hK => ?_)
                go_simp
                refine hK _ ?_
                clear hK K
                refine hl_pure (fun K hK => ?_)
                go_simp
                refine hK _ ?_
                clear hK K
                refine hl_quiet (fun K hK => ?_)
                go_simp
                refine hK _ ?_
                clear hK K
                refine hl_pure (fun K hK => ?_)
                go_simp
                refine hK _ ?_
                clear hK K
                refine hl_pure (fun K hK => ?_)
                go_simp
                refine hK _ ?_
                clear hK K
                refine hl_pure (fun K hK => ?_)
                go_simp
                refine hK _ ?_
                clear hK K
                refine hl_pure (fun K hK => ?_)
                go_simp
                refine hK _ ?_
                clear hK K
                refine hl_quiet (fun K hK => ?_)
                go_simp
                refine hK _ ?_
                clear hK K
                refine hl_pure (fun K hK => ?_)
                go_simp
                refine hK _ ?_
                clear hK K
                refine hl_pure (fun K hK => ?_)
                go_simp
                refine hK _ ?_
                clear hK K
                refine hl_pure (fun K hK => ?_)
                go_simp
                refine hK _ ?_
                clear hK K
                refine hl_pure (fun K hK => ?_)
                go_simp
                refine hK _ ?_
                clear hK K
                refine hl_pure (fun K hK => ?_)
                go_simp
                refine hK _ ?_
                clear hK K
                refine hl_pure (fun K hK => ?_)
                go_simp
                refine hK _ ?_
                clear hK K
                refine hl_pure (fun K hK => ?_)
                go_simp
                refine hK _ ?_
                clear hK K
                refine hl_quiet (fun K hK => ?_)
                go_simp
                refine hK _ ?_
                clear hK K
                refine hl_pure (fun K hK => ?_)
                go_simp
                refine hK _ ?_
                clear hK K
                refine hl_pure (fun K hK => ?_)
                go_simp
                refine hK _ ?_
                clear hK K
                refine hl_pure (fun K hK => ?_)
                go_simp
                refine hK _ ?_
                clear hK K
                refine hl_pure (fun K hK => ?_)
                go_simp
                refine hK _ ?_
                clear hK K
                refine hl_quiet (fun K hK => ?_)
                go_simp
                refine hK _ ?_
                clear hK K
                refine hl_quiet (fun K hK => ?_)
                go_simp
                first
                  | (refine hK _ ?_; clear hK K)
                  | (apply Exists.intro; refine ⟨fun x => ?_, hK _ ?_⟩
                     · (exact HC.out _ x.ext)
                     clear hK K)
                refine hl_pure (fun K hK => ?_)
                go_simp
                refine hK _ ?_
                clear hK K
                refine hl_pure (fun K hK => ?_)
                go_simp
                refine hK _ ?_
                clear hK K
                refine hl_nil ?_
                intro w2 hxw2 K hK
                have xw2 : Ext w w2 := Ext.trans (by repeat (first | (with_reducible exact Ext.refl _) | (with_reducible assumption) | (with_reducible refine Ext.alloc ?_ _) | (with_reducible refine Ext.drew ?_) | (with_reducible refine Ext.drewN ?_ _) | (with_reducible refine Ext.setCell ?_ (by simp; try omega) _) | (with_reducible refine Ext.setRow ?_ (by simp; try omega) _))) hxw2
                obtain ⟨hcw2, hfw2⟩ := hxw2.facts
                have hsw2 := hxw2.size
                try simp only [World.size_drew, World.size_alloc, World.size_setCell] at hsw2 hcw2 hfw2
                go_wp2_with fail
                first | refine fin_ret rfl (fun K hK => ?_) | refine fin_norm rfl (fun K hK => ?_)
                simp [results, Try.results17, go_sem, rsat]
                try go_simp
                refine hK _ ?_
                clear hK K
                exact ⟨by rw [HR.out, HNO.out (fun h => HK.out h.2.2.2)], (by repeat (first | (with_reducible exact Ext.refl _) | (with_reducible assumption) | (with_reducible refine Ext.alloc ?_ _) | (with_reducible refine Ext.drew ?_) | (with_reducible refine Ext.drewN ?_ _) | (with_reducible refine Ext.setCell ?_ (by simp; try omega) _) | (with_reducible refine Ext.setRow ?_ (by simp; try omega) _)))⟩
            · have q3 : (n != n') = true := bne_iff_ne.2 k3
              have HK := Lib.hid k3
              clear C k3
              go_wp2_with fail
              refine wp_region_x 51 [0, 0, 0, 0, 1, 0, 0, 0, 0, 1, 0, 0, 0, 0, 0, 0, 1, 0, 0, 0, 0, 1, 0, 0, 0, 0, 0, 0, 0, 1, 0, 0, 0, 0, 1, 0, 0, 0, 0, 0, 0, 0, 1, 0, 0, 0, 0, 1, 1, 0, 0] (by kernel_rfl) (by kernel_rfl) (by kernel_rfl) ?_
              simp only [List.take_succ_cons, List.take_zero, List.drop_succ_cons, List.drop_zero]
              refine hl_pure (fun K hK => ?_)
              go_simp
              refine hK _ ?_
              clear hK K
              refine hl_pure (fun K hK => ?_)
              go_simp
              refine hK _ ?_
              clear hK K
              refine hl_pure (fun K hK => ?_)
              go_simp
              refine hK _ ?_
              clear hK K
              refine hl_pure (fun K hK => ?_)
              go_simp
              refine hK _ ?_
              clear hK K
              refine hl_quiet (fun K hK => ?_)
              go_simp
              refine hK _ ?_
              clear hK K
              refine hl_pure (fun K hK => ?_)
              go_simp
              refine hK _ ?_
              clear hK K
              refine hl_pure (fun K hK => ?_)
              go_simp
              refine hK _ ?_
              clear hK K
              refine hl_pure (fun K hK => ?_)
              go_simp
              refine hK _ ?_
              clear hK K
              refine hl_pure (fun K hK => ?_)
              go_simp
              refine hK _ ?_
              clear hK K
              refine hl_quiet (fun K hK => ?_)
              go_simp
              refine hK _ ?_
              clear hK K
              refine hl_pure (fun K hK => ?_)
              go_simp
              refine hK _ ?_
              clear hK K
              refine hl_pure (fun K hK => ?_)
              go_simp
              refine hK _ ?_
              clear hK K
              refine hl_pure (fun K hK => ?_)
              go_simp
              refine hK _ ?_
              clear hK K
              refine hl_pure (fun K hK => ?_)
              go_simp
              refine hK _ ?_
              clear hK K
              refine hl_pure (fun K hK => ?_)
              go_simp
              refine hK _ ?_
              clear hK K
              refine hl_pure (fun K hK => ?_)
              go_simp
              refine hK _ ?_
              clear hK K
              refine hl_quiet (fun K hK => ?_)
              go_simp
              refine hK _ ?_
              clear hK K
              refine hl_pure (fun K hK => ?_)
              go_simp
              refine hK _ ?_
              clear hK K
              refine hl_pure (fun K hK => ?_)
              go_simp
              refine hK _ ?_
              clear hK K
              refine hl_pure (fun K hK => ?_)
              go_simp
              refine hK _ ?_
              clear hK K
              refine hl_pure (fun K hK => ?_)
              go_simp
              refine hK _ ?_
              clear hK K
              refine hl_quiet (fun K hK => ?_)
              go_simp
              refine hK _ ?_
              clear hK K
              refine hl_pure (fun K hK => ?_)
              go_simp
              refine hK _ ?_
              clear hK K
              refine hl_pure (fun K hK => ?_)
              go_simp
              refine hK _ ?_
              clear hK K
              refine hl_pure (fun K hK => ?_)
              go_simp
              refine hK _ ?_
              clear hK K
              refine hl_pure (fun K hK => ?_)
              go_simp
              refine hK _ ?_
              clear hK K
              refine hl_pure (fun K hK => ?_)
              go_simp
              refine hK _ ?_
              clear hK K
              refine hl_pure (fun K hK => ?_)
              go_simp
              refine hK _ ?_
              clear hK K
              refine hl_pure (fun K hK => ?_)
              go_simp
              refine hK _ ?_
              clear hK K
              refine hl_quiet (fun K hK => ?_)
              go_simp
              refine hK _ ?_
              clear hK K
              refine hl_pure (fun K hK => ?_)
              go_simp
              refine hK _ ?_
              clear hK K
              refine hl_pure (fun K hK => ?_)
              go_simp
              refine hK _ ?_
              clear hK K
              refine hl_pure (fun K hK => ?_)
              go_simp
              refine hK _ ?_
              clear hK K
              refine hl_pure (fun K hK => ?_)
              go_simp
              refine hK _ ?_
              clear hK K
              refine hl_quiet (fun K hK => ?_)
              go_simp
              refine hK _ ?_
              clear hK K
              refine hl_pure (fun K hK => ?_)
              go_simp
              refine hK _ ?_
              clear hK K
              refine hl_pure (fun K hK => ?_)
              go_simp
              refine hK _ ?_
              clear hK K
              refine hl_pure (fun K hK => ?_)
              go_simp
              refine hK _ ?_
              clear hK K
              refine hl_pure (fun K hK => ?_)
              go_simp
              refine hK _ ?_
              clear hK K
              refine hl_pure (fun K hK => ?_)
              go_simp
              refine hK _ ?_
              clear hK K
              refine hl_pure (fun K hK => ?_)
              go_simp
              refine hK _ ?_
              clear hK K
              refine hl_pure (fun K hK => ?_)
              go_simp
              refine hK _ ?_
              clear hK K
              refine hl_quiet (fun K hK => ?_)
              go_simp
              refine hK _ ?_
              clear hK K
              refine hl_pure (fun K hK => ?_)
              go_simp
              refine hK _ ?_
              clear hK K
              refine hl_pure (fun K hK => ?_)
              go_simp
              refine hK _ ?_
              clear hK K
              refine hl_pure (fun K hK => ?_)
              go_simp
              refine hK _ ?_
              clear hK K
              refine hl_pure (fun K hK => ?_)
              go_simp
              refine hK _ ?_
              clear hK K
              refine hl_quiet (fun K hK => ?_)
              go_simp
              refine hK _ ?_
              clear hK K
              refine hl_quiet (fun K hK => ?_)
              go_simp
              first
                | (refine hK _ ?_; clear hK K)
                | (apply Exists.intro; refine ⟨fun x => ?_, hK _ ?_⟩
                   · (fail)
                   clear hK K)
              refine hl_pure (fun K hK => ?_)
              go_simp
              refine hK _ ?_
              clear hK K
              refine hl_pure (fun K hK => ?_)
              go_simp
              refine hK _ ?_
              clear hK K
              refine hl_nil ?_
              intro w2 hxw2 K hK
              have xw2 : Ext w w2 := Ext.trans (by repeat (first | (with_reducible exact Ext.refl _) | (with_reducible assumption) | (with_reducible refine Ext.alloc ?_ _) | (with_reducible refine Ext.drew ?_) | (with_reducible refine Ext.drewN ?_ _) | (with_reducible refine Ext.setCell ?_ (by simp; try omega) _) | (with_reducible refine Ext.setRow ?_ (by simp; try omega) _))) hxw2
              obtain ⟨hcw2, hfw2⟩ := hxw2.facts
              have hsw2 := hxw2.size
              try simp only [World.size_drew, World.size_alloc, World.size_setCell] at hsw2 hcw2 hfw2
              go_wp2_with fail
              first | refine fin_ret rfl (fun K hK => ?_) | refine fin_norm rfl (fun K hK => ?_)
              simp [results, Try.results17, go_sem, rsat]
              try go_simp
              refine hK _ ?_
              clear hK K
              exact ⟨by rw [HR.out, HNO.out (fun h => HK.out h.2.2.1)], (by repeat (first | (with_reducible exact Ext.refl _) | (with_reducible assumption) | (with_reducible refine Ext.alloc ?_ _) | (with_reducible refine Ext.drew ?_) | (with_reducible refine Ext.drewN ?_ _) | (with_reducible refine Ext.setCell ?_ (by simp; try omega) _) | (with_reducible refine Ext.setRow ?_ (by simp; try omega) _)))⟩
          · have q2 : (sy != sy') = true := bne_iff_ne.2 k2
            have HK := Lib.hid k2
            clear C k2
            go_wp2_with fail
            refine wp_region_x 51 [0, 0, 0, 0, 1, 0, 0, 0, 0, 1, 0, 0, 0, 0, 0, 0, 1, 0, 0, 0, 0, 1, 0, 0, 0, 0, 0, 0, 0, 1, 0, 0, 0, 0, 1, 0, 0, 0, 0, 0, 0, 0, 1, 0, 0, 0, 0, 1, 1, 0, 0] (by kernel_rfl) (by kernel_rfl) (by kernel_rfl) ?_
            simp only [List.take_succ_cons, List.take_zero, List.drop_succ_cons, List.drop_zero]
            refine hl_pure (fun K hK => ?_)
            go_simp
            refine hK _ ?_
            clear hK K
            refine hl_pure (fun K hK => ?_)
            go_simp
            refine hK _ ?_
            clear hK K
            refine hl_pure (fun K hK => ?_)
            go_simp
            refine hK _ ?_
            clear hK K
            refine hl_pure (fun K hK => ?_)
            go_simp
            refine hK _ ?_
            clear hK K
            refine hl_quiet (fun K hK => ?_)
            go_simp
            refine hK _ ?_
            clear hK K
            refine hl_pure (fun K hK => ?_)
            go_simp
            refine hK _ ?_
            clear hK K
            refine hl_pure (fun K hK => ?_)
            go_simp
            refine hK _ ?_
            clear hK K
            refine hl_pure (fun K hK => ?_)
            go_simp
            refine hK _ ?_
            clear hK K
            refine hl_pure (fun K hK => ?_)
            go_simp
            refine hK _ ?_
            clear hK K
            refine hl_quiet (fun K hK => ?_)
            go_simp
            refine hK _ ?_
            clear hK K
            refine hl_pure (fun K hK => ?_)
            go_simp
            refine hK _ ?_
            clear hK K
            refine hl_pure (fun K hK => ?_)
            go_simp
            refine hK _ ?_
            clear hK K
            refine hl_pure (fun K hK => ?_)
            go_simp
            refine hK _ ?_
            clear hK K
            refine hl_pure (fun K hK => ?_)
            go_simp
            refine hK _ ?_
            clear hK K
            refine hl_pure (fun K hK => ?_)
            go_simp
            refine hK _ ?_
            clear hK K
            refine hl_pure (fun K hK => ?_)
            go_simp
            refine hK _ ?_
            clear hK K
            refine hl_quiet (fun K hK => ?_)
            go_simp
            refine hK _ ?_
            clear hK K
            refine hl_pure (fun K hK => ?_)
            go_simp
            refine hK _ ?_
            clear hK K
            refine hl_pure (fun K hK => ?_)
            go_simp
            refine hK _ ?_
            clear hK K
            refine hl_pure (fun K hK => ?_)
            go_simp
            refine hK _ ?_
            clear hK K
            refine hl_pure (fun K hK => ?_)
            go_simp
            refine hK _ ?_
            clear hK K
            refine hl_quiet (fun K hK => ?_)
            go_simp
            refine hK _ ?_
            clear hK K
            refine hl_pure (fun K hK => ?_)
            go_simp
            refine hK _ ?_
            clear hK K
            refine hl_pure (fun K hK => ?_)
            go_simp
            refine hK _ ?_
            clear hK K
            refine hl_pure (fun K hK => ?_)
            go_simp
            refine hK _ ?_
            clear hK K
            refine hl_pure (fun K hK => ?_)
            go_simp
            refine hK _ ?_
            clear hK K
            refine hl_pure (fun K hK => ?_)
            go_simp
            refine hK _ ?_
            clear hK K
            refine hl_pure (fun K hK => ?_)
            go_simp
            refine hK _ ?_
            clear hK K
            refine hl_pure (fun K hK => ?_)
            go_simp
            refine hK _ ?_
            clear hK K
            refine hl_quiet (fun K hK => ?_)
            go_simp
            refine hK _ ?_
            clear hK K
            refine hl_pure (fun K hK => ?_)
            go_simp
            refine hK _ ?_
            clear hK K
            refine hl_pure (fun K hK => ?_)
            go_simp
            refine hK _ ?_
            clear hK K
            refine hl_pure (fun K hK => ?_)
            go_simp
            refine hK _ ?_
            clear hK K
            refine hl_pure (fun K hK => ?_)
            go_simp
            refine hK _ ?_
            clear hK K
            refine hl_quiet (fun K hK => ?_)
            go_simp
            refine hK _ ?_
            clear hK K
            refine hl_pure (fun K hK => ?_)
            go_simp
            refine hK _ ?_
            clear hK K
            refine hl_pure (fun K hK => ?_)
            go_simp
            refine hK _ ?_
            clear hK K
            refine hl_pure (fun K hK => ?_)
            go_simp
            refine hK _ ?_
            clear hK K
            refine hl_pure (fun K hK => ?_)
            go_simp
            refine hK _ ?_
            clear hK K
            refine hl_pure (fun K hK => ?_)
            go_simp
            refine hK _ ?_
            clear hK K
            refine hl_pure (fun K hK => ?_)
            go_simp
            refine hK _ ?_
            clear hK K
            refine hl_pure (fun K hK => ?_)
            go_simp
            refine hK _ ?_
            clear hK K
            refine hl_quiet (fun K hK => ?_)
            go_simp
            refine hK _ ?_
            clear hK K
            refine hl_pure (fun K hK => ?_)
            go_simp
            refine hK _ ?_
            clear hK K
            refine hl_pure (fun K hK => ?_)
            go_simp
            refine hK _ ?_
            clear hK K
            refine hl_pure (fun K hK => ?_)
            go_simp
            refine hK _ ?_
            clear hK K
            refine hl_pure (fun K hK => ?_)
            go_simp
            refine hK _ ?_
            clear hK K
            refine hl_quiet (fun K hK => ?_)
            go_simp
            refine hK _ ?_
            clear hK K
            refine hl_quiet (fun K hK => ?_)
            go_simp
            first
              | (refine hK _ ?_; clear hK K)
              | (apply Exists.intro; refine ⟨fun x => ?_, hK _ ?_⟩
                 · (fail)
                 clear hK K)
            refine hl_pure (fun K hK => ?_)
            go_simp
            refine hK _ ?_
            clear hK K
            refine hl_pure (fun K hK => ?_)
            go_simp
            refine hK _ ?_
            clear hK K
            refine hl_nil ?_
            intro w2 hxw2 K hK
            have xw2 : Ext w w2 := Ext.trans (by repeat (first | (with_reducible exact Ext.refl _) | (with_reducible assumption) | (with_reducible refine Ext.alloc ?_ _) | (with_reducible refine Ext.drew ?_) | (with_reducible refine Ext.drewN ?_ _) | (with_reducible refine Ext.setCell ?_ (by simp; try omega) _) | (with_reducible refine Ext.setRow ?_ (by simp; try omega) _))) hxw2
            obtain ⟨hcw2, hfw2⟩ := hxw2.facts
            have hsw2 := hxw2.size
            try simp only [World.size_drew, World.size_alloc, World.size_setCell] at hsw2 hcw2 hfw2
            go_wp2_with fail
            first | refine fin_ret rfl (fun K hK => ?_) | refine fin_norm rfl (fun K hK => ?_)
            simp [results, Try.results17, go_sem, rsat]
            try go_simp
            refine hK _ ?_
            clear hK K
            exact ⟨by rw [HR.out, HNO.out (fun h => HK.out h.2.1)], (by repeat (first | (with_reducible exact Ext.refl _) | (with_reducible assumption) | (with_reducible refine Ext.alloc ?_ _) | (with_reducible refine Ext.drew ?_) | (with_reducible refine Ext.drewN ?_ _) | (with_reducible refine Ext.setCell ?_ (by simp; try omega) _) | (with_reducible refine Ext.setRow ?_ (by simp; try omega) _)))⟩
        · have q1 : (kd != kd') = true := bne_iff_ne.2 k1
          have HK := Lib.hid k1
          clear C k1
          go_wp2_with fail
          refine wp_region_x 51 [0, 0, 0, 0, 1, 0, 0, 0, 0, 1, 0, 0, 0, 0, 0, 0, 1, 0, 0, 0, 0, 1, 0, 0, 0, 0, 0, 0, 0, 1, 0, 0, 0, 0, 1, 0, 0, 0, 0, 0, 0, 0, 1, 0, 0, 0, 0, 1, 1, 0, 0] (by kernel_rfl) (by kernel_rfl) (by kernel_rfl) ?_
          simp only [List.take_succ_cons, List.take_zero, List.drop_succ_cons, List.drop_zero]
          refine hl_pure (fun K hK => ?_)
          go_simp
          refine hK _ ?_
          clear hK K
          refine hl_pure (fun K hK => ?_)
          go_simp
          refine hK _ ?_
          clear hK K
          refine hl_pure (fun K hK => ?_)
          go_simp
          refine hK _ ?_
          clear hK K
          refine hl_pure (fun K hK => ?_)
          go_simp
          refine hK _ ?_
          clear hK K
          refine hl_quiet (fun K hK => ?_)
          go_simp
          refine hK _ ?_
          clear hK K
          refine hl_pure (fun K hK => ?_)
          go_simp
          refine hK _ ?_
          clear hK K
          refine hl_pure (fun K hK => ?_)
          go_simp
          refine hK _ ?_
          clear hK K
          refine hl_pure (fun K hK => ?_)
          go_simp
          refine hK _ ?_
          clear hK K
          refine hl_pure (fun K hK => ?_)
          go_simp
          refine hK _ ?_
          clear hK K
          refine hl_quiet (fun K hK => ?_)
          go_simp
          refine hK _ ?_
          clear hK K
          refine hl_pure (fun K hK => ?_)
          go_simp
          refine hK _ ?_
          clear hK K
          refine hl_pure (fun K hK => ?_)
          go_simp
          refine hK _ ?_
          clear hK K
          refine hl_pure (fun K hK => ?_)
          go_simp
          refine hK _ ?_
          clear hK K
          refine hl_pure (fun K hK => ?_)
          go_simp
          refine hK _ ?_
          clear hK K
          refine hl_pure (fun K hK => ?_)
          go_simp
          refine hK _ ?_
          clear hK K
          refine hl_pure (fun K hK => ?_)
          go_simp
          refine hK _ ?_
          clear hK K
          refine hl_quiet (fun K hK => ?_)
          go_simp
          refine hK _ ?_
          clear hK K
          refine hl_pure (fun K hK => ?_)
          go_simp
          refine hK _ ?_
          clear hK K
          refine hl_pure (fun K hK => ?_)
          go_simp
          refine hK _ ?_
          clear hK K
          refine hl_pure (fun K hK => ?_)
          go_simp
          refine hK _ ?_
          clear hK K
          refine hl_pure (fun K hK => ?_)
          go_simp
          refine hK _ ?_
          clear hK K
          refine hl_quiet (fun K hK => ?_)
          go_simp
          refine hK _ ?_
          clear hK K
          refine hl_pure (fun K hK => ?_)
          go_simp
          refine hK _ ?_
          clear hK K
          refine hl_pure (fun K hK => ?_)
          go_simp
          refine hK _ ?_
          clear hK K
          refine hl_pure (fun K hK => ?_)
          go_simp
          refine hK _ ?_
          clear hK K
          refine hl_pure (fun K hK => ?_)
          go_simp
          refine hK _ ?_
          clear hK K
          refine hl_pure (fun K hK => ?_)
          go_simp
          refine hK _ ?_
          clear hK K
          refine hl_pure (fun K hK => ?_)
          go_simp
          refine hK _ ?_
          clear hK K
          refine hl_pure (fun K hK => ?_)
          go_simp
          refine hK _ ?_
          clear hK K
          refine hl_quiet (fun K hK => ?_)
          go_simp
          refine hK _ ?_
          clear hK K
          refine hl_pure (fun K hK => ?_)
          go_simp
          refine hK _ ?_
          clear hK K
          refine hl_pure (fun K hK => ?_)
          go_simp
          refine hK _ ?_
          clear hK K
          refine hl_pure (fun K hK => ?_)
          go_simp
          refine hK _ ?_
          clear hK K
          refine hl_pure (fun K hK => ?_)
          go_simp
          refine hK _ ?_
          clear hK K
          refine hl_quiet (fun K hK => ?_)
          go_simp
          refine hK _ ?_
          clear hK K
          refine hl_pure (fun K hK => ?_)
          go_simp
          refine hK _ ?_
          clear hK K
          refine hl_pure (fun K hK => ?_)
          go_simp
          refine hK _ ?_
          clear hK K
          refine hl_pure (fun K hK => ?_)
          go_simp
          refine hK _ ?_
          clear hK K
          refine hl_pure (fun K hK => ?_)
          go_simp
          refine hK _ ?_
          clear hK K
          refine hl_pure (fun K hK => ?_)
          go_simp
          refine hK _ ?_
          clear hK K
          refine hl_pure (fun K hK => ?_)
          go_simp
          refine hK _ ?_
          clear hK K
          refine hl_pure (fun K hK => ?_)
          go_simp
          refine hK _ ?_
          clear hK K
          refine hl_quiet (fun K hK => ?_)
          go_simp
          refine hK _ ?_
          clear hK K
          refine hl_pure (fun K hK => ?_)
          go_simp
          refine hK _ ?_
          clear hK K
          refine hl_pure (fun K hK => ?_)
          go_simp
          refine hK _ ?_
          clear hK K
          refine hl_pure (fun K hK => ?_)
          go_simp
          refine hK _ ?_
          clear hK K
          refine hl_pure (fun K hK => ?_)
          go_simp
          refine hK _ ?_
          clear hK K
          refine hl_quiet (fun K hK => ?_)
          go_simp
          refine hK _ ?_
          clear hK K
          refine hl_quiet (fun K hK => ?_)
          go_simp
          first
            | (refine hK _ ?_; clear hK K)
            | (apply Exists.intro; refine ⟨fun x => ?_, hK _ ?_⟩
               · (fail)
               clear hK K)
          refine hl_pure (fun K hK => ?_)
          go_simp
          refine hK _ ?_
          clear hK K
          refine hl_pure (fun K hK => ?_)
          go_simp
          refine hK _ ?_
          clear hK K
          refine hl_nil ?_
          intro w2 hxw2 K hK
          have xw2 : Ext w w2 := Ext.trans (by repeat (first | (with_reducible exact Ext.refl _) | (with_reducible assumption) | (with_reducible refine Ext.alloc ?_ _) | (with_reducible refine Ext.drew ?_) | (with_reducible refine Ext.drewN ?_ _) | (with_reducible refine Ext.setCell ?_ (by simp; try omega) _) | (with_reducible refine Ext.setRow ?_ (by simp; try omega) _))) hxw2
          obtain ⟨hcw2, hfw2⟩ := hxw2.facts
          have hsw2 := hxw2.size
          try simp only [World.size_drew, World.size_alloc, World.size_setCell] at hsw2 hcw2 hfw2
          go_wp2_with fail
          first | refine fin_ret rfl (fun K hK => ?_) | refine fin_norm rfl (fun K hK => ?_)
          simp [results, Try.results17, go_sem, rsat]
          try go_simp
          refine hK _ ?_
          clear hK K
          exact ⟨by rw [HR.out, HNO.out (fun h => HK.out h.1)], (by repeat (first | (with_reducible exact Ext.refl _) | (with_reducible assumption) | (with_reducible refine Ext.alloc ?_ _) | (with_reducible refine Ext.drew ?_) | (with_reducible refine Ext.drewN ?_ _) | (with_reducible refine Ext.setCell ?_ (by simp; try omega) _) | (with_reducible refine Ext.setRow ?_ (by simp; try omega) _)))⟩
      · obtain rfl : k = l.length := by omega
        have := sameS_yes HL.out ht
        have HY := Lib.hid this
        clear this
        go_wp2_with fail
        first | refine fin_ret rfl (fun K hK => ?_) | refine fin_norm rfl (fun K hK => ?_)
        simp [results, Try.results17, go_sem, rsat]
        try go_simp
        refine hK _ ?_
        clear hK K
        exact ⟨by rw [HR.out, HY.out], (by repeat (first | (with_reducible exact Ext.refl _) | (with_reducible assumption) | (with_reducible refine Ext.alloc ?_ _) | (with_reducible refine Ext.drew ?_) | (with_reducible refine Ext.drewN ?_ _) | (with_reducible refine Ext.setCell ?_ (by simp; try omega) _) | (with_reducible refine Ext.setRow ?_ (by simp; try omega) _)))⟩
  · have hlb : ((l.length : Int) != (m.length : Int)) = true := bne_iff_ne.2 (by omega)
    rw [hR, sameS_len hl]
    clear hl hR
    go_enter Try.func17, Try.ntmps17
    go_wp2_with fail
    first | refine fin_ret rfl (fun K hK => ?_) | refine fin_norm rfl (fun K hK => ?_)
    simp [results, Try.results17, go_sem, rsat]
    try go_simp
    refine hK _ ?_
    clear hK K
    exact ⟨rfl, (by repeat (first | (with_reducible exact Ext.refl _) | (with_reducible assumption) | (with_reducible refine Ext.alloc ?_ _) | (with_reducible refine Ext.drew ?_) | (with_reducible refine Ext.drewN ?_ _) | (with_reducible refine Ext.setCell ?_ (by simp; try omega) _) | (with_reducible refine Ext.setRow ?_ (by simp; try omega) _)))⟩
def lightS (l : List Sp) : Bool := decide (l.length ≤ 2100) && l.all (fun p => decide (p.raw.xs.length ≤ 100))
set_option maxHeartbeats 4000000 in
set_option maxRecDepth 100000 in
theorem light29_c (x : Sts) (w : World) (h : x.At w) : Calls Try.prog 7 #[x.v] w fun e w' => e = .returned (.bool (lightS x.l)) ∧ Ext w w' := by
  unfold Sts.v
  obtain ⟨A, c, l⟩ := x
  have hlm : l.length ≤ 9223372036854775807 := by have := h.le; have := h.max; unfold maxLen at this; simp only at *; omega
  simp only at hlm ⊢
  obtain ⟨R, hR⟩ : ∃ R, R = lightS l := ⟨_, rfl⟩
  rw [← hR]
  by_cases hl : 2100 < l.length
  · have hli : (2100 : Int) < (l.length : Int) := by omega
    rw [hR, show lightS l = false by unfold lightS; rw [decide_eq_false (by omega)]; rfl]
    clear hR
    go_enter Try.func7, Try.ntmps7
    go_wp2_with fail
    first | refine fin_ret rfl (fun K hK => ?_) | refine fin_norm rfl (fun K hK => ?_)
    simp [results, Try.results7, go_sem, rsat]
    try go_simp
    refine hK _ ?_
    clear hK K
    exact ⟨rfl, (by repeat (first | (with_reducible exact Ext.refl _) | (with_reducible assumption) | (with_reducible refine Ext.alloc ?_ _) | (with_reducible refine Ext.drew ?_) | (with_reducible refine Ext.drewN ?_ _) | (with_reducible refine Ext.setCell ?_ (by simp; try omega) _) | (with_reducible refine Ext.setRow ?_ (by simp; try omega) _)))⟩
  have hli : ¬ (2100 : Int) < (l.length : Int) := by omega
  rw [show lightS l = l.all (fun p => decide (p.raw.xs.length ≤ 100)) by unfold lightS; rw [decide_eq_true (by omega)]; rfl] at hR
  have HR := Lib.hid hR
  clear hR
  go_enter Try.func7, Try.ntmps7
  go_wp2_with fail
  go_loopw [3] (fun i wr => ∃ (k : Nat), i = .int .i64 k ∧ k ≤ l.length ∧ (l.take k).all (fun p => decide (p.raw.xs.length ≤ 100)) = true ∧ wr = w) (fun i _ => l.length - (intOf i).toNat)
  case atStart => exact ⟨0, rfl, by omega, rfl, rfl⟩
  case round =>
    obtain ⟨k, rfl, hk, ht, rfl⟩ := hrel
    by_cases hlt : k < l.length
    · obtain ⟨b, off, hA, hb, hc⟩ := h.cell (by simp only; omega)
      simp only at hA hc
      subst hA
      have a3 := hc k hlt 3 (by decide)
      have hall : ∀ {p}, p = l[k] → 100 < p.raw.xs.length → l.all (fun p => decide (p.raw.xs.length ≤ 100)) = false := fun he h1 => by
        rw [List.all_eq_false]
        exact ⟨l[k], List.getElem_mem _, by rw [← he]; simp; omega⟩
      have htk : ∀ {p}, p = l[k] → p.raw.xs.length ≤ 100 → (l.take (k + 1)).all (fun p => decide (p.raw.xs.length ≤ 100)) = true := fun he h1 => by
        rw [List.take_succ_eq_append_getElem hlt, List.all_append, ht, ← he]
        simp [h1]
      have hrl : (l[k].raw.xs.length : Int) ≤ 9223372036854775807 := by
        have := (h.ok l[k] (List.getElem_mem _)).raw.len
        unfold maxLen at this; omega
      obtain ⟨p, hp⟩ : ∃ p, p = l[k] := ⟨_, rfl⟩
      have hall1 := hall hp
      have htk1 := htk hp
      rw [← hp] at a3 hrl
      obtain ⟨kd, sy, n, ⟨RA, Rc, rx⟩⟩ := p
      simp only [Sp.cells, Bs.v, List.getElem?_cons_succ, List.getElem?_cons_zero, ← Nat.add_assoc] at a3 hall1 htk1 hrl
      have HA := Lib.hid hall1
      have HT := Lib.hid htk1
      clear hall1 htk1 hall htk hc hp ht
      by_cases h1 : 100 < rx.length
      · have h2 : (100 : Int) < (rx.length : Int) := by omega
        have HH := Lib.hid h1
        clear h1
        go_wp2_with fail
        first | refine fin_ret rfl (fun K hK => ?_) | refine fin_norm rfl (fun K hK => ?_)
        simp [results, Try.results7, go_sem, rsat]
        try go_simp
        refine hK _ ?_
        clear hK K
        exact ⟨by rw [HR.out, HA.out HH.out], (by repeat (first | (with_reducible exact Ext.refl _) | (with_reducible assumption) | (with_reducible refine Ext.alloc ?_ _) | (with_reducible refine Ext.drew ?_) | (with_reducible refine Ext.drewN ?_ _) | (with_reducible refine Ext.setCell ?_ (by simp; try omega) _) | (with_reducible refine Ext.setRow ?_ (by simp; try omega) _)))⟩
      · have h2 : ¬ (100 : Int) < (rx.length : Int) := by omega
        have HH := Lib.hid h1
        clear h1
        go_wp2_with fail
        go_roundw
        case rel => exact ⟨k + 1, by go_num, by omega, HT.out (Nat.le_of_not_lt HH.out), trivial⟩
        case measure => simp [intOf]; omega
    · obtain rfl : k = l.length := by omega
      rw [List.take_length] at ht
      have HT := Lib.hid ht
      clear ht
      go_wp2_with fail
      first | refine fin_ret rfl (fun K hK => ?_) | refine fin_norm rfl (fun K hK => ?_)
      simp [results, Try.results7, go_sem, rsat]
      try go_simp
      refine hK _ ?_
      clear hK K
      exact ⟨by rw [HR.out, HT.out], (by repeat (first | (with_reducible exact Ext.refl _) | (with_reducible assumption) | (with_reducible refine Ext.alloc ?_ _) | (with_reducible refine Ext.drew ?_) | (with_reducible refine Ext.drewN ?_ _) | (with_reducible refine Ext.setCell ?_ (by simp; try omega) _) | (with_reducible refine Ext.setRow ?_ (by simp; try omega) _)))⟩
end Go.Proofs.Ythfomohophmbaaa
