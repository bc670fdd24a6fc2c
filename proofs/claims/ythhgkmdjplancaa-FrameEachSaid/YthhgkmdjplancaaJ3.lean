/- Frames (layer 4): the document's Lists; what is put, cut anywhere, comes out (plain). No condition. -/
import Derived.Test.YthhgkmdjplancaaJ2
namespace Go.Proofs.Ythhgkmdjplancaa
open Go.RowKit
attribute [local go_sem] Later.cell QUpon_value QUpon_enter MUpon_value run_eql_slice_nil
/-! ### plain -/
def stream (l : List (List Int)) : List Int := l.flatMap frB
theorem uintB2 {n : Nat} (h : n ≤ 64) : uintB n 2 = [0, (n : Int)] := by
  show [((n / 256 ^ 1 % 256 : Nat) : Int), ((n / 256 ^ 0 % 256 : Nat) : Int)] = _
  rw [show n / 256 ^ 1 % 256 = 0 by omega, show n / 256 ^ 0 % 256 = n by omega]
  rfl
theorem frB_is {p : List Int} (h : p.length ≤ 64) : frB p = 0 :: (p.length : Int) :: p := by unfold frB; rw [uintB2 h]; rfl
theorem valN2 (n : Nat) : valN [0, (n : Int)] = n := by
  show ((0 * 256 + (0 : Int).toNat) * 256 + (n : Int).toNat) = n
  simp
theorem take_frB {p rest : List Int} (h : p.length ≤ 64) : takeF (frB p ++ rest) = 0 ∧ takeL (frB p ++ rest) = p ∧ takeN (frB p ++ rest) = ((2 + p.length : Nat) : Int) := by
  rw [frB_is h]
  have e : ((0 : Int) :: (p.length : Int) :: p ++ rest).take 2 = [0, (p.length : Int)] := rfl
  have l : ((0 : Int) :: (p.length : Int) :: p ++ rest).length = 2 + p.length + rest.length := by simp; omega
  unfold takeF takeL takeN
  rw [e, valN2, l]
  rw [if_neg (by omega), if_neg (by omega), if_neg (by omega), if_neg (by omega), if_neg (by omega), if_neg (by omega), if_neg (by omega), if_neg (by omega), if_neg (by omega)]
  refine ⟨rfl, ?_, by omega⟩
  show (p ++ rest).take p.length = p
  simp
theorem take_less {p y z rest : List Int} (h : p.length ≤ 64) (hy : y ++ z = frB p ++ rest) (hl : y.length < 2 + p.length) : takeF y = 3 := by
  rw [frB_is h] at hy
  unfold takeF
  by_cases h2 : y.length < 2
  · rw [if_pos h2]
  · have e : y.take 2 = [0, (p.length : Int)] := by
      have := congrArg (List.take 2) hy
      rw [List.take_append_of_le_length (by omega)] at this
      rw [this]; rfl
    rw [if_neg h2, e, valN2, if_neg (by omega), if_pos (by omega)]
theorem cut_stream : ∀ (l : List (List Int)) (rest : List Int), (∀ p ∈ l, p.length ≤ 64) → cut (stream l ++ rest) = (l ++ (cut rest).1, (cut rest).2)
  | [], rest, _ => rfl
  | p :: l, rest, h => by
    have ih := cut_stream l rest (fun q hq => h q (by simp [hq]))
    have e : stream (p :: l) ++ rest = frB p ++ (stream l ++ rest) := by show (frB p ++ stream l) ++ rest = _; rw [List.append_assoc]
    obtain ⟨h1, h2, h3⟩ := take_frB (rest := stream l ++ rest) (h p (by simp))
    have hd : (frB p ++ (stream l ++ rest)).drop (2 + p.length) = stream l ++ rest := by rw [← frB_len p, List.drop_left]
    rw [e, cut_yes h1, h2, h3, show ((2 + p.length : Nat) : Int).toNat = 2 + p.length from rfl, hd, ih]
    rfl
theorem cut_pre : ∀ (todo : List (List Int)) (y z : List Int), (∀ p ∈ todo, p.length ≤ 64) → y ++ z = stream todo → ∃ T todo' rest, cut y = (T, rest, 3) ∧ todo = T ++ todo' ∧ rest ++ z = stream todo'
  | [], y, z, _, hy => by
    have h0 : y = [] := by have := congrArg List.length hy; simp [stream] at this; exact this.1
    subst h0
    exact ⟨[], [], [], rfl, rfl, hy⟩
  | p :: todo, y, z, h, hy => by
    have e : stream (p :: todo) = frB p ++ stream todo := rfl
    rw [e] at hy
    have hp := h p (by simp)
    by_cases hl : y.length < 2 + p.length
    · have h3 := take_less hp hy hl
      exact ⟨[], p :: todo, y, by rw [cut_no (by rw [h3]; decide), h3], rfl, hy⟩
    · have ht : y.take (2 + p.length) = frB p := by
        have := congrArg (List.take (2 + p.length)) hy
        rw [List.take_append_of_le_length (by omega), ← frB_len p, List.take_left] at this
        rw [← frB_len p]; exact this
      have hd : y.drop (2 + p.length) ++ z = stream todo := by
        have := congrArg (List.drop (2 + p.length)) hy
        rw [List.drop_append_of_le_length (by omega), ← frB_len p, List.drop_left] at this
        rw [← frB_len p]; exact this
      obtain ⟨T, todo', rest, h1, h2, h3⟩ := cut_pre todo _ z (fun q hq => h q (by simp [hq])) hd
      obtain ⟨t1, t2, t3⟩ := take_frB (rest := y.drop (2 + p.length)) hp
      have hyy : y = frB p ++ y.drop (2 + p.length) := by rw [← ht, List.take_append_drop]
      refine ⟨p :: T, todo', rest, ?_, by rw [h2]; rfl, h3⟩
      have hc := cut_yes (bs := frB p ++ y.drop (2 + p.length)) t1
      rw [t2, t3, show ((2 + p.length : Nat) : Int).toNat = 2 + p.length from rfl, ← hyy, h1] at hc
      exact hc
theorem cut_nil : cut [] = ([], [], 3) := rfl
theorem join_pre {todo : List (List Int)} {bs y z : List Int} (h : ∀ p ∈ todo, p.length ≤ 64) (hy : bs ++ (y ++ z) = stream todo) : ∃ T todo' rest, joinD bs 0 y = (T, rest, 0) ∧ todo = T ++ todo' ∧ rest ++ z = stream todo' := by
  rw [← List.append_assoc] at hy
  obtain ⟨T, todo', rest, h1, h2, h3⟩ := cut_pre todo (bs ++ y) z h hy
  refine ⟨T, todo', rest, ?_, h2, h3⟩
  unfold joinD
  rw [if_neg (by simp), h1]
  rfl
theorem join_all {todo : List (List Int)} {bs y : List Int} (h : ∀ p ∈ todo, p.length ≤ 64) (hy : bs ++ y = stream todo) : joinD bs 0 y = (todo, [], 0) := by
  have := cut_stream todo [] h
  rw [List.append_nil, ← hy, cut_nil, List.append_nil] at this
  unfold joinD
  rw [if_neg (by simp), this]
  rfl
theorem stream_len {l : List (List Int)} (h : ∀ p ∈ l, p.length ≤ 64) : (stream l).length ≤ 66 * l.length := by
  induction l with
  | nil => simp [stream]
  | cons p l ih =>
    have := ih (fun q hq => h q (by simp [hq]))
    have hp := h p (by simp)
    show (frB p ++ stream l).length ≤ _
    rw [List.length_append, frB_len, List.length_cons]
    omega
theorem stream_byt {l : List (List Int)} (h : ∀ p ∈ l, Byt p) : Byt (stream l) := by
  intro x hx
  unfold stream at hx
  rw [List.mem_flatMap] at hx
  obtain ⟨p, hp, hx⟩ := hx
  exact frB_byt (h p hp) x hx
/-! ### Lists -/
def Bl.xs (x : Bl) : List (List Int) := x.l.map Bs.xs
set_option maxHeartbeats 4000000 in
set_option maxRecDepth 100000 in
theorem lists4_c (x y : Bl) (w : World) (hx : x.At w) (hy : y.At w) : Calls Try.prog 16 #[x.v, y.v] w fun e w' => e = .returned (.bool (decide (x.xs = y.xs))) ∧ Ext w w' := by
  unfold Bl.v Bl.xs
  obtain ⟨A, c, l⟩ := x
  obtain ⟨B, d, m⟩ := y
  have hlm : l.length ≤ 9223372036854775807 := by have := hx.le; have := hx.max; unfold maxLen at this; simp only at *; omega
  have hmm : m.length ≤ 9223372036854775807 := by have := hy.le; have := hy.max; unfold maxLen at this; simp only at *; omega
  simp only at hlm hmm ⊢
  obtain ⟨R, hR⟩ : ∃ R, R = decide (l.map Bs.xs = m.map Bs.xs) := ⟨_, rfl⟩
  rw [← hR]
  by_cases hl : l.length = m.length
  · have HR := Lib.hid hR
    have HL := Lib.hid hl
    have hlb : ((l.length : Int) != (m.length : Int)) = false := by rw [hl]; simp
    clear hR hl
    go_enter Try.func16, Try.ntmps16
    go_wp2_with fail
    go_loopw [5] (fun i wr => ∃ (k : Nat), i = .int .i64 k ∧ k ≤ l.length ∧ (l.map Bs.xs).take k = (m.map Bs.xs).take k ∧ Ext w wr) (fun i _ => l.length - (intOf i).toNat)
    case atStart => exact ⟨0, rfl, by omega, by simp, Ext.refl _⟩
    case round =>
      obtain ⟨k, rfl, hk, ht, hxw⟩ := hrel
      by_cases hlt : k < l.length
      · have hlt2 : k < m.length := by have := HL.out; omega
        obtain ⟨b, off, hA, hb, hc⟩ := hx.cell (by simp only; omega)
        obtain ⟨b2, off2, hB, hb2, hc2⟩ := hy.cell (by simp only; omega)
        simp only at hA hc hB hc2
        subst hA hB
        have a0 := (hxw.facts.1 _ _ hb).trans (hc k hlt)
        have b0 := (hxw.facts.1 _ _ hb2).trans (hc2 k hlt2)
        have hyes : l[k].xs = m[k].xs → (l.map Bs.xs).take (k + 1) = (m.map Bs.xs).take (k + 1) := fun h => by
          rw [List.take_succ_eq_append_getElem (by simpa using hlt), List.take_succ_eq_append_getElem (by simpa using hlt2), ht]
          simp [h]
        have hno : l[k].xs ≠ m[k].xs → decide (l.map Bs.xs = m.map Bs.xs) = false := fun h => by
          rw [decide_eq_false]
          intro h1
          have h2 := congrArg (fun l => l[k]?) h1
          simp only [List.getElem?_map, List.getElem?_eq_getElem hlt, List.getElem?_eq_getElem hlt2, Option.map_some, Option.some.injEq] at h2
          exact h h2
        have pok := hx.ok l[k] (List.getElem_mem _)
        have qok := hy.ok m[k] (List.getElem_mem _)
        generalize l[k] = p at a0 pok hyes hno
        generalize m[k] = q at b0 qok hyes hno
        obtain ⟨RA, Rc, rx⟩ := p
        obtain ⟨RA', Rc', rx'⟩ := q
        have hbr : b < wr.heap.size := Nat.lt_of_lt_of_le hb hxw.size
        have hbr2 : b2 < wr.heap.size := Nat.lt_of_lt_of_le hb2 hxw.size
        have psr := pok.src.ext hxw
        have psr2 := qok.src.ext hxw
        have pby := pok.byt
        have pby2 := qok.byt
        simp only [Bs.v] at a0 b0 psr psr2 pby pby2 hno hyes
        have C := fun W (h : Ext wr W) => same_c RA RA' _ _ Rc Rc' rx rx' W (psr.ext h) (psr2.ext h) pby pby2
        have HNO := Lib.hid hno
        have HY := Lib.hid hyes
        clear hno hyes ht hc hc2 pok qok
        by_cases k4 : rx = rx'
        · rw [decide_eq_true k4] at C
          have HC := Lib.hid C
          have HK := Lib.hid k4
          clear C k4
          go_wp2_with fail
          refine wp_region_x 10 [0, 0, 0, 1, 0, 0, 0, 1, 1, 0] (by kernel_rfl) (by kernel_rfl) (by kernel_rfl) ?_
          simp only [List.take_succ_cons, List.take_zero, List.drop_succ_cons, List.drop_zero]
          refine hl_pure (fun K hK => ?_)
          go_simp
          refine hK _ ?_
          clear hK K
          refine hl_pure (fun K hK => ?_)
          go_simp
          refine hK _ ?_
          clear hK K
          refine hl_pure (fun K hK => ?_)
          go_simp
          refine hK _ ?_
          clear hK K
          refine hl_quiet (fun K hK => ?_)
          go_simp
          refine hK _ ?_
          clear hK K
          refine hl_pure (fun K hK => ?_)
          go_simp
          refine hK _ ?_
          clear hK K
          refine hl_pure (fun K hK => ?_)
          go_simp
          refine hK _ ?_
          clear hK K
          refine hl_pure (fun K hK => ?_)
          go_simp
          refine hK _ ?_
          clear hK K
          refine hl_quiet (fun K hK => ?_)
          go_simp
          refine hK _ ?_
          clear hK K
          refine hl_quiet (fun K hK => ?_)
          go_simp
          first
            | (refine hK _ ?_; clear hK K)
            | (apply Exists.intro; refine ⟨fun x => ?_, hK _ ?_⟩
               · (exact HC.out _ x.ext)
               clear hK K)
          refine hl_pure (fun K hK => ?_)
          go_simp
          refine hK _ ?_
          clear hK K
          refine hl_nil ?_
          intro w2 hxw2 K hK
          have xw2 : Ext w w2 := Ext.trans (by repeat (first | (with_reducible exact Ext.refl _) | (with_reducible assumption) | (with_reducible refine Ext.alloc ?_ _) | (with_reducible refine Ext.drew ?_) | (with_reducible refine Ext.drewN ?_ _) | (with_reducible refine Ext.setCell ?_ (by simp; try omega) _) | (with_reducible refine Ext.setRow ?_ (by simp; try omega) _))) hxw2
          obtain ⟨hcw2, hfw2⟩ := hxw2.facts
          have hsw2 := hxw2.size
          try simp only [World.size_drew, World.size_alloc, World.size_setCell] at hsw2 hcw2 hfw2
          go_wp2_with fail
          go_roundw
          case rel => exact ⟨k + 1, by go_num, by omega, HY.out HK.out, Ext.trans hxw hxw2⟩
          case measure => simp [intOf]; omega
        · rw [decide_eq_false k4] at C
          have HC := Lib.hid C
          have HK := Lib.hid k4
          clear C k4
          go_wp2_with fail
          refine wp_region_x 10 [0, 0, 0, 1, 0, 0, 0, 1, 1, 0] (by kernel_rfl) (by kernel_rfl) (by kernel_rfl) ?_
          simp only [List.take_succ_cons, List.take_zero, List.drop_succ_cons, List.drop_zero]
          refine hl_pure (fun K hK => ?_)
          go_simp
          refine hK _ ?_
          clear hK K
          refine hl_pure (fun K hK => ?_)
          go_simp
          refine hK _ ?_
          clear hK K
          refine hl_pure (fun K hK => ?_)
          go_simp
          refine hK _ ?_
          clear hK K
          refine hl_quiet (fun K hK => ?_)
          go_simp
          refine hK _ ?_
          clear hK K
          refine hl_pure (fun K hK => ?_)
          go_simp
          refine hK _ ?_
          clear hK K
          refine hl_pure (fun K hK => ?_)
          go_simp
          refine hK _ ?_
          clear hK K
          refine hl_pure (fun K hK => ?_)
          go_simp
          refine hK _ ?_
          clear hK K
          refine hl_quiet (fun K hK => ?_)
          go_simp
          refine hK _ ?_
          clear hK K
          refine hl_quiet (fun K hK => ?_)
          go_simp
          first
            | (refine hK _ ?_; clear hK K)
            | (apply Exists.intro; refine ⟨fun x => ?_, hK _ ?_⟩
               · (exact HC.out _ x.ext)
               clear hK K)
          refine hl_pure (fun K hK => ?_)
          go_simp
          refine hK _ ?_
          clear hK K
          refine hl_nil ?_
          intro w2 hxw2 K hK
          have xw2 : Ext w w2 := Ext.trans (by repeat (first | (with_reducible exact Ext.refl _) | (with_reducible assumption) | (with_reducible refine Ext.alloc ?_ _) | (with_reducible refine Ext.drew ?_) | (with_reducible refine Ext.drewN ?_ _) | (with_reducible refine Ext.setCell ?_ (by simp; try omega) _) | (with_reducible refine Ext.setRow ?_ (by simp; try omega) _))) hxw2
          obtain ⟨hcw2, hfw2⟩ := hxw2.facts
          have hsw2 := hxw2.size
          try simp only [World.size_drew, World.size_alloc, World.size_setCell] at hsw2 hcw2 hfw2
          go_wp2_with fail
          first | refine fin_ret rfl (fun K hK => ?_) | refine fin_norm rfl (fun K hK => ?_)
          simp [results, Try.results16, go_sem, rsat]
          try go_simp
          refine hK _ ?_
          clear hK K
          exact ⟨by rw [HR.out, HNO.out HK.out], (by repeat (first | (with_reducible exact Ext.refl _) | (with_reducible assumption) | (with_reducible refine Ext.alloc ?_ _) | (with_reducible refine Ext.drew ?_) | (with_reducible refine Ext.drewN ?_ _) | (with_reducible refine Ext.setCell ?_ (by simp; try omega) _) | (with_reducible refine Ext.setRow ?_ (by simp; try omega) _)))⟩
      · obtain rfl : k = l.length := by omega
        have hyy : decide (l.map Bs.xs = m.map Bs.xs) = true := by
          rw [List.take_of_length_le (by simp), List.take_of_length_le (by simp; have := HL.out; omega)] at ht
          exact decide_eq_true ht
        have HY := Lib.hid hyy
        clear hyy ht
        go_wp2_with fail
        first | refine fin_ret rfl (fun K hK => ?_) | refine fin_norm rfl (fun K hK => ?_)
        simp [results, Try.results16, go_sem, rsat]
        try go_simp
        refine hK _ ?_
        clear hK K
        exact ⟨by rw [HR.out, HY.out], (by repeat (first | (with_reducible exact Ext.refl _) | (with_reducible assumption) | (with_reducible refine Ext.alloc ?_ _) | (with_reducible refine Ext.drew ?_) | (with_reducible refine Ext.drewN ?_ _) | (with_reducible refine Ext.setCell ?_ (by simp; try omega) _) | (with_reducible refine Ext.setRow ?_ (by simp; try omega) _)))⟩
  · have hlb : ((l.length : Int) != (m.length : Int)) = true := bne_iff_ne.2 (by omega)
    have hno : decide (l.map Bs.xs = m.map Bs.xs) = false := by
      rw [decide_eq_false]
      intro h1
      have := congrArg List.length h1
      simp only [List.length_map] at this
      exact hl this
    rw [hR, hno]
    clear hl hR hno
    go_enter Try.func16, Try.ntmps16
    go_wp2_with fail
    first | refine fin_ret rfl (fun K hK => ?_) | refine fin_norm rfl (fun K hK => ?_)
    simp [results, Try.results16, go_sem, rsat]
    try go_simp
    refine hK _ ?_
    clear hK K
    exact ⟨rfl, (by repeat (first | (with_reducible exact Ext.refl _) | (with_reducible assumption) | (with_reducible refine Ext.alloc ?_ _) | (with_reducible refine Ext.drew ?_) | (with_reducible refine Ext.drewN ?_ _) | (with_reducible refine Ext.setCell ?_ (by simp; try omega) _) | (with_reducible refine Ext.setRow ?_ (by simp; try omega) _)))⟩
end Go.Proofs.Ythhgkmdjplancaa
