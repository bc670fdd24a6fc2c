/- Law FrameJoins. No condition. -/
import Derived.Test.YthhgkmdjplancaaJ5
namespace Go.Proofs.Ythhgkmdjplancaa
open Go.RowKit
attribute [local go_sem] Later.cell QUpon_value QUpon_enter MUpon_value run_eql_slice_nil
/-! ### plain -/
theorem takeF_more {bs : List Int} (x : List Int) (h : takeF bs ≠ 3) : takeF (bs ++ x) = takeF bs ∧ takeL (bs ++ x) = takeL bs ∧ takeN (bs ++ x) = takeN bs := by
  unfold takeF at h
  by_cases h1 : bs.length < 2
  · rw [if_pos h1] at h; exact absurd rfl h
  rw [if_neg h1] at h
  have e : (bs ++ x).take 2 = bs.take 2 := by rw [List.take_append_of_le_length (by omega)]
  have l : (bs ++ x).length = bs.length + x.length := List.length_append
  unfold takeF takeL takeN
  rw [e, l]
  by_cases h2 : 64 < valN (bs.take 2)
  · have h1' : ¬ bs.length + x.length < 2 := by omega
    simp only [h1, h1', h2, if_true, if_false]
    exact ⟨trivial, trivial, trivial⟩
  rw [if_neg h2] at h
  by_cases h3 : bs.length < 2 + valN (bs.take 2)
  · rw [if_pos h3] at h; exact absurd rfl h
  have h1' : ¬ bs.length + x.length < 2 := by omega
  have h3' : ¬ bs.length + x.length < 2 + valN (bs.take 2) := by omega
  simp only [h1, h1', h2, h3, h3', if_false]
  refine ⟨trivial, ?_, trivial⟩
  rw [List.drop_append_of_le_length (by omega), List.take_append_of_le_length (by rw [List.length_drop]; omega)]
theorem cut_app : ∀ (n : Nat) (bs x : List Int), bs.length < n → cut (bs ++ x) = ((cut bs).1 ++ (cut ((cut bs).2.1 ++ x)).1, (cut ((cut bs).2.1 ++ x)).2)
  | 0, _, _, h => by omega
  | n + 1, bs, x, h => by
    by_cases hf : takeF bs = 0
    · obtain ⟨h1, h2, h3⟩ := takeF_more x (by rw [hf]; decide)
      obtain ⟨p1, p2, _⟩ := takeN_pos hf
      rw [cut_yes (bs := bs) hf, cut_yes (bs := bs ++ x) (by rw [h1]; exact hf), h2, h3, List.drop_append_of_le_length (by omega)]
      have ih := cut_app n (bs.drop (takeN bs).toNat) x (by rw [List.length_drop]; omega)
      rw [ih]
      rfl
    · rw [cut_no (bs := bs) hf]
      rfl
theorem cut_fault : ∀ (n : Nat) (bs : List Int), bs.length < n → ((cut bs).2.2 = 3 ∨ (cut bs).2.2 = 4) ∧ ((cut bs).2.2 = 4 → takeF (cut bs).2.1 = 4) ∧ (cut bs).2.1.length ≤ bs.length
  | 0, _, h => by omega
  | n + 1, bs, h => by
    by_cases hf : takeF bs = 0
    · obtain ⟨p1, p2, _⟩ := takeN_pos hf
      have ih := cut_fault n (bs.drop (takeN bs).toNat) (by rw [List.length_drop]; omega)
      rw [cut_yes hf]
      refine ⟨ih.1, ih.2.1, ?_⟩
      have := ih.2.2
      rw [List.length_drop] at this
      show (cut _).2.1.length ≤ _
      omega
    · rw [cut_no hf]
      refine ⟨?_, fun h => h, Nat.le_refl _⟩
      have := takeF_is bs
      show takeF bs = 3 ∨ takeF bs = 4
      omega
theorem cut_few : ∀ (n : Nat) (bs : List Int), bs.length < n → (cut bs).1.length + (cut bs).2.1.length ≤ bs.length
  | 0, _, h => by omega
  | n + 1, bs, h => by
    by_cases hf : takeF bs = 0
    · obtain ⟨p1, p2, _⟩ := takeN_pos hf
      have ih := cut_few n (bs.drop (takeN bs).toNat) (by rw [List.length_drop]; omega)
      rw [cut_yes hf]
      rw [List.length_drop] at ih
      simp only [List.length_cons]
      omega
    · rw [cut_no hf]
      simp
/-- What the joiner holds behind all of these. -/
def heldB (all : List Int) : List Int := if (cut all).2.2 = 4 then [] else (cut all).2.1
def heldF (all : List Int) : Int := if (cut all).2.2 = 4 then 4 else 0
theorem held_step (all x : List Int) : joinD (heldB all) (heldF all) x = ((cut (all ++ x)).1.drop (cut all).1.length, heldB (all ++ x), heldF (all ++ x)) := by
  have ha := cut_app (all.length + 1) all x (Nat.lt_succ_self _)
  obtain ⟨hf, h4, _⟩ := cut_fault (all.length + 1) all (Nat.lt_succ_self _)
  rcases hf with hf | hf
  · have e1 : heldB all = (cut all).2.1 := by unfold heldB; rw [if_neg (by omega)]
    have e2 : heldF all = 0 := by unfold heldF; rw [if_neg (by omega)]
    rw [e1, e2]
    unfold heldB heldF joinD
    rw [if_neg (by simp), ha]
    simp only [List.drop_left]
  · have ht := h4 hf
    have hc : cut ((cut all).2.1 ++ x) = ([], (cut all).2.1 ++ x, 4) := by
      obtain ⟨q1, _, _⟩ := takeF_more x (bs := (cut all).2.1) (by rw [ht]; decide)
      rw [cut_no (by rw [q1, ht]; decide), q1, ht]
    have e1 : heldB all = [] := by unfold heldB; rw [if_pos hf]
    have e2 : heldF all = 4 := by unfold heldF; rw [if_pos hf]
    rw [e1, e2]
    unfold heldB heldF joinD
    rw [if_pos (by decide), ha, hc]
    simp
theorem held_f (all : List Int) : heldF all = 0 ∨ heldF all = 4 := by unfold heldF; split <;> simp
/-- Amid the joins. -/
structure JoinAt (w wr : World) (g : Nat) (AA : Option Addr) (ca : Nat) (all : List Int) (Aj : Option Addr) (bs : List Int) (f : Int) : Prop where
  ext : Ext w wr
  gw : w.heap.size ≤ g
  row : Row wr 5 1 AA all.length ca (bc all)
  alt : ∀ k ∈ ablk AA, g < k ∧ k < wr.heap.size
  byt : Byt all
  jn : Jn wr g Aj bs f
  jnew : ∀ k ∈ ablk Aj, g < k
  sep : ∀ k ∈ ablk AA, k ∉ ablk Aj
theorem JoinAt.extR {w wr w3 : World} {g : Nat} {AA Aj : Option Addr} {ca : Nat} {all bs : List Int} {f : Int} (h : JoinAt w wr g AA ca all Aj bs f) (hx : Ext wr w3) : JoinAt w w3 g AA ca all Aj bs f :=
  ⟨h.ext.trans hx, h.gw, h.row.ext hx, fun k hk => ⟨(h.alt k hk).1, Nat.lt_of_lt_of_le (h.alt k hk).2 hx.size⟩, h.byt, h.jn.ext hx, h.jnew, h.sep⟩
theorem JoinAt.app {w wr w3 : World} {g : Nat} {AA A2 Aj : Option Addr} {ca c2 : Nat} {all bs xs : List Int} {f : Int} (h : JoinAt w wr g AA ca all Aj bs f) (hb : Byt xs) (hC : Chg wr w3 (ablk AA)) (hR : Row w3 5 1 A2 (all.length + xs.length) c2 (bc all ++ bc xs)) (hn : ∀ k ∈ ablk A2, k ∈ ablk AA ∨ (wr.heap.size ≤ k ∧ k < w3.heap.size)) : JoinAt w w3 g A2 c2 (all ++ xs) Aj bs f := by
  have gl := h.jn.lt
  have gw := h.gw
  refine ⟨hC.extOfJ h.ext (fun i hi => by have := (h.alt i hi).1; omega), h.gw, ?_, fun k hk => ?_, h.byt.app hb, h.jn.chg hC (fun h1 => absurd (h.alt _ h1).1 (Nat.lt_irrefl _)) (fun k hk h1 => h.sep k h1 hk), h.jnew, fun k hk h1 => ?_⟩
  · rw [List.length_append, bc_app]; exact hR
  · rcases hn k hk with h1 | h1
    · have := h.alt k h1; have := hC.size; omega
    · omega
  · rcases hn k hk with h2 | h2
    · exact h.sep k h2 h1
    · have := (h.jn.alt k h1).1; omega
theorem JoinAt.add {w wr w3 : World} {g : Nat} {AA Aj A' : Option Addr} {ca : Nat} {all bs bs' : List Int} {f f' : Int} (h : JoinAt w wr g AA ca all Aj bs f) (hC : Chg wr w3 (g :: ablk Aj)) (hj : Jn w3 g A' bs' f') (hn : ∀ k ∈ ablk A', k ∈ ablk Aj ∨ wr.heap.size ≤ k) : JoinAt w w3 g AA ca all A' bs' f' := by
  have gl := h.jn.lt
  have gw := h.gw
  refine ⟨hC.extOfJ h.ext (fun i hi => ?_), h.gw, h.row.chg hC (fun k hk h1 => ?_), fun k hk => ⟨(h.alt k hk).1, Nat.lt_of_lt_of_le (h.alt k hk).2 hC.size⟩, h.byt, hj, fun k hk => ?_, fun k hk h1 => ?_⟩
  · rcases List.mem_cons.1 hi with rfl | hi
    · exact gw
    · have := h.jnew i hi; omega
  · rcases List.mem_cons.1 h1 with rfl | h1
    · exact absurd (h.alt _ hk).1 (Nat.lt_irrefl _)
    · exact h.sep k hk h1
  · rcases hn k hk with h1 | h1
    · exact h.jnew k h1
    · omega
  · rcases hn k h1 with h2 | h2
    · exact h.sep k hk h2
    · have := (h.alt k hk).2; omega
/-- Add, whatever the joiner's fault is. -/
theorem addany_c (g : Nat) (A : Option Addr) (bs : List Int) (f : Int) (x : Bs) (hl : bs.length + x.xs.length ≤ 1000000) (w : World) (h : Jn w g A bs f) (hx : x.At w) :
    Calls Try.prog 15 #[.pointer (some ⟨g, 0, none⟩), x.v] w fun e w' => AddIs w g A (joinD bs f x.xs) e w' := by
  by_cases hf : f = 0
  · subst hf; exact add_c g A bs x hl w h hx
  · refine (add_bad g A bs f hf x.v w h).mono ?_
    rintro e w1 ⟨rfl, hx1⟩
    have e : joinD bs f x.xs = ([], bs, f) := by unfold joinD; rw [if_pos hf]
    rw [e]
    exact ⟨⟨none, 0, [], A, rfl, OwnB.nil _ _, by simp, rfl, h.ext hx1, fun k hk => .inl hk, by simp [ablk], by simp⟩, Chg.of_ext hx1 _⟩
set_option maxHeartbeats 4000000 in
set_option maxRecDepth 100000 in
theorem framejoins_c (x : Bl) (w : World) (hx : x.At w) : Calls Try.prog 5 #[x.v] w fun e w' => e = .returned (.bool true) ∧ Ext w w' := by
  have HA := Lib.hid alive_c4
  obtain ⟨A, c, l⟩ := x
  unfold Bl.v
  have hlm : l.length ≤ 9223372036854775807 := by have := hx.le; have := hx.max; unfold maxLen at this; simp only at *; omega
  simp only at hlm ⊢
  by_cases k0 : 20 < l.length
  · have k1 : (20 : Int) < (l.length : Int) := by omega
    clear hx k0
    go_enter Try.func5, Try.ntmps5
    go_wp2_with fail
    refine (HA.out _).mono ?_
    rintro e w1 ⟨rfl, hx1⟩
    go_wp2_with fail
    first | refine fin_ret rfl (fun K hK => ?_) | refine fin_norm rfl (fun K hK => ?_)
    simp [results, Try.results5, go_sem, rsat]
    try go_simp
    refine hK _ ?_
    clear hK K
    exact ⟨rfl, hx1⟩
  have k1 : ¬ (20 : Int) < (l.length : Int) := by omega
  go_enter Try.func5, Try.ntmps5
  go_wp2_with fail
  have J0 : JoinAt w (w.alloc (.cells #[.slice none 0 0, .int .i64 0] 39)) w.heap.size none 0 [] none [] 0 :=
    ⟨(Ext.refl w).alloc _, Nat.le_refl _, Row.nil _ _ _ _, by simp [ablk], fun y hy => (by cases hy), ⟨fun y hy => (by cases hy), by simp [ablk], 0, At.new _ _ _, Row.nil _ _ _ _⟩, by simp [ablk], by simp [ablk]⟩
  generalize w.alloc (.cells #[.slice none 0 0, .int .i64 0] 39) = w1 at J0 ⊢
  generalize w.heap.size = g at J0 ⊢
  go_loopw [5, 6, 7] (fun a t i wr => ∃ (k : Nat) (AA : Option Addr) (ca : Nat) (all : List Int) (Aj : Option Addr) (bs : List Int) (f : Int), i = .int .i64 k ∧ k ≤ l.length ∧ a = .slice AA all.length ca ∧ t = .int .i64 ((cut all).1.length : Nat) ∧ JoinAt w wr g AA ca all Aj bs f ∧ all.length ≤ 200 * k ∧ Hid (bs = heldB all) ∧ Hid (f = heldF all)) (fun _ _ i _ => l.length - (intOf i).toNat)
  case atStart => exact ⟨0, none, 0, [], none, [], 0, rfl, by omega, rfl, rfl, J0, by simp, Lib.hid (by decide), Lib.hid (by decide)⟩
  case round =>
    clear J0
    obtain ⟨k, AA, ca, all, Aj, bs, f, rfl, hk, rfl, rfl, J, hal, HB, HF⟩ := hrel
    have k20 : k ≤ 20 := by omega
    by_cases hlt : k < l.length
    · obtain ⟨b, off, hA, hb, hc⟩ := hx.cell (by simp only; omega)
      simp only at hA hc
      subst hA
      have a0 := (J.ext.facts.1 _ _ hb).trans (hc k hlt)
      have pok := (hx.ok l[k] (List.getElem_mem _)).ext J.ext
      have HP : Hid (∀ W, Ext w W → l[k].At W) := Lib.hid (fun W h => (hx.ok l[k] (List.getElem_mem _)).ext h)
      generalize l[k] = p at a0 pok HP
      obtain ⟨RA, Rc, rx⟩ := p
      have hbr : b < wr.heap.size := Nat.lt_of_lt_of_le hb J.ext.size
      have psr := pok.src
      have pby := pok.byt
      have pln := pok.len
      unfold maxLen at pln
      simp only [Bs.v] at a0 psr pby pln
      clear hc
      by_cases h200 : 200 < rx.length
      · have hi200 : (200 : Int) < (rx.length : Int) := by omega
        go_wp2_with fail
        refine (HA.out _).mono ?_
        rintro e w2 ⟨rfl, hx2⟩
        go_wp2_with fail
        first | refine fin_ret rfl (fun K hK => ?_) | refine fin_norm rfl (fun K hK => ?_)
        simp [results, Try.results5, go_sem, rsat]
        try go_simp
        refine hK _ ?_
        clear hK K
        exact ⟨rfl, J.ext.trans hx2⟩
      have hi200 : ¬ (200 : Int) < (rx.length : Int) := by omega
      have hle := J.row.le
      have hRr := J.row
      go_wp2_with (at_builtin; refine wpList_rowcat rfl _ _ 22 5 1 1 (.int .u8 0) rfl Try.underlying22 u8Info rfl (by decide) _ AA all.length ca (bc all) rfl hRr _ _ _ _ rfl psr (bc_one _) (by unfold maxLen; omega) (by omega) ?_)
      intro A2 c2 w2 R2 C2 f2
      have J2 := J.app pby C2 R2 f2
      have ebl : (all ++ rx).length = all.length + rx.length := List.length_append
      have C3 := rfall_c A2 c2 (all ++ rx) J2.byt (by omega) J2.row.le J2.row.max w2 J2.row.src (fun k hk => (J2.alt k hk).2)
      rw [ebl] at C3
      have hle2 := J2.row.le
      rw [ebl] at hle2
      have cf := cut_fault ((all ++ rx).length + 1) (all ++ rx) (Nat.lt_succ_self _)
      have hst := held_step all rx
      rw [← HB.out, ← HF.out] at hst
      have hWl : (cut all).1.length ≤ (cut (all ++ rx)).1.length := by
        rw [cut_app (all.length + 1) all rx (Nat.lt_succ_self _)]
        simp
      have hcb := cut_fault (all.length + 1) all (Nat.lt_succ_self _)
      have hbl : bs.length ≤ all.length := by
        rw [HB.out]; unfold heldB; split
        · simp
        · exact hcb.2.2
      have hwant := cut_few ((all ++ rx).length + 1) (all ++ rx) (Nat.lt_succ_self _)
      rw [ebl] at cf hwant
      obtain ⟨W, rs, fl, hcut⟩ : ∃ W rs fl, cut (all ++ rx) = (W, rs, fl) := ⟨_, _, _, rfl⟩
      have hB2 : heldB (all ++ rx) = if fl = 4 then [] else rs := by unfold heldB; rw [hcut]
      have hF2 : heldF (all ++ rx) = if fl = 4 then 4 else 0 := by unfold heldF; rw [hcut]
      have HCUT := Lib.hid hcut
      rw [hcut] at cf hst hWl hwant
      simp only at cf hst hWl hwant
      obtain ⟨told, htold⟩ : ∃ told, told = (cut all).1.length := ⟨_, rfl⟩
      rw [← htold] at hst hWl ⊢
      have b2 := (J2.ext.facts.1 b (off + k) hb).trans (((J.ext.facts.1 b (off + k) hb)).symm.trans a0)
      have hb2 : b < w2.heap.size := Nat.lt_of_lt_of_le hb J2.ext.size
      have pok2 : (⟨RA, Rc, rx⟩ : Bs).At w2 := HP.out w2 J2.ext
      clear hcut ebl htold hcb a0
      go_wp2_with fail
      refine C3.mono ?_
      intro e w3 h3
      obtain ⟨hx3, CC, dc, B3, d3, ol, he, _, O3, hol, hraw⟩ := h3
      rw [HCUT.out] at he hol
      simp only [List.length_append] at he hol
      subst he
      obtain ⟨fr, hfr⟩ : ∃ fr, fr = (if rs = [] then (0 : Int) else fl) := ⟨_, rfl⟩
      obtain ⟨en, hen⟩ : ∃ en : Int, en = ((all.length + rx.length : Nat) : Int) - (rs.length : Int) := ⟨_, rfl⟩
      rw [← hfr, ← hen]
      have hcase : (fl = 4 ∧ fr = 4) ∨ (fl ≠ 4 ∧ fr ≠ 4) := by
        by_cases h4 : fl = 4
        · have hne : rs ≠ [] := fun h => by have := cf.2.1 h4; rw [h] at this; exact absurd this (by decide)
          exact .inl ⟨h4, by rw [hfr, if_neg hne]; exact h4⟩
        · refine .inr ⟨h4, ?_⟩
          rw [hfr]
          split
          · decide
          · exact h4
      clear hfr
      have J3 := J2.extR hx3
      have holl : ol.length = W.length := by have := congrArg List.length hol; simpa using this
      have HOLL := Lib.hid holl
      have hol20 : ol.length ≤ 4020 := by omega
      have htl : told ≤ ol.length := by omega
      have a3 := (hx3.facts.1 b (off + k) hb2).trans b2
      have hb3 : b < w3.heap.size := Nat.lt_of_lt_of_le hb2 hx3.size
      have C4 := addany_c g Aj bs f ⟨RA, Rc, rx⟩ (by simp only; omega) w3 J3.jn (pok2.ext hx3)
      simp only [Bs.v] at C4
      have hst2 : joinD bs f rx = (W.drop told, heldB (all ++ rx), heldF (all ++ rx)) := hst
      rw [hst2] at C4
      obtain ⟨b4, hb4'⟩ : ∃ b4, b4 = heldB (all ++ rx) := ⟨_, rfl⟩
      obtain ⟨f4, hf4'⟩ : ∃ f4, f4 = heldF (all ++ rx) := ⟨_, rfl⟩
      rw [← hb4', ← hf4'] at C4
      have HB4 := Lib.hid hb4'
      have HF4 := Lib.hid hf4'
      rw [hB2] at hb4'
      rw [hF2] at hf4'
      have HC4 := Lib.hid C4
      clear hst hst2 holl b2 hB2 hF2 C4
      go_wp2_with fail
      refine HC4.out.mono ?_
      rintro e w4 ⟨⟨B4, d4, l4, A4, rfl, O4, hr4, hx4, hj4, hn4, _, _⟩, hC4⟩
      have J4 := J3.add hC4 hj4 hn4
      have O34 : OwnB w2 w4 B3 d3 ol := O3.chg hC4 (fun j hj h1 => ?_) (fun p hp j hj h1 => ?_)
      · have l4l : l4.length = W.length - told := by have := congrArg List.length hx4; simpa using this
        have L4L := Lib.hid l4l
        have hl4 : (l4.length : Int) ≤ (ol.length : Int) - (told : Int) := by have := HOLL.out; omega
        have hl4' : ¬ (ol.length : Int) - (told : Int) < (l4.length : Int) := by omega
        have a4 : w4.cell? ⟨b, off + k, none⟩ = some (.slice RA rx.length Rc) := (J4.ext.facts.1 b (off + k) hb).trans (((J3.ext.facts.1 b (off + k) hb)).symm.trans a3)
        have hb4 : b < w4.heap.size := Nat.lt_of_lt_of_le hb J4.ext.size
        clear l4l
        go_wp2_with fail
        refine (add_nil _ _).mono ?_
        rintro e w5 ⟨rfl, hx5⟩
        have hR5 := (O34.ext hx5).row
        have hle5 := hR5.le
        have hmx5 := hR5.max
        unfold maxLen at hmx5
        have hD5 := hR5.dropN htl
        have hLI : ∀ A6 c6, A6 = cutA B3 d3 told 1 → c6 = d3 - told → (⟨A6, c6, ol.drop told⟩ : Bl).At w5 := fun A6 c6 h1 h2 => by
          subst h1 h2
          have hdl : (ol.drop told).length = ol.length - told := List.length_drop
          refine ⟨by rw [hdl]; exact hD5.le, hD5.max, ?_, fun p hp => (O34.ext hx5).ok p (List.mem_of_mem_drop hp)⟩
          have := hD5.src
          rw [Nat.mul_one] at this
          rw [hdl, show (ol.drop told).map Bs.v = (ol.map Bs.v).drop told from List.map_drop]
          exact this
        have C6 : ∀ A6 c6, A6 = cutA B3 d3 told 1 → c6 = d3 - told → Calls Try.prog 16 #[.slice B4 l4.length d4, .slice A6 (ol.length - told) c6] w5 fun e w' => e = .returned (.bool true) ∧ Ext w5 w' := fun A6 c6 h1 h2 => by
          have := lists4_c ⟨B4, d4, l4⟩ ⟨A6, c6, ol.drop told⟩ w5 (O4.at_.ext hx5) (hLI A6 c6 h1 h2)
          unfold Bl.xs Bl.v at this
          simp only [List.length_drop] at this
          rw [decide_eq_true (by rw [hx4, List.map_drop, hol])] at this
          exact this
        have HC6 := Lib.hid C6
        clear hLI C6 hD5 hR5
        rcases hcase with ⟨h4, hr4⟩ | ⟨h4, hr4⟩
        · rw [if_pos h4] at hb4' hf4'
          subst hr4 hb4' hf4'
          go_wp2_with fail
          all_goals first | (exfalso; omega) | skip
          all_goals
            refine (HC6.out _ _ (by unfold cutA; first | (rw [if_pos (by omega)]) | (rw [if_neg (by omega)]; simp)) (by omega)).mono ?_
            rintro e w6 ⟨rfl, hx6⟩
            have J6 := (J4.extR hx5).extR hx6
            go_wp2_with fail
            refine (jfault_c g A4 [] 4 _ J6.jn).mono ?_
            rintro e w7 ⟨rfl, hx7⟩
            go_wp2_with fail
            refine (jwaits_c g A4 [] 4 _ (J6.jn.ext hx7)).mono ?_
            rintro e w8 ⟨rfl, hx8⟩
            simp only [List.length_nil]
            go_wp2_with fail
            go_roundw
            case rel => exact ⟨k + 1, A2, c2, all ++ rx, A4, [], 4, by go_num, by omega, by simp, by rw [HCUT.out, HOLL.out], (J6.extR hx7).extR hx8, by rw [List.length_append]; omega, HB4, HF4⟩
            case measure => simp [intOf]; omega
        · rw [if_neg h4] at hb4' hf4'
          subst hb4' hf4'
          have hrb : (fr == 4) = false := beq_eq_false_iff_ne.2 hr4
          have hwb : ∀ z : Int, z = (all.length : Int) + (rx.length : Int) - en → (((b4.length : Nat) : Int) != z) = false := fun z hz => by
            have : ((b4.length : Nat) : Int) = z := by rw [hz, hen]; omega
            rw [← this]; simp
          have HEN := Lib.hid hen
          clear hen
          go_wp2_with fail
          all_goals first | (exfalso; omega) | skip
          all_goals
            refine (HC6.out _ _ (by unfold cutA; first | (rw [if_pos (by omega)]) | (rw [if_neg (by omega)]; simp)) (by omega)).mono ?_
            rintro e w6 ⟨rfl, hx6⟩
            have J6 := (J4.extR hx5).extR hx6
            go_wp2_with fail
            refine (jfault_c g A4 b4 0 _ J6.jn).mono ?_
            rintro e w7 ⟨rfl, hx7⟩
            go_wp2_with fail
            refine (jwaits_c g A4 b4 0 _ (J6.jn.ext hx7)).mono ?_
            rintro e w8 ⟨rfl, hx8⟩
            have hww := hwb _ rfl
            go_wp2_with fail
            go_roundw
            case rel => exact ⟨k + 1, A2, c2, all ++ rx, A4, b4, 0, by go_num, by omega, by simp, by rw [HCUT.out, HOLL.out], (J6.extR hx7).extR hx8, by rw [List.length_append]; omega, HB4, HF4⟩
            case measure => simp [intOf]; omega
      · have g1 := O3.new j h1
        rcases List.mem_cons.1 hj with rfl | hj
        · have := J2.jn.lt; omega
        · have := (J2.jn.alt j hj).1; omega
      · have h2 := J2.alt j (hraw p hp j hj)
        rcases List.mem_cons.1 h1 with rfl | h1
        · omega
        · exact J2.sep j (hraw p hp j hj) h1
    · obtain rfl : k = l.length := by omega
      go_wp2_with fail
      refine (jfault_nil _).mono ?_
      rintro e w2 ⟨rfl, hx2⟩
      go_wp2_with fail
      refine (jwaits_nil _).mono ?_
      rintro e w3 ⟨rfl, hx3⟩
      go_wp2_with fail
      refine (HA.out _).mono ?_
      rintro e w4 ⟨rfl, hx4⟩
      go_wp2_with fail
      first | refine fin_ret rfl (fun K hK => ?_) | refine fin_norm rfl (fun K hK => ?_)
      simp [results, Try.results5, go_sem, rsat]
      try go_simp
      refine hK _ ?_
      clear hK K
      exact ⟨rfl, ((J.ext.trans hx2).trans hx3).trans hx4⟩
end Go.Proofs.Ythhgkmdjplancaa
