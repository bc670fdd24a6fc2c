/- Messages (layer 6): Stream, All, Lists by the document. Condition: at most 60 messages, 10^6 bytes. -/
import Derived.Test.YthophidcgkjdeaaM8
import Derived.Test.YthophidcgkjdeaaH1
import Derived.Test.YthophidcgkjdeaaJ5
/- Messages (layer 6): Stream, by the program and by the document. Condition: at most 60 messages. -/
namespace Go.Proofs.Ythophidcgkjdeaa
open Go.RowKit
attribute [local go_sem] Later.cell QUpon_value QUpon_enter MUpon_value run_eql_slice_nil Same.cell
attribute [local go_sem ↓ high] loadMsg_is storeMsg_is
attribute [local go_sem] run_loadMsg run_loadMsg_at run_storeMsg one_int one_bool one_slice one_ptr one_str setRow_new setRow_past cell_ca frozen_ca cellsAt_alloc_at cellsAt_alloc_past cellsAt_drew cellsAt_later cellsAt_setCell cellsAt_set_same cellsAt_setRow_same cellsAt_setRow_far subAt_alloc subAt_drew subAt_later subAt_setCell subAt_setRow ltn_2 ltn_3 ltn_4 ltn_5
theorem form_byt {m : Mg} (hF : m.Fine) : Byt (formB m) := by
  have k1 := hF.kind
  have k2 := hF.sym
  have k3 := hF.code
  unfold formB
  refine ((((Byt.app ?_ (numB_byt _)).app (numB_byt _)).app (intB_byt _)).app (intB_byt _)).app (intB_byt _) |>.app (intB_byt _)
  intro x hx
  simp at hx
  rcases hx with rfl | rfl | rfl <;> omega
/-- What Stream answers. -/
def StrIs (l : List Mg) (w : World) (e : Ending) (w' : World) : Prop := Ext w w' ∧ ∃ v, e = .returned (.tuple #[v, .int .i64 (strM l).2]) ∧ Own w w' v (strM l).1
theorem strM_app {l : List Mg} {k : Nat} (hk : k < l.length) (h : (l.take k).all rightB = true) : (rightB l[k] = true → (l.take (k + 1)).all rightB = true ∧ stream ((l.take (k + 1)).map formB) = stream ((l.take k).map formB) ++ frB (formB l[k])) ∧ (rightB l[k] = false → strM l = ([], 1)) := by
  have ht : l.take (k + 1) = l.take k ++ [l[k]] := List.take_succ_eq_append_getElem hk
  refine ⟨fun hr => ⟨?_, ?_⟩, fun hr => ?_⟩
  · rw [ht, List.all_append, h]; simp [hr]
  · rw [ht, List.map_append]
    show List.flatMap frB (_ ++ _) = _
    rw [List.flatMap_append]
    simp [stream]
  · unfold strM
    rw [if_neg]
    intro h1
    have := List.all_eq_true.1 h1 l[k] (List.getElem_mem _)
    rw [hr] at this
    cases this
set_option maxHeartbeats 1000000 in
set_option maxRecDepth 100000 in
theorem stream_c (A : Option Addr) (c : Nat) (l : List Mg) (hl : l.length ≤ 60) (w : World) (hL : Lies Mg.cells 9 w A c l) (hok : ∀ m ∈ l, m.Ok) :
    Calls Try.prog 25 #[.slice A l.length c] w fun e w' => StrIs l w e w' := by
  obtain ⟨P, hP⟩ : ∃ P : Ending → World → Prop, P = fun e w' => StrIs l w e w' := ⟨_, rfl⟩
  rw [← hP]
  have HP := Lib.hid hP
  clear hP
  go_enter Try.func25, Try.ntmps25
  go_wp2_with fail
  go_loopw [2, 11] (fun v i wr => ∃ k : Nat, i = .int .i64 k ∧ k ≤ l.length ∧ (l.take k).all rightB = true ∧ Ext w wr ∧ Own w wr v (stream ((l.take k).map formB))) (fun _ i _ => l.length - (intOf i).toNat)
  case atStart => exact ⟨0, rfl, by omega, rfl, Ext.refl _, Own.nil _ _⟩
  case round =>
    obtain ⟨k, rfl, hk, hall, hx, O⟩ := hrel
    by_cases hlt : k < l.length
    · obtain ⟨b, off, rfl, hb, hs, _⟩ := hL.msg k hlt
      have hs1 := (subAt_ext hx hb).trans hs
      have hbr : b < wr.heap.size := Nat.lt_of_lt_of_le hb hx.size
      obtain ⟨hy, hn⟩ := strM_app hlt hall
      have hmk := hok l[k] (List.getElem_mem _)
      have hsl : (stream ((l.take k).map formB)).length ≤ 66 * 60 := by
        have h1 := stream_len (l := (l.take k).map formB) (fun p hp => by
          obtain ⟨m, hm, rfl⟩ := List.mem_map.1 hp
          have := form_len ((right_iff m).1 (List.all_eq_true.1 hall m hm))
          omega)
        rw [List.length_map, List.length_take] at h1
        omega
      generalize l[k] = m at hs1 hmk hy hn
      generalize stream ((l.take k).map formB) = bs at O hy hsl
      obtain ⟨A1, c1, rfl, R1, F1⟩ := O
      have C1 := enc_c m hmk
      unfold Enc encF encL at C1
      have HALL := Lib.hid hall
      clear hall hs
      cases hr : rightB m with
      | false =>
        simp only [hr, Bool.false_eq_true, if_false] at C1
        have HN := Lib.hid (hn hr)
        have HC1 := Lib.hid C1
        clear C1 hn hy hr
        go_wp2_with fail
        refine (HC1.out _).mono ?_
        rintro e w1 ⟨hx1, v1, rfl, o1⟩
        go_wp2_with fail
        rw [HP.out]
        unfold StrIs
        rw [HN.out]
        exact ⟨hx.trans (Ext.trans (by repeat (first | (with_reducible exact Ext.refl _) | (with_reducible assumption) | (with_reducible refine Ext.alloc ?_ _) | (with_reducible refine Ext.drew ?_) | (with_reducible refine Ext.drewN ?_ _) | (with_reducible refine Ext.setCell ?_ (by simp; try omega) _) | (with_reducible refine Ext.setRow ?_ (by simp; try omega) _))) hx1), _, rfl, Own.nil _ _⟩
      | true =>
        have hF := (right_iff m).1 hr
        have h64 : (formB m).length ≤ 64 := by have := form_len hF; omega
        have hbf := form_byt hF
        simp only [hr, if_true] at C1
        have HY := Lib.hid (hy hr)
        have HC1 := Lib.hid C1
        clear C1 hn hy hr hF
        go_wp2_with fail
        refine (HC1.out _).mono ?_
        rintro e w1 ⟨hx1, v1, rfl, A2, c2, rfl, R2, F2⟩
        have x1 : Ext wr w1 := Ext.trans (by repeat (first | (with_reducible exact Ext.refl _) | (with_reducible assumption) | (with_reducible refine Ext.alloc ?_ _) | (with_reducible refine Ext.drew ?_) | (with_reducible refine Ext.drewN ?_ _) | (with_reducible refine Ext.setCell ?_ (by simp; try omega) _) | (with_reducible refine Ext.setRow ?_ (by simp; try omega) _))) hx1
        have C2 := fput_c A2 c2 (formB m) hbf (by omega) w1 R2.src
        unfold PutIs putF putL at C2
        simp only [h64, if_true] at C2
        go_wp2_with fail
        refine C2.mono ?_
        rintro e w2 ⟨hx2, v2, rfl, A3, c3, rfl, R3, F3⟩
        have x2 := x1.trans hx2
        have hfl := frB_len (formB m)
        have hf2 : (frB (formB m)).length ≤ 66 := by omega
        clear hfl
        generalize frB (formB m) = fs at *
        have R1' := R1.ext x2
        clear R2 F2 C2
        go_wp2_with (at_builtin; refine wpList_rowcat rfl _ _ 39 5 1 1 (.int .u8 0) rfl Try.underlying39 u8Info rfl (by decide) _ _ _ _ _ rfl R1' _ _ _ _ rfl R3.src (bc_one _) (by unfold maxLen; omega) (by omega) ?_)
        intro A4 c4 w4 R4 hC4 hf4
        have hs2 := x2.size
        have hsw := hx.size
        have O4 : Own w w4 (.slice A4 (bs.length + fs.length) c4) (bs ++ fs) := ⟨A4, c4, by rw [List.length_append], by rw [List.length_append, bc_app]; exact R4, fun j hj => by
          rcases hf4 j hj with h1 | h1
          · have := F1 j h1; exact ⟨this.1, Nat.lt_of_lt_of_le this.2 (Nat.le_trans hs2 hC4.size)⟩
          · exact ⟨by omega, h1.2⟩⟩
        have x4 : Ext w w4 := (Chg.step (Chg.of_ext (hx.trans x2) []) hC4 (fun i hi => .inr (F1 i hi).1)).ext (by simp)
        go_wp2_with fail
        go_roundw
        case rel => exact ⟨k + 1, by go_num, by omega, HY.out.1, x4, by rw [HY.out.2]; exact O4⟩
        case measure => simp [intOf]; omega
    · obtain rfl : k = l.length := by omega
      rw [List.take_length] at hall O
      have hM : strM l = (stream (l.map formB), 0) := by unfold strM; rw [if_pos hall]
      have HM := Lib.hid hM
      obtain ⟨A1, c1, rfl, R1, F1⟩ := O
      clear hM
      go_wp2_with fail
      rw [HP.out]
      unfold StrIs
      rw [HM.out]
      exact ⟨hx, _, rfl, A1, c1, rfl, R1, F1⟩
set_option maxHeartbeats 1000000 in
set_option maxRecDepth 100000 in
theorem rstream_c (A : Option Addr) (c : Nat) (l : List Mg) (hl : l.length ≤ 60) (w : World) (hL : Lies Mg.cells 9 w A c l) (hok : ∀ m ∈ l, m.Ok) :
    Calls Try.prog 14 #[.slice A l.length c] w fun e w' => StrIs l w e w' := by
  obtain ⟨P, hP⟩ : ∃ P : Ending → World → Prop, P = fun e w' => StrIs l w e w' := ⟨_, rfl⟩
  rw [← hP]
  have HP := Lib.hid hP
  clear hP
  go_enter Try.func14, Try.ntmps14
  go_wp2_with fail
  go_loopw [4, 5] (fun v i wr => ∃ k : Nat, i = .int .i64 k ∧ k ≤ l.length ∧ (l.take k).all rightB = true ∧ Ext w wr ∧ Own w wr v (stream ((l.take k).map formB))) (fun _ i _ => l.length - (intOf i).toNat)
  case atStart => exact ⟨0, rfl, by omega, rfl, Ext.refl _, Own.nil _ _⟩
  case round =>
    obtain ⟨k, rfl, hk, hall, hx, O⟩ := hrel
    by_cases hlt : k < l.length
    · obtain ⟨b, off, rfl, hb, hs, _⟩ := hL.msg k hlt
      have hs1 := (subAt_ext hx hb).trans hs
      have hbr : b < wr.heap.size := Nat.lt_of_lt_of_le hb hx.size
      obtain ⟨hy, hn⟩ := strM_app hlt hall
      have hmk := hok l[k] (List.getElem_mem _)
      have hsl : (stream ((l.take k).map formB)).length ≤ 66 * 60 := by
        have h1 := stream_len (l := (l.take k).map formB) (fun p hp => by
          obtain ⟨m, hm, rfl⟩ := List.mem_map.1 hp
          have := form_len ((right_iff m).1 (List.all_eq_true.1 hall m hm))
          omega)
        rw [List.length_map, List.length_take] at h1
        omega
      generalize l[k] = m at hs1 hmk hy hn
      generalize stream ((l.take k).map formB) = bs at O hy hsl
      obtain ⟨A1, c1, rfl, R1, F1⟩ := O
      have C1 := renc_c m hmk
      unfold Enc encF encL at C1
      have HALL := Lib.hid hall
      clear hall hs
      cases hr : rightB m with
      | false =>
        simp only [hr, Bool.false_eq_true, if_false] at C1
        have HN := Lib.hid (hn hr)
        have HC1 := Lib.hid C1
        clear C1 hn hy hr
        go_wp2_with fail
        refine (HC1.out _).mono ?_
        rintro e w1 ⟨hx1, v1, rfl, o1⟩
        go_wp2_with fail
        rw [HP.out]
        unfold StrIs
        rw [HN.out]
        exact ⟨hx.trans (Ext.trans (by repeat (first | (with_reducible exact Ext.refl _) | (with_reducible assumption) | (with_reducible refine Ext.alloc ?_ _) | (with_reducible refine Ext.drew ?_) | (with_reducible refine Ext.drewN ?_ _) | (with_reducible refine Ext.setCell ?_ (by simp; try omega) _) | (with_reducible refine Ext.setRow ?_ (by simp; try omega) _))) hx1), _, rfl, Own.nil _ _⟩
      | true =>
        have hF := (right_iff m).1 hr
        have h64 : (formB m).length ≤ 64 := by have := form_len hF; omega
        have hbf := form_byt hF
        simp only [hr, if_true] at C1
        have HY := Lib.hid (hy hr)
        have HC1 := Lib.hid C1
        clear C1 hn hy hr hF
        go_wp2_with fail
        refine (HC1.out _).mono ?_
        rintro e w1 ⟨hx1, v1, rfl, A2, c2, rfl, R2, F2⟩
        have x1 : Ext wr w1 := Ext.trans (by repeat (first | (with_reducible exact Ext.refl _) | (with_reducible assumption) | (with_reducible refine Ext.alloc ?_ _) | (with_reducible refine Ext.drew ?_) | (with_reducible refine Ext.drewN ?_ _) | (with_reducible refine Ext.setCell ?_ (by simp; try omega) _) | (with_reducible refine Ext.setRow ?_ (by simp; try omega) _))) hx1
        have C2 := rfput_c A2 c2 (formB m) hbf (by omega) w1 R2.src
        unfold PutIs putF putL at C2
        simp only [h64, if_true] at C2
        go_wp2_with fail
        refine C2.mono ?_
        rintro e w2 ⟨hx2, v2, rfl, A3, c3, rfl, R3, F3⟩
        have x2 := x1.trans hx2
        have hfl := frB_len (formB m)
        have hf2 : (frB (formB m)).length ≤ 66 := by omega
        clear hfl
        generalize frB (formB m) = fs at *
        have R1' := R1.ext x2
        clear R2 F2 C2
        go_wp2_with (at_builtin; refine wpList_rowcat rfl _ _ 39 5 1 1 (.int .u8 0) rfl Try.underlying39 u8Info rfl (by decide) _ _ _ _ _ rfl R1' _ _ _ _ rfl R3.src (bc_one _) (by unfold maxLen; omega) (by omega) ?_)
        intro A4 c4 w4 R4 hC4 hf4
        have hs2 := x2.size
        have hsw := hx.size
        have O4 : Own w w4 (.slice A4 (bs.length + fs.length) c4) (bs ++ fs) := ⟨A4, c4, by rw [List.length_append], by rw [List.length_append, bc_app]; exact R4, fun j hj => by
          rcases hf4 j hj with h1 | h1
          · have := F1 j h1; exact ⟨this.1, Nat.lt_of_lt_of_le this.2 (Nat.le_trans hs2 hC4.size)⟩
          · exact ⟨by omega, h1.2⟩⟩
        have x4 : Ext w w4 := (Chg.step (Chg.of_ext (hx.trans x2) []) hC4 (fun i hi => .inr (F1 i hi).1)).ext (by simp)
        go_wp2_with fail
        go_roundw
        case rel => exact ⟨k + 1, by go_num, by omega, HY.out.1, x4, by rw [HY.out.2]; exact O4⟩
        case measure => simp [intOf]; omega
    · obtain rfl : k = l.length := by omega
      rw [List.take_length] at hall O
      have hM : strM l = (stream (l.map formB), 0) := by unfold strM; rw [if_pos hall]
      have HM := Lib.hid hM
      obtain ⟨A1, c1, rfl, R1, F1⟩ := O
      clear hM
      go_wp2_with fail
      rw [HP.out]
      unfold StrIs
      rw [HM.out]
      exact ⟨hx, _, rfl, A1, c1, rfl, R1, F1⟩
end Go.Proofs.Ythophidcgkjdeaa
/- Messages (layer 6): the document's All, Lists. Condition: at most 10^6 bytes. -/
namespace Go.Proofs.Ythophidcgkjdeaa
open Go.RowKit
attribute [local go_sem] Later.cell QUpon_value QUpon_enter MUpon_value run_eql_slice_nil Same.cell
attribute [local go_sem ↓ high] loadMsg_is storeMsg_is
attribute [local go_sem] run_loadMsg run_loadMsg_at run_storeMsg one_int one_bool one_slice one_ptr one_str setRow_new setRow_past cell_ca frozen_ca cellsAt_alloc_at cellsAt_alloc_past cellsAt_drew cellsAt_later cellsAt_setCell cellsAt_set_same cellsAt_setRow_same cellsAt_setRow_far subAt_alloc subAt_drew subAt_later subAt_setCell subAt_setRow ltn_2 ltn_3 ltn_4 ltn_5
theorem decL_snoc : ∀ (xs : List (List Int)) (ms : List Mg) (b : List Int) (m : Mg), decL xs = (ms, 0) → decB b = (m, 0) → decL (xs ++ [b]) = (ms ++ [m], 0)
  | [], ms, b, m, h, hb => by
    injection h with h _
    subst h
    show (if (decB b).2 ≠ 0 then _ else if (decL []).2 ≠ 0 then _ else ((decB b).1 :: (decL []).1, 0)) = _
    rw [hb]
    rfl
  | x :: xs, ms, b, m, h, hb => by
    by_cases hx : (decB x).2 ≠ 0
    · have e : decL (x :: xs) = ([], (decB x).2) := if_pos hx
      rw [e] at h
      injection h with _ h
      exact absurd h hx
    by_cases hy : (decL xs).2 ≠ 0
    · have e : decL (x :: xs) = ([], (decL xs).2) := by show (if _ then _ else if _ then _ else _) = _; rw [if_neg hx, if_pos hy]
      rw [e] at h
      injection h with _ h
      exact absurd h hy
    have e : decL (x :: xs) = ((decB x).1 :: (decL xs).1, 0) := by show (if _ then _ else if _ then _ else _) = _; rw [if_neg hx, if_neg hy]
    rw [e] at h
    injection h with h _
    have ih := decL_snoc xs (decL xs).1 b m (Prod.ext rfl (by omega)) hb
    show (if (decB x).2 ≠ 0 then _ else if (decL (xs ++ [b])).2 ≠ 0 then _ else ((decB x).1 :: (decL (xs ++ [b])).1, 0)) = _
    rw [if_neg hx, ih, ← h]
    rfl
theorem decL_stop : ∀ (xs : List (List Int)) (ms : List Mg) (b : List Int) (r : List (List Int)) (m : Mg) (f : Int), decL xs = (ms, 0) → decB b = (m, f) → f ≠ 0 → decL (xs ++ b :: r) = ([], f)
  | [], ms, b, r, m, f, _, hb, hf => by
    show (if (decB b).2 ≠ 0 then ([], (decB b).2) else _) = _
    rw [hb, if_pos hf]
  | x :: xs, ms, b, r, m, f, h, hb, hf => by
    by_cases hx : (decB x).2 ≠ 0
    · have e : decL (x :: xs) = ([], (decB x).2) := if_pos hx
      rw [e] at h
      injection h with _ h
      exact absurd h hx
    by_cases hy : (decL xs).2 ≠ 0
    · have e : decL (x :: xs) = ([], (decL xs).2) := by show (if _ then _ else if _ then _ else _) = _; rw [if_neg hx, if_pos hy]
      rw [e] at h
      injection h with _ h
      exact absurd h hy
    have ih := decL_stop xs (decL xs).1 b r m f (Prod.ext rfl (by omega)) hb hf
    show (if (decB x).2 ≠ 0 then _ else if (decL (xs ++ b :: r)).2 ≠ 0 then ([], (decL (xs ++ b :: r)).2) else _) = _
    rw [if_neg hx, ih, if_pos hf]
def msgZ6 : Value := .agg #[.int .i64 0, .int .i64 0, .int .i64 0, .int .i64 0, .int .i64 0, .int .i64 0, .int .i64 0, .int .i64 0, .int .i64 0]
theorem msgInfo6 : (Try.prog.info? 34).map (fun i => (i.zero, i.size, i.bytes)) = some (some msgZ6, 9, 72) := by kernel_rfl
/-- Messages in a row of the call's own. -/
structure OwnM (w0 w : World) (A : Option Addr) (c : Nat) (l : List Mg) : Prop where
  row : Row w 34 9 A l.length c (l.flatMap Mg.cells)
  new : ∀ k ∈ ablk A, w0.heap.size ≤ k ∧ k < w.heap.size
theorem OwnM.nil (w0 w : World) : OwnM w0 w none 0 [] := ⟨Row.nil _ _ _ _, by simp [ablk]⟩
theorem OwnM.ext {w0 w w' : World} {A : Option Addr} {c : Nat} {l : List Mg} (h : OwnM w0 w A c l) (hx : Ext w w') : OwnM w0 w' A c l := ⟨h.row.ext hx, fun k hk => ⟨(h.new k hk).1, Nat.lt_of_lt_of_le (h.new k hk).2 hx.size⟩⟩
theorem OwnM.base {w0 w1 w : World} {A : Option Addr} {c : Nat} {l : List Mg} (h : OwnM w1 w A c l) (hs : w0.heap.size ≤ w1.heap.size) : OwnM w0 w A c l := ⟨h.row, fun k hk => ⟨Nat.le_trans hs (h.new k hk).1, (h.new k hk).2⟩⟩
theorem OwnM.lies {w0 w : World} {A : Option Addr} {c : Nat} {l : List Mg} (h : OwnM w0 w A c l) : Lies Mg.cells 9 w A c l := ⟨h.row.le, h.row.max, h.row.src⟩
theorem OwnM.app {w0 w w' : World} {A A' : Option Addr} {c c' n : Nat} {l : List Mg} {m : Mg} {ys : List Value} (h : OwnM w0 w A c l) (hC : Chg w w' (ablk A)) (hR : Row w' 34 9 A' (n + 1) c' (l.flatMap Mg.cells ++ ys)) (hn' : n = l.length) (hys : ys = m.cells) (hn : ∀ k ∈ ablk A', k ∈ ablk A ∨ (w.heap.size ≤ k ∧ k < w'.heap.size)) (hw : w0.heap.size ≤ w.heap.size) : OwnM w0 w' A' c' (l ++ [m]) := by
  subst hn' hys
  refine ⟨?_, fun k hk => ?_⟩
  · rw [List.length_append, List.flatMap_append]
    simpa using hR
  · have hs := hC.size
    rcases hn k hk with h1 | h1
    · have := h.new k h1; omega
    · omega
theorem cut_few : ∀ (n : Nat) (bs : List Int), (cutN n bs).1.length ≤ bs.length
  | 0, _ => Nat.zero_le _
  | n + 1, bs => by
    have e : cutN (n + 1) bs = if takeF bs = 0 then (takeL bs :: (cutN n (bs.drop (takeN bs).toNat)).1, (cutN n (bs.drop (takeN bs).toNat)).2) else ([], bs, takeF bs) := rfl
    rw [e]
    split
    · rename_i hf
      have h1 := cut_few n (bs.drop (takeN bs).toNat)
      have h2 := takeN_pos hf
      rw [List.length_drop] at h1
      simp only [List.length_cons]
      omega
    · exact Nat.zero_le _
theorem cutN_f : ∀ (n : Nat) (bs : List Int), (cutN n bs).2.2 ≠ 0
  | 0, _ => by show (3 : Int) ≠ 0; decide
  | n + 1, bs => by
    have e : cutN (n + 1) bs = if takeF bs = 0 then (takeL bs :: (cutN n (bs.drop (takeN bs).toNat)).1, (cutN n (bs.drop (takeN bs).toNat)).2) else ([], bs, takeF bs) := rfl
    rw [e]
    split
    · exact cutN_f n _
    · rename_i hf; exact hf
theorem cut_f (bs : List Int) : (cut bs).2.2 ≠ 0 := cutN_f _ _
/-- What All answers. -/
def AllM6 (bs : List Int) (w : World) (e : Ending) (w' : World) : Prop := Ext w w' ∧ ∃ A c, e = .returned (.tuple #[.slice A (allM bs).1.length c, .int .i64 (allM bs).2]) ∧ OwnM w w' A c (allM bs).1
theorem cut_byt {bs : List Int} (hb : Byt bs) : ∀ p ∈ (cut bs).1, Byt p ∧ p.length ≤ 64 := by
  have key : ∀ (n : Nat) (bs : List Int), Byt bs → ∀ p ∈ (cutN n bs).1, Byt p ∧ p.length ≤ 64 := by
    intro n
    induction n with
    | zero => intro bs _ p hp; cases hp
    | succ n ih =>
      intro bs hb p hp
      have e : cutN (n + 1) bs = if takeF bs = 0 then (takeL bs :: (cutN n (bs.drop (takeN bs).toNat)).1, (cutN n (bs.drop (takeN bs).toNat)).2) else ([], bs, takeF bs) := rfl
      rw [e] at hp
      split at hp
      · rcases List.mem_cons.1 hp with rfl | hp
        · exact ⟨takeL_byt hb, takeL_len _⟩
        · exact ih _ (fun x hx => hb x (List.mem_of_mem_drop hx)) p hp
      · cases hp
  exact key _ bs hb
end Go.Proofs.Ythophidcgkjdeaa
/- Messages (layer 6): Lists, of two that are the same. No condition. -/
namespace Go.Proofs.Ythophidcgkjdeaa
open Go.RowKit
attribute [local go_sem] Later.cell QUpon_value QUpon_enter MUpon_value run_eql_slice_nil Same.cell
attribute [local go_sem ↓ high] loadMsg_is storeMsg_is
attribute [local go_sem] run_loadMsg run_loadMsg_at run_storeMsg one_int one_bool one_slice one_ptr one_str setRow_new setRow_past cell_ca frozen_ca cellsAt_alloc_at cellsAt_alloc_past cellsAt_drew cellsAt_later cellsAt_setCell cellsAt_set_same cellsAt_setRow_same cellsAt_setRow_far subAt_alloc subAt_drew subAt_later subAt_setCell subAt_setRow ltn_2 ltn_3 ltn_4 ltn_5
theorem lies_get {w : World} {A : Option Addr} {c : Nat} {l : List Mg} (h : Lies Mg.cells 9 w A c l) : 0 < l.length → ∃ b off, A = some ⟨b, off, none⟩ ∧ b < w.heap.size ∧ ∀ i (hi : i < l.length), subAt w b (off + i * 9) 9 = (l[i]).cells.toArray := fun h0 => by
  obtain ⟨b, off, hA, hb, hs, _⟩ := h.msg 0 h0
  refine ⟨b, off, hA, hb, fun i hi => ?_⟩
  obtain ⟨b', off', hA', hb', hs', _⟩ := h.msg i hi
  rw [hA] at hA'
  injection hA' with hA'
  injection hA' with h1 h2
  subst h1 h2
  exact hs'
set_option maxHeartbeats 1000000 in
set_option maxRecDepth 100000 in
theorem mlists_c (A B : Option Addr) (c d : Nat) (a : List Mg) (w : World) (hA : Lies Mg.cells 9 w A c a) (hB : Lies Mg.cells 9 w B d a) :
    Calls Try.prog 19 #[.slice A a.length c, .slice B a.length d] w fun e w' => e = .returned (.bool true) ∧ Ext w w' := by
  have hla : a.length ≤ 9223372036854775807 := by have := hA.le; have := hA.max; unfold maxLen at this; omega
  have hnb : ((a.length : Int) != (a.length : Int)) = false := by simp
  go_enter Try.func19, Try.ntmps19
  go_wp2_with fail
  go_loopw [5] (fun i wr => ∃ k : Nat, i = .int .i64 k ∧ k ≤ a.length ∧ Ext w wr) (fun i _ => a.length - (intOf i).toNat)
  case atStart => exact ⟨0, rfl, by omega, Ext.refl _⟩
  case round =>
    obtain ⟨k, rfl, hk, hx⟩ := hrel
    by_cases hlt : k < a.length
    · obtain ⟨p, po, rfl, hp, hcp⟩ := lies_get hA (by omega)
      obtain ⟨q, qo, rfl, hq, hcq⟩ := lies_get hB (by omega)
      have s1 := (subAt_ext hx hp).trans (hcp k hlt)
      have s2 := (subAt_ext hx hq).trans (hcq k hlt)
      have hpr : p < wr.heap.size := Nat.lt_of_lt_of_le hp hx.size
      have hqr : q < wr.heap.size := Nat.lt_of_lt_of_le hq hx.size
      generalize a[k] = x at s1 s2
      have hki : (k : Int) < (a.length : Int) := by omega
      clear hcp hcq
      unfold Mg.cells at s1 s2
      go_wp2_with fail
      refine wp_region_x 9 [0, 0, 0, 1, 0, 0, 0, 1, 0] (by kernel_rfl) (by kernel_rfl) (by kernel_rfl) ?_
      simp only [List.take_succ_cons, List.take_zero, List.drop_succ_cons, List.drop_zero]
      refine hl_pure (fun K hK => ?_)
      go_simp
      refine hK _ ?_
      clear hK K
      refine hl_pure (fun K hK => ?_)
      go_simp
      refine hK _ ?_
      clear hK K
      refine hl_pure (fun K hK => ?_)
      go_simp
      refine hK _ ?_
      clear hK K
      refine hl_quiet (fun K hK => ?_)
      go_simp
      refine hK _ ?_
      clear hK K
      refine hl_pure (fun K hK => ?_)
      go_simp
      refine hK _ ?_
      clear hK K
      refine hl_pure (fun K hK => ?_)
      go_simp
      refine hK _ ?_
      clear hK K
      refine hl_pure (fun K hK => ?_)
      go_simp
      refine hK _ ?_
      clear hK K
      refine hl_quiet (fun K hK => ?_)
      go_simp
      refine hK _ ?_
      clear hK K
      refine hl_pure (fun K hK => ?_)
      go_simp
      refine hK _ ?_
      clear hK K
      refine hl_nil ?_
      intro w3 hx3 K hK
      go_wp2_with fail
      go_roundw
      case rel => exact ⟨k + 1, by go_num, by omega, hx.trans hx3⟩
      case measure => simp [intOf]; omega
    · obtain rfl : k = a.length := by omega
      go_wp2_with fail
      first | refine fin_ret rfl (fun K hK => ?_) | refine fin_norm rfl (fun K hK => ?_)
      simp [results, Try.results19, go_sem, rsat]
      try go_simp
      refine hK _ ?_
      clear hK K
      exact ⟨rfl, hx⟩
end Go.Proofs.Ythophidcgkjdeaa
