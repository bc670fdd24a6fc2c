/- Law CommandBack. No condition. -/
import Derived.Test.YtodeplfndebbgaaK9
namespace Go.Proofs.Ytodeplfndebbgaa
open Go.RowKit
attribute [local go_sem] Later.cell QUpon_value QUpon_enter MUpon_value run_eql_slice_nil Same.cell
attribute [local go_sem ↓ high] loadCmd_is storeCmd_is
attribute [local go_sem] run_loadCmd run_loadCmd_at run_storeCmd one_int one_bool one_slice one_ptr one_str setRow_new setRow_past cell_ca frozen_ca cellsAt_alloc_at cellsAt_alloc_past cellsAt_drew cellsAt_later cellsAt_setCell cellsAt_set_same cellsAt_setRow_same cellsAt_setRow_far subAt_alloc subAt_drew subAt_later subAt_setCell subAt_setRow ltn_2 ltn_3 ltn_4 ltn_5
/-- Decode of a command's own bytes; of one byte more; of fewer. -/
structure BackCalls (c : Cm) (xs : List Int) : Prop where
  p1 : ∀ A c' W, Src W 1 A xs.length (bc xs) → Calls Try.prog 7 #[.slice A xs.length c'] W fun e w' => Ext W w' ∧ e = .returned (.tuple #[.agg #[.int .i64 c.kind, .int .i64 c.sym, .int .i64 c.id, .int .i64 c.own, .int .i64 c.side, .int .i64 c.typ, .int .i64 c.price, .int .i64 c.qty, .int .i64 c.flags], .int .i64 0])
  p2 : ∀ A c' W, Src W 1 A (xs.length + 1) (bc xs ++ [.int .u8 0]) → Calls Try.prog 7 #[.slice A (xs.length + 1) c'] W fun e w' => Ext W w' ∧ ∃ m : Cm, e = .returned (.tuple #[.agg #[.int .i64 m.kind, .int .i64 m.sym, .int .i64 m.id, .int .i64 m.own, .int .i64 m.side, .int .i64 m.typ, .int .i64 m.price, .int .i64 m.qty, .int .i64 m.flags], .int .i64 4])
  p3 : ∀ A c' (k : Nat), k < xs.length → ∀ W, Src W 1 A k (bc (xs.take k)) → Calls Try.prog 7 #[.slice A k c'] W fun e w' => Ext W w' ∧ ∃ m : Cm, e = .returned (.tuple #[.agg #[.int .i64 m.kind, .int .i64 m.sym, .int .i64 m.id, .int .i64 m.own, .int .i64 m.side, .int .i64 m.typ, .int .i64 m.price, .int .i64 m.qty, .int .i64 m.flags], .int .i64 3])
theorem formC_len {c : Cm} (hF : c.Fine) : (formC c).length ≤ 60 := by
  have hi := hF.id
  have n1 := numB_len64 (n := c.id.toNat) (by omega)
  unfold formC
  split
  · rename_i hk
    have ho := own1 hF hk
    have n2 := numB_len64 (n := c.own.toNat) (by omega)
    simp only [List.length_append, intB_len, List.length_cons, List.length_nil]
    omega
  split
  · simp only [List.length_append, List.length_cons, List.length_nil]
    omega
  · simp only [List.length_append, intB_len, List.length_cons, List.length_nil]
    omega
theorem back_calls {c : Cm} (hO : c.Ok) (hF : c.Fine) : BackCalls c (formC c) := by
  have hb := formC_byt hF
  have hl := formC_len hF
  refine ⟨fun A c' W hS => ?_, fun A c' W hS => ?_, fun A c' k hk W hS => ?_⟩
  · obtain ⟨m, f, hI, hD⟩ := dec_all A c' _ hb (by omega)
    obtain ⟨rfl, rfl⟩ := hI.put c hO hF rfl
    exact hD W hS
  · have hb2 : Byt (formC c ++ [0]) := hb.app (by intro x hx; simp at hx; omega)
    have hll : (formC c ++ [0]).length = (formC c).length + 1 := by simp
    obtain ⟨m, f, hI, hD⟩ := dec_all A c' _ hb2 (by omega)
    have hf := hI.more c hO hF rfl
    subst hf
    rw [hll, bc_app] at hD
    refine (hD W hS).mono ?_
    rintro e w' ⟨hx, he⟩
    exact ⟨hx, m, he⟩
  · have hb2 : Byt ((formC c).take k) := fun x hx => hb x (List.mem_of_mem_take hx)
    have hll : ((formC c).take k).length = k := by rw [List.length_take]; omega
    obtain ⟨m, f, hI, hD⟩ := dec_all A c' _ hb2 (by omega)
    have hf := hI.less c k hO hF hk rfl
    subst hf
    rw [hll] at hD
    refine (hD W hS).mono ?_
    rintro e w' ⟨hx, he⟩
    exact ⟨hx, m, he⟩
set_option maxHeartbeats 8000000 in
set_option maxRecDepth 100000 in
theorem commandback_c (c : Cm) (hO : c.Ok) (B : Option Addr) (cb : Nat) (bs : List Int) (hb : Byt bs) (hc : bs.length ≤ cb) (hm : cb ≤ maxLen) (less : Int) (hle : I64 less) (w : World) (hS : Src w 1 B bs.length (bc bs)) :
    Calls Try.prog 4 #[.agg #[.int .i64 c.kind, .int .i64 c.sym, .int .i64 c.id, .int .i64 c.own, .int .i64 c.side, .int .i64 c.typ, .int .i64 c.price, .int .i64 c.qty, .int .i64 c.flags], .slice B bs.length cb, .int .i64 less] w fun e w' => e = .returned (.bool true) ∧ Ext w w' := by
  unfold maxLen at hm
  by_cases hl : 200 < bs.length
  · have hli : (200 : Int) < (bs.length : Int) := by omega
    clear hS
    go_enter Try.func4, Try.ntmps4
    go_wp2_with fail
    refine (alive_c5 _).mono ?_
    rintro e w1 ⟨rfl, hx1⟩
    go_wp2_with fail
    first | refine fin_ret rfl (fun K hK => ?_) | refine fin_norm rfl (fun K hK => ?_)
    simp [results, Try.results4, go_sem, rsat]
    try go_simp
    refine hK _ ?_
    clear hK K
    exact ⟨rfl, Ext.trans (by repeat (first | (with_reducible exact Ext.refl _) | (with_reducible assumption) | (with_reducible refine Ext.alloc ?_ _) | (with_reducible refine Ext.drew ?_) | (with_reducible refine Ext.drewN ?_ _) | (with_reducible refine Ext.setCell ?_ (by simp; try omega) _) | (with_reducible refine Ext.setRow ?_ (by simp; try omega) _))) hx1⟩
  have hli : ¬ (200 : Int) < (bs.length : Int) := by omega
  have C1 := cenc_c c hO
  have C2 := cright_c c
  unfold EncC encCL encCF at C1
  obtain ⟨m, f, hI, hD0⟩ := dec_all B cb bs hb (by omega)
  have hD : ∀ W, Ext w W → Calls Try.prog 7 #[.slice B bs.length cb] W fun e w' => Ext W w' ∧ e = .returned (.tuple #[.agg #[.int .i64 m.kind, .int .i64 m.sym, .int .i64 m.id, .int .i64 m.own, .int .i64 m.side, .int .i64 m.typ, .int .i64 m.price, .int .i64 m.qty, .int .i64 m.flags], .int .i64 f]) := fun W hx => hD0 W (hS.ext hx)
  have hfm : (f = 0 ∧ RowKit.Hid (∀ W, Calls Try.prog 9 #[.agg #[.int .i64 m.kind, .int .i64 m.sym, .int .i64 m.id, .int .i64 m.own, .int .i64 m.side, .int .i64 m.typ, .int .i64 m.price, .int .i64 m.qty, .int .i64 m.flags]] W fun e w' => Ext W w' ∧ ∃ v, e = .returned (.tuple #[v, .int .i64 0]) ∧ Own W w' v bs)) ∨ (f ≠ 0 ∧ m = zeroC) := by
    by_cases hf : f = 0
    · obtain ⟨mO, mF, mB⟩ := hI.ok hf
      refine .inl ⟨hf, Lib.hid ?_⟩
      have C := cenc_c m mO
      unfold EncC encCL encCF at C
      rw [(cright_iff m).2 mF, if_pos rfl, if_pos rfl, mB] at C
      exact C
    · exact .inr ⟨hf, hI.bad hf⟩
  have HD := Lib.hid hD
  clear hI hD0 hD
  cases hr : rightC c with
  | false =>
    rw [hr] at C1 C2
    simp only [Bool.false_eq_true, if_false] at C1
    have HC1 := Lib.hid C1
    have HC2 := Lib.hid C2
    clear C1 C2 hr
    go_enter Try.func4, Try.ntmps4
    go_wp2_with fail
    refine (HC1.out _).mono ?_
    rintro e w1 ⟨hxw1, v, rfl, o1⟩
    have M_w1 := At.ext (g := w.heap.size) (t := 25) (cs := #[.int .i64 c.kind, .int .i64 c.sym, .int .i64 c.id, .int .i64 c.own, .int .i64 c.side, .int .i64 c.typ, .int .i64 c.price, .int .i64 c.qty, .int .i64 c.flags]) (by repeat (first | (with_reducible exact At.new _ _ _) | ((with_reducible refine At.new' _ _ _ _ ?_); simp; done) | (with_reducible assumption) | (with_reducible refine At.drew ?_) | (with_reducible refine At.alloc ?_ _) | (with_reducible apply At.upd) | (with_reducible apply At.setRow) | (with_reducible refine At.rowFar ?_ (by first | (simp; done) | (simp; omega) | omega) _) | ((with_reducible refine At.far ?_ (by first | (simp; done) | (simp; omega) | omega) _)) | (with_reducible rfl) | (simp; done))) hxw1
    have xw1 : Ext w w1 := Ext.trans (by repeat (first | (with_reducible exact Ext.refl _) | (with_reducible assumption) | (with_reducible refine Ext.alloc ?_ _) | (with_reducible refine Ext.drew ?_) | (with_reducible refine Ext.drewN ?_ _) | (with_reducible refine Ext.setCell ?_ (by simp; try omega) _) | (with_reducible refine Ext.setRow ?_ (by simp; try omega) _))) hxw1
    clear hxw1
    have s_M_w1 := M_w1.lt
    have e_M_w1 := cellsAt_at M_w1
    go_wp2_with fail
    go_wp2_with fail
    refine (HC2.out _).mono ?_
    rintro e w2 ⟨rfl, hxw2⟩
    have xw2 : Ext w w2 := Ext.trans (by repeat (first | (with_reducible exact Ext.refl _) | (with_reducible assumption) | (with_reducible refine Ext.alloc ?_ _) | (with_reducible refine Ext.drew ?_) | (with_reducible refine Ext.drewN ?_ _) | (with_reducible refine Ext.setCell ?_ (by simp; try omega) _) | (with_reducible refine Ext.setRow ?_ (by simp; try omega) _))) hxw2
    have lw2 := xw2.size
    go_wp2_with fail
    rcases hfm with ⟨hf0, HE⟩ | ⟨hf0, hm0⟩
    · subst hf0
      refine (HD.out _ (by repeat (first | (with_reducible exact Ext.refl _) | (with_reducible assumption) | (with_reducible refine Ext.alloc ?_ _) | (with_reducible refine Ext.drew ?_) | (with_reducible refine Ext.drewN ?_ _) | (with_reducible refine Ext.setCell ?_ (by simp; try omega) _) | (with_reducible refine Ext.setRow ?_ (by simp; try omega) _)))).mono ?_
      rintro e w3 ⟨hxw3, rfl⟩
      have x3 : Ext w w3 := Ext.trans (by repeat (first | (with_reducible exact Ext.refl _) | (with_reducible assumption) | (with_reducible refine Ext.alloc ?_ _) | (with_reducible refine Ext.drew ?_) | (with_reducible refine Ext.drewN ?_ _) | (with_reducible refine Ext.setCell ?_ (by simp; try omega) _) | (with_reducible refine Ext.setRow ?_ (by simp; try omega) _))) hxw3
      go_wp2_with fail
      refine (HE.out _).mono ?_
      rintro e w4 ⟨hxw4, v4, rfl, o4⟩
      have x4 : Ext w w4 := Ext.trans (by repeat (first | (with_reducible exact Ext.refl _) | (with_reducible assumption) | (with_reducible refine Ext.alloc ?_ _) | (with_reducible refine Ext.drew ?_) | (with_reducible refine Ext.drewN ?_ _) | (with_reducible refine Ext.setCell ?_ (by simp; try omega) _) | (with_reducible refine Ext.setRow ?_ (by simp; try omega) _))) hxw4
      obtain ⟨A4, c4, rfl, R4, F4⟩ := o4
      have CS := same_c A4 B _ _ c4 cb bs bs w4 R4.src (hS.ext x4) hb hb
      rw [decide_eq_true rfl] at CS
      go_wp2_with fail
      refine CS.mono ?_
      rintro e w5 ⟨rfl, hxw5⟩
      go_wp2_with fail
      refine (alive_c5 _).mono ?_
      rintro e w6 ⟨rfl, hxw6⟩
      go_wp2_with fail
      first | refine fin_ret rfl (fun K hK => ?_) | refine fin_norm rfl (fun K hK => ?_)
      simp [results, Try.results4, go_sem, rsat]
      try go_simp
      refine hK _ ?_
      clear hK K
      exact ⟨rfl, (x4.trans hxw5).trans hxw6⟩
    · have hfb : (f != 0) = true := bne_iff_ne.2 hf0
      rw [hm0] at HD
      simp only [zeroC] at HD
      clear hf0 hm0
      refine (HD.out _ (by repeat (first | (with_reducible exact Ext.refl _) | (with_reducible assumption) | (with_reducible refine Ext.alloc ?_ _) | (with_reducible refine Ext.drew ?_) | (with_reducible refine Ext.drewN ?_ _) | (with_reducible refine Ext.setCell ?_ (by simp; try omega) _) | (with_reducible refine Ext.setRow ?_ (by simp; try omega) _)))).mono ?_
      rintro e w3 ⟨hxw3, rfl⟩
      have x3 : Ext w w3 := Ext.trans (by repeat (first | (with_reducible exact Ext.refl _) | (with_reducible assumption) | (with_reducible refine Ext.alloc ?_ _) | (with_reducible refine Ext.drew ?_) | (with_reducible refine Ext.drewN ?_ _) | (with_reducible refine Ext.setCell ?_ (by simp; try omega) _) | (with_reducible refine Ext.setRow ?_ (by simp; try omega) _))) hxw3
      go_wp2_with fail
      refine (alive_c5 _).mono ?_
      rintro e w4 ⟨rfl, hxw4⟩
      go_wp2_with fail
      first | refine fin_ret rfl (fun K hK => ?_) | refine fin_norm rfl (fun K hK => ?_)
      simp [results, Try.results4, go_sem, rsat]
      try go_simp
      refine hK _ ?_
      clear hK K
      exact ⟨rfl, Ext.trans (by repeat (first | (with_reducible exact Ext.refl _) | (with_reducible assumption) | (with_reducible refine Ext.alloc ?_ _) | (with_reducible refine Ext.drew ?_) | (with_reducible refine Ext.drewN ?_ _) | (with_reducible refine Ext.setCell ?_ (by simp; try omega) _) | (with_reducible refine Ext.setRow ?_ (by simp; try omega) _))) hxw4⟩
  | true =>
    have hF := (cright_iff c).1 hr
    rw [hr] at C1 C2
    simp only [if_true] at C1
    have HC1 := Lib.hid C1
    have HC2 := Lib.hid C2
    clear C1 C2 hr
    have hBC := back_calls hO hF
    have hxl := formC_len hF
    have hxb := formC_byt hF
    generalize formC c = xs at hBC hxl hxb HC1
    have HBC := Lib.hid hBC
    have HXB := Lib.hid hxb
    clear hBC hxb hF
    go_enter Try.func4, Try.ntmps4
    go_wp2_with fail
    refine (HC1.out _).mono ?_
    rintro e w1 ⟨hxw1, v, rfl, A1, c1, rfl, R1, F1⟩
    clear F1
    have M_w1 := At.ext (g := w.heap.size) (t := 25) (cs := #[.int .i64 c.kind, .int .i64 c.sym, .int .i64 c.id, .int .i64 c.own, .int .i64 c.side, .int .i64 c.typ, .int .i64 c.price, .int .i64 c.qty, .int .i64 c.flags]) (by repeat (first | (with_reducible exact At.new _ _ _) | ((with_reducible refine At.new' _ _ _ _ ?_); simp; done) | (with_reducible assumption) | (with_reducible refine At.drew ?_) | (with_reducible refine At.alloc ?_ _) | (with_reducible apply At.upd) | (with_reducible apply At.setRow) | (with_reducible refine At.rowFar ?_ (by first | (simp; done) | (simp; omega) | omega) _) | ((with_reducible refine At.far ?_ (by first | (simp; done) | (simp; omega) | omega) _)) | (with_reducible rfl) | (simp; done))) hxw1
    have xw1 : Ext w w1 := Ext.trans (by repeat (first | (with_reducible exact Ext.refl _) | (with_reducible assumption) | (with_reducible refine Ext.alloc ?_ _) | (with_reducible refine Ext.drew ?_) | (with_reducible refine Ext.drewN ?_ _) | (with_reducible refine Ext.setCell ?_ (by simp; try omega) _) | (with_reducible refine Ext.setRow ?_ (by simp; try omega) _))) hxw1
    clear hxw1
    have s_M_w1 := M_w1.lt
    have e_M_w1 := cellsAt_at M_w1
    go_wp2_with fail
    refine (HC2.out _).mono ?_
    rintro e w2 ⟨rfl, hxw2⟩
    have R1 := R1.ext hxw2
    have M_w2 := At.ext (g := w.heap.size) (t := 25) (cs := #[.int .i64 c.kind, .int .i64 c.sym, .int .i64 c.id, .int .i64 c.own, .int .i64 c.side, .int .i64 c.typ, .int .i64 c.price, .int .i64 c.qty, .int .i64 c.flags]) (by repeat (first | (with_reducible exact At.new _ _ _) | ((with_reducible refine At.new' _ _ _ _ ?_); simp; done) | (with_reducible assumption) | (with_reducible refine At.drew ?_) | (with_reducible refine At.alloc ?_ _) | (with_reducible apply At.upd) | (with_reducible apply At.setRow) | (with_reducible refine At.rowFar ?_ (by first | (simp; done) | (simp; omega) | omega) _) | ((with_reducible refine At.far ?_ (by first | (simp; done) | (simp; omega) | omega) _)) | (with_reducible rfl) | (simp; done))) hxw2
    have xw2 : Ext w w2 := Ext.trans (by repeat (first | (with_reducible exact Ext.refl _) | (with_reducible assumption) | (with_reducible refine Ext.alloc ?_ _) | (with_reducible refine Ext.drew ?_) | (with_reducible refine Ext.drewN ?_ _) | (with_reducible refine Ext.setCell ?_ (by simp; try omega) _) | (with_reducible refine Ext.setRow ?_ (by simp; try omega) _))) hxw2
    clear M_w1 s_M_w1 e_M_w1 hxw2 xw1
    have s_M_w2 := M_w2.lt
    have e_M_w2 := cellsAt_at M_w2
    go_wp2_with fail
    refine (HBC.out.p1 A1 c1 w2 R1.src).mono ?_
    rintro e w3 ⟨hxw3, rfl⟩
    have R1 := R1.ext hxw3
    have M_w3 := At.ext (g := w.heap.size) (t := 25) (cs := #[.int .i64 c.kind, .int .i64 c.sym, .int .i64 c.id, .int .i64 c.own, .int .i64 c.side, .int .i64 c.typ, .int .i64 c.price, .int .i64 c.qty, .int .i64 c.flags]) (by repeat (first | (with_reducible exact At.new _ _ _) | ((with_reducible refine At.new' _ _ _ _ ?_); simp; done) | (with_reducible assumption) | (with_reducible refine At.drew ?_) | (with_reducible refine At.alloc ?_ _) | (with_reducible apply At.upd) | (with_reducible apply At.setRow) | (with_reducible refine At.rowFar ?_ (by first | (simp; done) | (simp; omega) | omega) _) | ((with_reducible refine At.far ?_ (by first | (simp; done) | (simp; omega) | omega) _)) | (with_reducible rfl) | (simp; done))) hxw3
    have xw3 : Ext w w3 := Ext.trans (by repeat (first | (with_reducible exact Ext.refl _) | (with_reducible assumption) | (with_reducible refine Ext.alloc ?_ _) | (with_reducible refine Ext.drew ?_) | (with_reducible refine Ext.drewN ?_ _) | (with_reducible refine Ext.setCell ?_ (by simp; try omega) _) | (with_reducible refine Ext.setRow ?_ (by simp; try omega) _))) hxw3
    clear M_w2 s_M_w2 e_M_w2 hxw3 xw2
    have s_M_w3 := M_w3.lt
    have e_M_w3 := cellsAt_at M_w3
    go_wp2_with (at_builtin; refine wpList_rowcat rfl _ _ 22 5 1 1 (.int .u8 0) rfl Try.underlying22 u8Info rfl (by decide) _ _ 0 0 [] rfl (Row.nil _ _ _ _) _ _ _ (bc xs) rfl (R1.src.ext (by exact (by repeat (first | (with_reducible exact Ext.refl _) | (with_reducible assumption) | (with_reducible refine Ext.alloc ?_ _) | (with_reducible refine Ext.drew ?_) | (with_reducible refine Ext.drewN ?_ _) | (with_reducible refine Ext.setCell ?_ (by simp; try omega) _) | (with_reducible refine Ext.setRow ?_ (by simp; try omega) _))))) (bc_one xs) (by unfold maxLen; omega) (by omega) ?_)
    intro A4 c4 w4 hR4 hC4 hf4
    have hR4 : Row w4 5 1 A4 xs.length c4 (bc xs) := by simpa using hR4
    have x4 : Ext w3 w4 := (Chg.step (Chg.of_ext (by exact (by repeat (first | (with_reducible exact Ext.refl _) | (with_reducible assumption) | (with_reducible refine Ext.alloc ?_ _) | (with_reducible refine Ext.drew ?_) | (with_reducible refine Ext.drewN ?_ _) | (with_reducible refine Ext.setCell ?_ (by simp; try omega) _) | (with_reducible refine Ext.setRow ?_ (by simp; try omega) _)))) []) hC4 (fun i hi => by simp [ablk] at hi; right; omega)).ext (by simp)
    have d4 : At w4 w3.heap.size 25 #[.int .i64 c.kind, .int .i64 c.sym, .int .i64 c.id, .int .i64 c.own, .int .i64 c.side, .int .i64 c.typ, .int .i64 c.price, .int .i64 c.qty, .int .i64 c.flags] := hC4.at (by repeat (first | (with_reducible exact At.new _ _ _) | ((with_reducible refine At.new' _ _ _ _ ?_); simp; done) | (with_reducible assumption) | (with_reducible refine At.drew ?_) | (with_reducible refine At.alloc ?_ _) | (with_reducible apply At.upd) | (with_reducible apply At.setRow) | (with_reducible refine At.rowFar ?_ (by first | (simp; done) | (simp; omega) | omega) _) | ((with_reducible refine At.far ?_ (by first | (simp; done) | (simp; omega) | omega) _)) | (with_reducible rfl) | (simp; done))) (by simp [ablk])
    have sd4 := d4.lt
    have nA4 : w3.heap.size ∉ ablk A4 := fun h => by
      rcases hf4 _ h with h1 | h1
      · simp [ablk] at h1
      · first | omega | (simp at h1; omega)
    have kA4 : ∀ k ∈ ablk A4, w3.heap.size ≤ k := fun k hk => by
      rcases hf4 k hk with h1 | h1
      · simp [ablk] at h1; omega
      · first | omega | (simp at h1; omega)
    go_wp2_with (at_builtin; refine wpList_rowapp rfl _ _ 22 5 1 1 (.int .u8 0) rfl Try.underlying22 u8Info rfl (by decide) _ A4 xs.length c4 (bc xs) rfl hR4 [.int .u8 0] rfl rfl rfl (by unfold maxLen; omega) (by omega) ?_)
    intro A5 c5 w5 hR5 hC5 hf5
    have x5 : Ext w3 w5 := (Chg.step (Chg.of_ext (x4.alloc _) []) hC5 (fun i hi => .inr (kA4 i hi))).ext (by simp)
    have d5 : At w5 w3.heap.size 25 #[.int .i64 c.kind, .int .i64 c.sym, .int .i64 c.id, .int .i64 c.own, .int .i64 c.side, .int .i64 c.typ, .int .i64 c.price, .int .i64 c.qty, .int .i64 c.flags] := hC5.at (d4.alloc _) nA4
    have R5 := R1.ext x5
    have M5 := At.ext (by repeat (first | (with_reducible exact At.new _ _ _) | ((with_reducible refine At.new' _ _ _ _ ?_); simp; done) | (with_reducible assumption) | (with_reducible refine At.drew ?_) | (with_reducible refine At.alloc ?_ _) | (with_reducible apply At.upd) | (with_reducible apply At.setRow) | (with_reducible refine At.rowFar ?_ (by first | (simp; done) | (simp; omega) | omega) _) | ((with_reducible refine At.far ?_ (by first | (simp; done) | (simp; omega) | omega) _)) | (with_reducible rfl) | (simp; done))) x5 (g := w.heap.size) (t := 25) (cs := #[.int .i64 c.kind, .int .i64 c.sym, .int .i64 c.id, .int .i64 c.own, .int .i64 c.side, .int .i64 c.typ, .int .i64 c.price, .int .i64 c.qty, .int .i64 c.flags])
    have y5 : Ext w w5 := Ext.trans (by repeat (first | (with_reducible exact Ext.refl _) | (with_reducible assumption) | (with_reducible refine Ext.alloc ?_ _) | (with_reducible refine Ext.drew ?_) | (with_reducible refine Ext.drewN ?_ _) | (with_reducible refine Ext.setCell ?_ (by simp; try omega) _) | (with_reducible refine Ext.setRow ?_ (by simp; try omega) _))) x5
    clear hC4 hf4 hC5 hf5 kA4 nA4 d4 x4 sd4 hR4
    go_wp2_with fail
    refine (HBC.out.p2 A5 c5 w5 hR5.src).mono ?_
    rintro e w6 ⟨hxw6, m6, rfl⟩
    have d6 := d5.ext hxw6
    have R6 := R5.ext hxw6
    have M6 := M5.ext hxw6
    have y6 : Ext w w6 := y5.trans hxw6
    clear d5 R5 M5 y5 hR5 hxw6
    have ed6 := cellsAt_at d6
    have sd6 := d6.lt
    have em6 := cellsAt_at M6
    have sm6 := M6.lt
    have nmd : w.heap.size ≠ w3.heap.size := by omega
    have ndm : w3.heap.size ≠ w.heap.size := by omega
    by_cases hq1 : 0 < less
    · by_cases hq2 : less ≤ (xs.length : Int)
      · have hk : ((xs.length : Int) - less).toNat < xs.length := by omega
        have C7 := fun W hW => HBC.out.p3 A1 c1 ((xs.length : Int) - less).toNat hk W hW
        have T6 : Src w6 1 A1 ((xs.length : Int) - less).toNat (bc (xs.take ((xs.length : Int) - less).toNat)) := by
          have := (R6.takeN (k := ((xs.length : Int) - less).toNat) (by omega)).src
          rw [Nat.mul_one] at this
          have e : (bc xs).take ((xs.length : Int) - less).toNat = bc (xs.take ((xs.length : Int) - less).toNat) := List.map_take.symm
          rwa [e] at this
        have HC7 := Lib.hid C7
        have hle1 := R6.le
        have hmx1 := R6.max
        unfold maxLen at hmx1
        clear C7
        go_wp2_with fail
        all_goals first | (exfalso; omega) | skip
        refine (HC7.out _ (T6.ext (by exact (by repeat (first | (with_reducible exact Ext.refl _) | (with_reducible assumption) | (with_reducible refine Ext.alloc ?_ _) | (with_reducible refine Ext.drew ?_) | (with_reducible refine Ext.drewN ?_ _) | (with_reducible refine Ext.setCell ?_ (by simp; try omega) _) | (with_reducible refine Ext.setRow ?_ (by simp; try omega) _)))))).mono ?_
        rintro e w7 ⟨hxw7, m7, rfl⟩
        have y7 : Ext w w7 := Ext.trans (by repeat (first | (with_reducible exact Ext.refl _) | (with_reducible assumption) | (with_reducible refine Ext.alloc ?_ _) | (with_reducible refine Ext.drew ?_) | (with_reducible refine Ext.drewN ?_ _) | (with_reducible refine Ext.setCell ?_ (by simp; try omega) _) | (with_reducible refine Ext.setRow ?_ (by simp; try omega) _))) hxw7
        go_wp2_with fail

        rcases hfm with ⟨hf0, HE⟩ | ⟨hf0, hm0⟩
        · subst hf0
          refine (HD.out _ (by repeat (first | (with_reducible exact Ext.refl _) | (with_reducible assumption) | (with_reducible refine Ext.alloc ?_ _) | (with_reducible refine Ext.drew ?_) | (with_reducible refine Ext.drewN ?_ _) | (with_reducible refine Ext.setCell ?_ (by simp; try omega) _) | (with_reducible refine Ext.setRow ?_ (by simp; try omega) _)))).mono ?_
          rintro e w8 ⟨hxw8, rfl⟩
          have x8 : Ext w w8 := Ext.trans (by repeat (first | (with_reducible exact Ext.refl _) | (with_reducible assumption) | (with_reducible refine Ext.alloc ?_ _) | (with_reducible refine Ext.drew ?_) | (with_reducible refine Ext.drewN ?_ _) | (with_reducible refine Ext.setCell ?_ (by simp; try omega) _) | (with_reducible refine Ext.setRow ?_ (by simp; try omega) _))) hxw8
          go_wp2_with fail
          refine (HE.out _).mono ?_
          rintro e w9 ⟨hxw9, v9, rfl, o9⟩
          have x9 : Ext w w9 := Ext.trans (by repeat (first | (with_reducible exact Ext.refl _) | (with_reducible assumption) | (with_reducible refine Ext.alloc ?_ _) | (with_reducible refine Ext.drew ?_) | (with_reducible refine Ext.drewN ?_ _) | (with_reducible refine Ext.setCell ?_ (by simp; try omega) _) | (with_reducible refine Ext.setRow ?_ (by simp; try omega) _))) hxw9
          obtain ⟨A9, c9, rfl, R9, F9⟩ := o9
          have CS := same_c A9 B _ _ c9 cb bs bs w9 R9.src (hS.ext x9) hb hb
          rw [decide_eq_true rfl] at CS
          go_wp2_with fail
          refine CS.mono ?_
          rintro e w10 ⟨rfl, hxw10⟩
          go_wp2_with fail
          refine (alive_c5 _).mono ?_
          rintro e w11 ⟨rfl, hxw11⟩
          go_wp2_with fail
          first | refine fin_ret rfl (fun K hK => ?_) | refine fin_norm rfl (fun K hK => ?_)
          simp [results, Try.results4, go_sem, rsat]
          try go_simp
          refine hK _ ?_
          clear hK K
          exact ⟨rfl, (x9.trans hxw10).trans hxw11⟩
        · have hfb : (f != 0) = true := bne_iff_ne.2 hf0
          rw [hm0] at HD
          simp only [zeroC] at HD
          clear hf0 hm0
          refine (HD.out _ (by repeat (first | (with_reducible exact Ext.refl _) | (with_reducible assumption) | (with_reducible refine Ext.alloc ?_ _) | (with_reducible refine Ext.drew ?_) | (with_reducible refine Ext.drewN ?_ _) | (with_reducible refine Ext.setCell ?_ (by simp; try omega) _) | (with_reducible refine Ext.setRow ?_ (by simp; try omega) _)))).mono ?_
          rintro e w8 ⟨hxw8, rfl⟩
          have x8 : Ext w w8 := Ext.trans (by repeat (first | (with_reducible exact Ext.refl _) | (with_reducible assumption) | (with_reducible refine Ext.alloc ?_ _) | (with_reducible refine Ext.drew ?_) | (with_reducible refine Ext.drewN ?_ _) | (with_reducible refine Ext.setCell ?_ (by simp; try omega) _) | (with_reducible refine Ext.setRow ?_ (by simp; try omega) _))) hxw8
          go_wp2_with fail
          refine (alive_c5 _).mono ?_
          rintro e w9 ⟨rfl, hxw9⟩
          go_wp2_with fail
          first | refine fin_ret rfl (fun K hK => ?_) | refine fin_norm rfl (fun K hK => ?_)
          simp [results, Try.results4, go_sem, rsat]
          try go_simp
          refine hK _ ?_
          clear hK K
          exact ⟨rfl, Ext.trans (by repeat (first | (with_reducible exact Ext.refl _) | (with_reducible assumption) | (with_reducible refine Ext.alloc ?_ _) | (with_reducible refine Ext.drew ?_) | (with_reducible refine Ext.drewN ?_ _) | (with_reducible refine Ext.setCell ?_ (by simp; try omega) _) | (with_reducible refine Ext.setRow ?_ (by simp; try omega) _))) hxw9⟩
      · go_wp2_with fail
        rcases hfm with ⟨hf0, HE⟩ | ⟨hf0, hm0⟩
        · subst hf0
          refine (HD.out _ (by repeat (first | (with_reducible exact Ext.refl _) | (with_reducible assumption) | (with_reducible refine Ext.alloc ?_ _) | (with_reducible refine Ext.drew ?_) | (with_reducible refine Ext.drewN ?_ _) | (with_reducible refine Ext.setCell ?_ (by simp; try omega) _) | (with_reducible refine Ext.setRow ?_ (by simp; try omega) _)))).mono ?_
          rintro e w7 ⟨hxw7, rfl⟩
          have x7 : Ext w w7 := Ext.trans (by repeat (first | (with_reducible exact Ext.refl _) | (with_reducible assumption) | (with_reducible refine Ext.alloc ?_ _) | (with_reducible refine Ext.drew ?_) | (with_reducible refine Ext.drewN ?_ _) | (with_reducible refine Ext.setCell ?_ (by simp; try omega) _) | (with_reducible refine Ext.setRow ?_ (by simp; try omega) _))) hxw7
          go_wp2_with fail
          refine (HE.out _).mono ?_
          rintro e w8 ⟨hxw8, v8, rfl, o8⟩
          have x8 : Ext w w8 := Ext.trans (by repeat (first | (with_reducible exact Ext.refl _) | (with_reducible assumption) | (with_reducible refine Ext.alloc ?_ _) | (with_reducible refine Ext.drew ?_) | (with_reducible refine Ext.drewN ?_ _) | (with_reducible refine Ext.setCell ?_ (by simp; try omega) _) | (with_reducible refine Ext.setRow ?_ (by simp; try omega) _))) hxw8
          obtain ⟨A8, c8, rfl, R8, F8⟩ := o8
          have CS := same_c A8 B _ _ c8 cb bs bs w8 R8.src (hS.ext x8) hb hb
          rw [decide_eq_true rfl] at CS
          go_wp2_with fail
          refine CS.mono ?_
          rintro e w9 ⟨rfl, hxw9⟩
          go_wp2_with fail
          refine (alive_c5 _).mono ?_
          rintro e w10 ⟨rfl, hxw10⟩
          go_wp2_with fail
          first | refine fin_ret rfl (fun K hK => ?_) | refine fin_norm rfl (fun K hK => ?_)
          simp [results, Try.results4, go_sem, rsat]
          try go_simp
          refine hK _ ?_
          clear hK K
          exact ⟨rfl, (x8.trans hxw9).trans hxw10⟩
        · have hfb : (f != 0) = true := bne_iff_ne.2 hf0
          rw [hm0] at HD
          simp only [zeroC] at HD
          clear hf0 hm0
          refine (HD.out _ (by repeat (first | (with_reducible exact Ext.refl _) | (with_reducible assumption) | (with_reducible refine Ext.alloc ?_ _) | (with_reducible refine Ext.drew ?_) | (with_reducible refine Ext.drewN ?_ _) | (with_reducible refine Ext.setCell ?_ (by simp; try omega) _) | (with_reducible refine Ext.setRow ?_ (by simp; try omega) _)))).mono ?_
          rintro e w7 ⟨hxw7, rfl⟩
          have x7 : Ext w w7 := Ext.trans (by repeat (first | (with_reducible exact Ext.refl _) | (with_reducible assumption) | (with_reducible refine Ext.alloc ?_ _) | (with_reducible refine Ext.drew ?_) | (with_reducible refine Ext.drewN ?_ _) | (with_reducible refine Ext.setCell ?_ (by simp; try omega) _) | (with_reducible refine Ext.setRow ?_ (by simp; try omega) _))) hxw7
          go_wp2_with fail
          refine (alive_c5 _).mono ?_
          rintro e w8 ⟨rfl, hxw8⟩
          go_wp2_with fail
          first | refine fin_ret rfl (fun K hK => ?_) | refine fin_norm rfl (fun K hK => ?_)
          simp [results, Try.results4, go_sem, rsat]
          try go_simp
          refine hK _ ?_
          clear hK K
          exact ⟨rfl, Ext.trans (by repeat (first | (with_reducible exact Ext.refl _) | (with_reducible assumption) | (with_reducible refine Ext.alloc ?_ _) | (with_reducible refine Ext.drew ?_) | (with_reducible refine Ext.drewN ?_ _) | (with_reducible refine Ext.setCell ?_ (by simp; try omega) _) | (with_reducible refine Ext.setRow ?_ (by simp; try omega) _))) hxw8⟩
    · go_wp2_with fail
      rcases hfm with ⟨hf0, HE⟩ | ⟨hf0, hm0⟩
      · subst hf0
        refine (HD.out _ (by repeat (first | (with_reducible exact Ext.refl _) | (with_reducible assumption) | (with_reducible refine Ext.alloc ?_ _) | (with_reducible refine Ext.drew ?_) | (with_reducible refine Ext.drewN ?_ _) | (with_reducible refine Ext.setCell ?_ (by simp; try omega) _) | (with_reducible refine Ext.setRow ?_ (by simp; try omega) _)))).mono ?_
        rintro e w7 ⟨hxw7, rfl⟩
        have x7 : Ext w w7 := Ext.trans (by repeat (first | (with_reducible exact Ext.refl _) | (with_reducible assumption) | (with_reducible refine Ext.alloc ?_ _) | (with_reducible refine Ext.drew ?_) | (with_reducible refine Ext.drewN ?_ _) | (with_reducible refine Ext.setCell ?_ (by simp; try omega) _) | (with_reducible refine Ext.setRow ?_ (by simp; try omega) _))) hxw7
        go_wp2_with fail
        refine (HE.out _).mono ?_
        rintro e w8 ⟨hxw8, v8, rfl, o8⟩
        have x8 : Ext w w8 := Ext.trans (by repeat (first | (with_reducible exact Ext.refl _) | (with_reducible assumption) | (with_reducible refine Ext.alloc ?_ _) | (with_reducible refine Ext.drew ?_) | (with_reducible refine Ext.drewN ?_ _) | (with_reducible refine Ext.setCell ?_ (by simp; try omega) _) | (with_reducible refine Ext.setRow ?_ (by simp; try omega) _))) hxw8
        obtain ⟨A8, c8, rfl, R8, F8⟩ := o8
        have CS := same_c A8 B _ _ c8 cb bs bs w8 R8.src (hS.ext x8) hb hb
        rw [decide_eq_true rfl] at CS
        go_wp2_with fail
        refine CS.mono ?_
        rintro e w9 ⟨rfl, hxw9⟩
        go_wp2_with fail
        refine (alive_c5 _).mono ?_
        rintro e w10 ⟨rfl, hxw10⟩
        go_wp2_with fail
        first | refine fin_ret rfl (fun K hK => ?_) | refine fin_norm rfl (fun K hK => ?_)
        simp [results, Try.results4, go_sem, rsat]
        try go_simp
        refine hK _ ?_
        clear hK K
        exact ⟨rfl, (x8.trans hxw9).trans hxw10⟩
      · have hfb : (f != 0) = true := bne_iff_ne.2 hf0
        rw [hm0] at HD
        simp only [zeroC] at HD
        clear hf0 hm0
        refine (HD.out _ (by repeat (first | (with_reducible exact Ext.refl _) | (with_reducible assumption) | (with_reducible refine Ext.alloc ?_ _) | (with_reducible refine Ext.drew ?_) | (with_reducible refine Ext.drewN ?_ _) | (with_reducible refine Ext.setCell ?_ (by simp; try omega) _) | (with_reducible refine Ext.setRow ?_ (by simp; try omega) _)))).mono ?_
        rintro e w7 ⟨hxw7, rfl⟩
        have x7 : Ext w w7 := Ext.trans (by repeat (first | (with_reducible exact Ext.refl _) | (with_reducible assumption) | (with_reducible refine Ext.alloc ?_ _) | (with_reducible refine Ext.drew ?_) | (with_reducible refine Ext.drewN ?_ _) | (with_reducible refine Ext.setCell ?_ (by simp; try omega) _) | (with_reducible refine Ext.setRow ?_ (by simp; try omega) _))) hxw7
        go_wp2_with fail
        refine (alive_c5 _).mono ?_
        rintro e w8 ⟨rfl, hxw8⟩
        go_wp2_with fail
        first | refine fin_ret rfl (fun K hK => ?_) | refine fin_norm rfl (fun K hK => ?_)
        simp [results, Try.results4, go_sem, rsat]
        try go_simp
        refine hK _ ?_
        clear hK K
        exact ⟨rfl, Ext.trans (by repeat (first | (with_reducible exact Ext.refl _) | (with_reducible assumption) | (with_reducible refine Ext.alloc ?_ _) | (with_reducible refine Ext.drew ?_) | (with_reducible refine Ext.drewN ?_ _) | (with_reducible refine Ext.setCell ?_ (by simp; try omega) _) | (with_reducible refine Ext.setRow ?_ (by simp; try omega) _))) hxw8⟩
end Go.Proofs.Ytodeplfndebbgaa
