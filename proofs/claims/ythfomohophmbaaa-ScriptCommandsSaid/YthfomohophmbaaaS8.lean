/- Law ScriptCommands. No condition. -/
import Derived.Test.YthfomohophmbaaaS7
import Derived.Test.YthfomohophmbaaaK3
namespace Go.Proofs.Ythfomohophmbaaa
open Go.RowKit
attribute [local go_sem] Later.cell QUpon_value QUpon_enter MUpon_value run_eql_slice_nil Same.cell
attribute [local go_sem ↓ high] loadStp_is storeStp_is loadCmd_is storeCmd_is
attribute [local go_sem] run_loadStp run_loadStp_at run_storeStp run_loadCmd run_loadCmd_at run_storeCmd one_int one_bool one_slice one_ptr one_str setRow_new setRow_past cell_ca frozen_ca cellsAt_alloc_at cellsAt_alloc_past cellsAt_drew cellsAt_later cellsAt_setCell cellsAt_set_same cellsAt_setRow_same cellsAt_setRow_far subAt_alloc subAt_drew subAt_later subAt_setCell subAt_setRow ltn_2 ltn_3 ltn_4 ltn_5
def ofK (c : Cm) : Int := if rightC c then 1 else 0
theorem encCL_byt9 (c : Cm) : Byt (encCL c) := by
  unfold encCL
  by_cases h : rightC c = true
  · rw [if_pos h]; exact formC_byt ((cright_iff c).1 h)
  · rw [if_neg h]; intro x hx; cases hx
def OfC (c : Cm) (w : World) (e : Ending) (w' : World) : Prop := Ext w w' ∧ ∃ v, e = .returned (.tuple #[.agg #[.int .i64 (ofK c), .int .i64 0, .int .i64 0, v], .int .i64 (encCF c)]) ∧ Own w w' v (encCL c)
set_option maxHeartbeats 4000000 in
set_option maxRecDepth 100000 in
theorem of29_c (c : Cm) (hO : c.Ok) (w : World) : Calls Try.prog 18 #[.agg #[.int .i64 c.kind, .int .i64 c.sym, .int .i64 c.id, .int .i64 c.own, .int .i64 c.side, .int .i64 c.typ, .int .i64 c.price, .int .i64 c.qty, .int .i64 c.flags]] w fun e w' => OfC c w e w' := by
  have C := cenc_c c hO
  unfold EncC at C
  unfold OfC
  have hcase : (ofK c = 1 ∧ encCF c = 0) ∨ (ofK c = 0 ∧ encCF c = 1 ∧ encCL c = []) := by
    unfold ofK encCF encCL
    by_cases h : rightC c = true
    · rw [if_pos h, if_pos h]; exact .inl ⟨rfl, rfl⟩
    · rw [if_neg h, if_neg h, if_neg h]; exact .inr ⟨rfl, rfl, rfl⟩
  generalize encCL c = L at C hcase ⊢
  rcases hcase with ⟨e1, e2⟩ | ⟨e1, e2, e3⟩
  · rw [e1, e2]
    rw [e2] at C
    have HC := Lib.hid C
    clear C e1 e2
    go_enter Try.func18, Try.ntmps18
    go_wp2_with fail
    refine (HC.out _).mono ?_
    rintro e w1 ⟨hx1, v, rfl, A, c1, rfl, R, F⟩
    have x1 : Ext w w1 := Ext.trans (by repeat (first | (with_reducible exact Ext.refl _) | (with_reducible assumption) | (with_reducible refine Ext.alloc ?_ _) | (with_reducible refine Ext.drew ?_) | (with_reducible refine Ext.drewN ?_ _) | (with_reducible refine Ext.setCell ?_ (by simp; try omega) _) | (with_reducible refine Ext.setRow ?_ (by simp; try omega) _))) hx1
    have T1 : At w1 (w.heap.size + 1) 31 #[.int .i64 0, .int .i64 0, .int .i64 0, .slice none 0 0] := At.ext (by repeat (first | (with_reducible exact At.new _ _ _) | ((with_reducible refine At.new' _ _ _ _ ?_); simp; done) | (with_reducible assumption) | (with_reducible refine At.drew ?_) | (with_reducible refine At.alloc ?_ _) | (with_reducible apply At.upd) | (with_reducible apply At.setRow) | (with_reducible refine At.rowFar ?_ (by first | (simp; done) | (simp; omega) | omega) _) | ((with_reducible refine At.far ?_ (by first | (simp; done) | (simp; omega) | omega) _)) | (with_reducible rfl) | (simp; done))) hx1
    have e1 := cellsAt_at T1
    have s1 := T1.lt
    go_wp2_with fail
    obtain ⟨wz, hwz⟩ : ∃ W : World, W = w1.setRow (w.heap.size + 1) #[.int .i64 1, .int .i64 0, .int .i64 0, .slice A L.length c1] := ⟨_, rfl⟩
    have xz : Ext w wz := by rw [hwz]; exact x1.setRow (by omega) _
    have mz : At wz (w.heap.size + 1) 31 #[.int .i64 1, .int .i64 0, .int .i64 0, .slice A L.length c1] := by rw [hwz]; exact T1.setRow _
    have oz : Own w wz (.slice A L.length c1) L := by
      rw [hwz]
      refine ⟨A, c1, rfl, R.setRow (fun h => ?_) _, fun k hk => ?_⟩
      · have := (F _ h).1
        simp only [World.size_alloc] at this
        omega
      · have := F k hk; simp at this ⊢; omega
    rw [← hwz]
    clear hwz e1 s1 T1 R F
    have ez := cellsAt_at mz
    have sz := mz.lt
    first | refine fin_ret rfl (fun K hK => ?_) | refine fin_norm rfl (fun K hK => ?_)
    simp [results, Try.results18, go_sem, rsat]
    try go_simp
    refine hK _ ?_
    clear hK K
    exact ⟨xz, _, rfl, oz⟩
  · rw [e1, e2, e3]
    rw [e2, e3] at C
    have HC := Lib.hid C
    clear C e1 e2 e3
    go_enter Try.func18, Try.ntmps18
    go_wp2_with fail
    refine (HC.out _).mono ?_
    rintro e w1 ⟨hx1, v, rfl, _⟩
    have x1 : Ext w w1 := Ext.trans (by repeat (first | (with_reducible exact Ext.refl _) | (with_reducible assumption) | (with_reducible refine Ext.alloc ?_ _) | (with_reducible refine Ext.drew ?_) | (with_reducible refine Ext.drewN ?_ _) | (with_reducible refine Ext.setCell ?_ (by simp; try omega) _) | (with_reducible refine Ext.setRow ?_ (by simp; try omega) _))) hx1
    have T1 : At w1 (w.heap.size + 1) 31 #[.int .i64 0, .int .i64 0, .int .i64 0, .slice none 0 0] := At.ext (by repeat (first | (with_reducible exact At.new _ _ _) | ((with_reducible refine At.new' _ _ _ _ ?_); simp; done) | (with_reducible assumption) | (with_reducible refine At.drew ?_) | (with_reducible refine At.alloc ?_ _) | (with_reducible apply At.upd) | (with_reducible apply At.setRow) | (with_reducible refine At.rowFar ?_ (by first | (simp; done) | (simp; omega) | omega) _) | ((with_reducible refine At.far ?_ (by first | (simp; done) | (simp; omega) | omega) _)) | (with_reducible rfl) | (simp; done))) hx1
    have e1 := cellsAt_at T1
    have s1 := T1.lt
    go_wp2_with fail
    obtain ⟨wz, hwz⟩ : ∃ W : World, W = w1.setRow (w.heap.size + 1) #[.int .i64 0, .int .i64 0, .int .i64 0, .slice none 0 0] := ⟨_, rfl⟩
    have xz : Ext w wz := by rw [hwz]; exact x1.setRow (by omega) _
    have mz : At wz (w.heap.size + 1) 31 #[.int .i64 0, .int .i64 0, .int .i64 0, .slice none 0 0] := by rw [hwz]; exact T1.setRow _
    rw [← hwz]
    clear hwz e1 s1 T1
    have ez := cellsAt_at mz
    have sz := mz.lt
    first | refine fin_ret rfl (fun K hK => ?_) | refine fin_norm rfl (fun K hK => ?_)
    simp [results, Try.results18, go_sem, rsat]
    try go_simp
    refine hK _ ?_
    clear hK K
    exact ⟨xz, _, rfl, Own.nil _ _⟩
set_option maxHeartbeats 4000000 in
set_option maxRecDepth 100000 in
theorem rof29_c (c : Cm) (hO : c.Ok) (w : World) : Calls Try.prog 19 #[.agg #[.int .i64 c.kind, .int .i64 c.sym, .int .i64 c.id, .int .i64 c.own, .int .i64 c.side, .int .i64 c.typ, .int .i64 c.price, .int .i64 c.qty, .int .i64 c.flags]] w fun e w' => OfC c w e w' := by
  have C := rencC_c c hO
  unfold EncC at C
  unfold OfC
  have hcase : (ofK c = 1 ∧ encCF c = 0) ∨ (ofK c = 0 ∧ encCF c = 1 ∧ encCL c = []) := by
    unfold ofK encCF encCL
    by_cases h : rightC c = true
    · rw [if_pos h, if_pos h]; exact .inl ⟨rfl, rfl⟩
    · rw [if_neg h, if_neg h, if_neg h]; exact .inr ⟨rfl, rfl, rfl⟩
  generalize encCL c = L at C hcase ⊢
  rcases hcase with ⟨e1, e2⟩ | ⟨e1, e2, e3⟩
  · rw [e1, e2]
    rw [e2] at C
    have HC := Lib.hid C
    clear C e1 e2
    go_enter Try.func19, Try.ntmps19
    go_wp2_with fail
    refine (HC.out _).mono ?_
    rintro e w1 ⟨hx1, v, rfl, A, c1, rfl, R, F⟩
    have x1 : Ext w w1 := Ext.trans (by repeat (first | (with_reducible exact Ext.refl _) | (with_reducible assumption) | (with_reducible refine Ext.alloc ?_ _) | (with_reducible refine Ext.drew ?_) | (with_reducible refine Ext.drewN ?_ _) | (with_reducible refine Ext.setCell ?_ (by simp; try omega) _) | (with_reducible refine Ext.setRow ?_ (by simp; try omega) _))) hx1
    have T1 : At w1 (w.heap.size + 1) 31 #[.int .i64 0, .int .i64 0, .int .i64 0, .slice none 0 0] := At.ext (by repeat (first | (with_reducible exact At.new _ _ _) | ((with_reducible refine At.new' _ _ _ _ ?_); simp; done) | (with_reducible assumption) | (with_reducible refine At.drew ?_) | (with_reducible refine At.alloc ?_ _) | (with_reducible apply At.upd) | (with_reducible apply At.setRow) | (with_reducible refine At.rowFar ?_ (by first | (simp; done) | (simp; omega) | omega) _) | ((with_reducible refine At.far ?_ (by first | (simp; done) | (simp; omega) | omega) _)) | (with_reducible rfl) | (simp; done))) hx1
    have e1 := cellsAt_at T1
    have s1 := T1.lt
    go_wp2_with fail
    obtain ⟨wz, hwz⟩ : ∃ W : World, W = w1.setRow (w.heap.size + 1) #[.int .i64 1, .int .i64 0, .int .i64 0, .slice A L.length c1] := ⟨_, rfl⟩
    have xz : Ext w wz := by rw [hwz]; exact x1.setRow (by omega) _
    have mz : At wz (w.heap.size + 1) 31 #[.int .i64 1, .int .i64 0, .int .i64 0, .slice A L.length c1] := by rw [hwz]; exact T1.setRow _
    have oz : Own w wz (.slice A L.length c1) L := by
      rw [hwz]
      refine ⟨A, c1, rfl, R.setRow (fun h => ?_) _, fun k hk => ?_⟩
      · have := (F _ h).1
        simp only [World.size_alloc] at this
        omega
      · have := F k hk; simp at this ⊢; omega
    rw [← hwz]
    clear hwz e1 s1 T1 R F
    have ez := cellsAt_at mz
    have sz := mz.lt
    first | refine fin_ret rfl (fun K hK => ?_) | refine fin_norm rfl (fun K hK => ?_)
    simp [results, Try.results19, go_sem, rsat]
    try go_simp
    refine hK _ ?_
    clear hK K
    exact ⟨xz, _, rfl, oz⟩
  · rw [e1, e2, e3]
    rw [e2, e3] at C
    have HC := Lib.hid C
    clear C e1 e2 e3
    go_enter Try.func19, Try.ntmps19
    go_wp2_with fail
    refine (HC.out _).mono ?_
    rintro e w1 ⟨hx1, v, rfl, _⟩
    have x1 : Ext w w1 := Ext.trans (by repeat (first | (with_reducible exact Ext.refl _) | (with_reducible assumption) | (with_reducible refine Ext.alloc ?_ _) | (with_reducible refine Ext.drew ?_) | (with_reducible refine Ext.drewN ?_ _) | (with_reducible refine Ext.setCell ?_ (by simp; try omega) _) | (with_reducible refine Ext.setRow ?_ (by simp; try omega) _))) hx1
    have T1 : At w1 (w.heap.size + 1) 31 #[.int .i64 0, .int .i64 0, .int .i64 0, .slice none 0 0] := At.ext (by repeat (first | (with_reducible exact At.new _ _ _) | ((with_reducible refine At.new' _ _ _ _ ?_); simp; done) | (with_reducible assumption) | (with_reducible refine At.drew ?_) | (with_reducible refine At.alloc ?_ _) | (with_reducible apply At.upd) | (with_reducible apply At.setRow) | (with_reducible refine At.rowFar ?_ (by first | (simp; done) | (simp; omega) | omega) _) | ((with_reducible refine At.far ?_ (by first | (simp; done) | (simp; omega) | omega) _)) | (with_reducible rfl) | (simp; done))) hx1
    have e1 := cellsAt_at T1
    have s1 := T1.lt
    go_wp2_with fail
    obtain ⟨wz, hwz⟩ : ∃ W : World, W = w1.setRow (w.heap.size + 1) #[.int .i64 0, .int .i64 0, .int .i64 0, .slice none 0 0] := ⟨_, rfl⟩
    have xz : Ext w wz := by rw [hwz]; exact x1.setRow (by omega) _
    have mz : At wz (w.heap.size + 1) 31 #[.int .i64 0, .int .i64 0, .int .i64 0, .slice none 0 0] := by rw [hwz]; exact T1.setRow _
    rw [← hwz]
    clear hwz e1 s1 T1
    have ez := cellsAt_at mz
    have sz := mz.lt
    first | refine fin_ret rfl (fun K hK => ?_) | refine fin_norm rfl (fun K hK => ?_)
    simp [results, Try.results19, go_sem, rsat]
    try go_simp
    refine hK _ ?_
    clear hK K
    exact ⟨xz, _, rfl, Own.nil _ _⟩
theorem same_one (p q : Sp) (h : p.key = q.key) : sameS [p] [q] = true := by
  unfold sameS
  simp [h]
theorem Row.bs {w : World} {A : Option Addr} {c : Nat} {L : List Int} (h : Row w 5 1 A L.length c (bc L)) (hb : Byt L) : (⟨A, c, L⟩ : Bs).At w := ⟨h.le, h.max, h.src, hb⟩
set_option maxHeartbeats 4000000 in
set_option maxRecDepth 100000 in
theorem scriptcommands_c (c : Cm) (hO : c.Ok) (w : World) : Calls Try.prog 4 #[.agg #[.int .i64 c.kind, .int .i64 c.sym, .int .i64 c.id, .int .i64 c.own, .int .i64 c.side, .int .i64 c.typ, .int .i64 c.price, .int .i64 c.qty, .int .i64 c.flags]] w fun e w' => e = .returned (.bool true) ∧ Ext w w' := by
  have C1 := of29_c c hO
  have C2 := rof29_c c hO
  unfold OfC at C1 C2
  have hby := encCL_byt9 c
  have hkk : I64 (ofK c) := by unfold ofK; split <;> decide
  generalize ofK c = k at C1 C2 hkk
  generalize encCF c = f at C1 C2
  generalize encCL c = L at C1 C2 hby
  have hff : (f == f) = true := by simp
  have HC1 := Lib.hid C1
  have HC2 := Lib.hid C2
  have HA := Lib.hid alive_c29
  have HBY := Lib.hid hby
  clear C1 C2 hby
  go_enter Try.func4, Try.ntmps4
  go_wp2_with fail
  refine (HC1.out _).mono ?_
  rintro e w1 ⟨hxw1, v1, rfl, A1, c1, rfl, R1, F1⟩
  have M_w1 := At.ext (g := w.heap.size) (t := 37) (cs := #[.int .i64 c.kind, .int .i64 c.sym, .int .i64 c.id, .int .i64 c.own, .int .i64 c.side, .int .i64 c.typ, .int .i64 c.price, .int .i64 c.qty, .int .i64 c.flags]) (by repeat (first | (with_reducible exact At.new _ _ _) | ((with_reducible refine At.new' _ _ _ _ ?_); simp; done) | (with_reducible assumption) | (with_reducible refine At.drew ?_) | (with_reducible refine At.alloc ?_ _) | (with_reducible apply At.upd) | (with_reducible apply At.setRow) | (with_reducible refine At.rowFar ?_ (by first | (simp; done) | (simp; omega) | omega) _) | ((with_reducible refine At.far ?_ (by first | (simp; done) | (simp; omega) | omega) _)) | (with_reducible rfl) | (simp; done))) hxw1
  have xw1 : Ext w w1 := Ext.trans (by repeat (first | (with_reducible exact Ext.refl _) | (with_reducible assumption) | (with_reducible refine Ext.alloc ?_ _) | (with_reducible refine Ext.drew ?_) | (with_reducible refine Ext.drewN ?_ _) | (with_reducible refine Ext.setCell ?_ (by simp; try omega) _) | (with_reducible refine Ext.setRow ?_ (by simp; try omega) _))) hxw1
  clear hxw1
  have s_M_w1 := M_w1.lt
  have e_M_w1 := cellsAt_at M_w1
  have y1 := xw1
  have R1' := R1.ext ((Ext.refl w1).alloc (.cells #[.int .i64 k, .int .i64 0, .int .i64 0, .slice A1 L.length c1] 31))
  go_wp2_with fail
  refine (HC2.out _).mono ?_
  rintro e w2 ⟨hx2, v2, rfl, A2, c2, rfl, R2, F2⟩
  have S1 : At w2 w1.heap.size 31 #[.int .i64 k, .int .i64 0, .int .i64 0, .slice A1 L.length c1] := At.ext (by repeat (first | (with_reducible exact At.new _ _ _) | ((with_reducible refine At.new' _ _ _ _ ?_); simp; done) | (with_reducible assumption) | (with_reducible refine At.drew ?_) | (with_reducible refine At.alloc ?_ _) | (with_reducible apply At.upd) | (with_reducible apply At.setRow) | (with_reducible refine At.rowFar ?_ (by first | (simp; done) | (simp; omega) | omega) _) | ((with_reducible refine At.far ?_ (by first | (simp; done) | (simp; omega) | omega) _)) | (with_reducible rfl) | (simp; done))) hx2
  have R3 := R1'.ext hx2
  have x2 : Ext w w2 := Ext.trans (by repeat (first | (with_reducible exact Ext.refl _) | (with_reducible assumption) | (with_reducible refine Ext.alloc ?_ _) | (with_reducible refine Ext.drew ?_) | (with_reducible refine Ext.drewN ?_ _) | (with_reducible refine Ext.setCell ?_ (by simp; try omega) _) | (with_reducible refine Ext.setRow ?_ (by simp; try omega) _))) hx2
  have e2 := cellsAt_at S1
  have s2 := S1.lt
  clear R1 R1' F1 F2 e_M_w1
  go_wp2_with fail
  obtain ⟨w3, hw3⟩ : ∃ W : World, W = ((w2.alloc (.cells #[.int .i64 k, .int .i64 0, .int .i64 0, .slice A2 L.length c2] 31)).alloc (.cells #[.int .i64 k, .int .i64 0, .int .i64 0, .slice A1 L.length c1] 31)).alloc (.cells #[.int .i64 k, .int .i64 0, .int .i64 0, .slice A2 L.length c2] 31) := ⟨_, rfl⟩
  have x3 : Ext w2 w3 := by rw [hw3]; exact (by repeat (first | (with_reducible exact Ext.refl _) | (with_reducible assumption) | (with_reducible refine Ext.alloc ?_ _) | (with_reducible refine Ext.drew ?_) | (with_reducible refine Ext.drewN ?_ _) | (with_reducible refine Ext.setCell ?_ (by simp; try omega) _) | (with_reducible refine Ext.setRow ?_ (by simp; try omega) _)))
  have P1 : At w3 (w2.heap.size + 1) 31 #[.int .i64 k, .int .i64 0, .int .i64 0, .slice A1 L.length c1] := by rw [hw3]; exact (by repeat (first | (with_reducible exact At.new _ _ _) | ((with_reducible refine At.new' _ _ _ _ ?_); simp; done) | (with_reducible assumption) | (with_reducible refine At.drew ?_) | (with_reducible refine At.alloc ?_ _) | (with_reducible apply At.upd) | (with_reducible apply At.setRow) | (with_reducible refine At.rowFar ?_ (by first | (simp; done) | (simp; omega) | omega) _) | ((with_reducible refine At.far ?_ (by first | (simp; done) | (simp; omega) | omega) _)) | (with_reducible rfl) | (simp; done)))
  have P2 : At w3 (w2.heap.size + 1 + 1) 31 #[.int .i64 k, .int .i64 0, .int .i64 0, .slice A2 L.length c2] := by rw [hw3]; exact (by repeat (first | (with_reducible exact At.new _ _ _) | ((with_reducible refine At.new' _ _ _ _ ?_); simp; done) | (with_reducible assumption) | (with_reducible refine At.drew ?_) | (with_reducible refine At.alloc ?_ _) | (with_reducible apply At.upd) | (with_reducible apply At.setRow) | (with_reducible refine At.rowFar ?_ (by first | (simp; done) | (simp; omega) | omega) _) | ((with_reducible refine At.far ?_ (by first | (simp; done) | (simp; omega) | omega) _)) | (with_reducible rfl) | (simp; done)))
  rw [← hw3]
  clear hw3
  have B1 := Row.bs (R3.ext x3) HBY.out
  have B2 := Row.bs (R2.ext x3) HBY.out
  have CS := rssame_c ⟨some ⟨w2.heap.size + 1, 0, none⟩, 1, [⟨k, 0, 0, ⟨A1, c1, L⟩⟩]⟩ ⟨some ⟨w2.heap.size + 1 + 1, 0, none⟩, 1, [⟨k, 0, 0, ⟨A2, c2, L⟩⟩]⟩ w3
    ⟨Nat.le_refl _, show (_ : Nat) ≤ maxLen by simp [maxLen], Src.at P1 rfl, fun p hp => by obtain rfl := List.mem_singleton.1 hp; exact ⟨hkk, show I64 0 by decide, show I64 0 by decide, B1⟩⟩
    ⟨Nat.le_refl _, show (_ : Nat) ≤ maxLen by simp [maxLen], Src.at P2 rfl, fun p hp => by obtain rfl := List.mem_singleton.1 hp; exact ⟨hkk, show I64 0 by decide, show I64 0 by decide, B2⟩⟩
  simp only [same_one _ _ (show Sp.key ⟨k, 0, 0, ⟨A1, c1, L⟩⟩ = Sp.key ⟨k, 0, 0, ⟨A2, c2, L⟩⟩ from rfl)] at CS
  refine CS.mono ?_
  rintro e w4 ⟨rfl, hx4⟩
  go_wp2_with fail
  refine (HA.out _).mono ?_
  rintro e w5 ⟨rfl, hx5⟩
  go_wp2_with fail
  first | refine fin_ret rfl (fun K hK => ?_) | refine fin_norm rfl (fun K hK => ?_)
  simp [results, Try.results4, go_sem, rsat]
  try go_simp
  refine hK _ ?_
  clear hK K
  exact ⟨rfl, ((x2.trans x3).trans hx4).trans hx5⟩
end Go.Proofs.Ythfomohophmbaaa
