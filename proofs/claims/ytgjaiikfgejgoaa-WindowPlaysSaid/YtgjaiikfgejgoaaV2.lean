/- Windows: Add. Condition: the window has at most 1000 trades. -/
import Derived.Test.YtgjaiikfgejgoaaV1
namespace Go.Proofs.Ytgjaiikfgejgoaa
open Go.RowKit
attribute [local go_sem] Later.cell QUpon_value QUpon_enter MUpon_value
/-- A window: its block, its trades. -/
structure Win (w : World) (g : Nat) (A : Option Addr) (span grid ref last : Int) (l : List Tr) : Prop where
  ok : ∀ x ∈ l, x.Ok
  alt : ∀ k ∈ ablk A, k < w.heap.size ∧ k ≠ g
  ex : ∃ c, At w g 55 (winCells span grid ref last (.slice A l.length c) (worthN l) (qtyN l : Nat)) ∧ Row w 59 4 A l.length c (trCells l)
theorem Win.ext {w w' : World} {g : Nat} {A : Option Addr} {span grid ref last : Int} {l : List Tr} (h : Win w g A span grid ref last l) (hx : Ext w w') : Win w' g A span grid ref last l :=
  ⟨h.ok, fun k hk => ⟨Nat.lt_of_lt_of_le (h.alt k hk).1 hx.size, (h.alt k hk).2⟩, let ⟨c, hA, hR⟩ := h.ex; ⟨c, hA.ext hx, hR.ext hx⟩⟩
theorem Win.chg {w w' : World} {g : Nat} {A : Option Addr} {span grid ref last : Int} {l : List Tr} {m : List Nat} (h : Win w g A span grid ref last l) (hx : Chg w w' m) (hg : g ∉ m) (hA : ∀ k ∈ ablk A, k ∉ m) : Win w' g A span grid ref last l :=
  ⟨h.ok, fun k hk => ⟨Nat.lt_of_lt_of_le (h.alt k hk).1 hx.size, (h.alt k hk).2⟩, let ⟨c, hA1, hR⟩ := h.ex; ⟨c, hx.at hA1 hg, hR.chg hx hA⟩⟩
theorem Tr.w_lt {x : Tr} (h : x.Ok) : x.w ≤ 4722366482869645213696 := by
  have := h.p1; have := h.q1
  unfold Tr.w
  calc x.p.toNat * x.q.toNat ≤ 1099511627776 * 4294967296 := Nat.mul_le_mul (by omega) (by omega)
    _ = _ := rfl
theorem worth_lt : ∀ {l : List Tr}, (∀ x ∈ l, x.Ok) → worthN l ≤ l.length * 4722366482869645213696
  | [], _ => by simp [worthN]
  | x :: l, h => by
    have h1 := worth_lt (l := l) (fun y hy => h y (by simp [hy]))
    have h2 := Tr.w_lt (h x (by simp))
    simp only [worthN, List.length_cons]
    omega
theorem qty_lt : ∀ {l : List Tr}, (∀ x ∈ l, x.Ok) → qtyN l ≤ l.length * 4294967296
  | [], _ => by simp [qtyN]
  | x :: l, h => by
    have h1 := qty_lt (l := l) (fun y hy => h y (by simp [hy]))
    have h2 := (h x (by simp)).q1
    simp only [qtyN, List.length_cons]
    omega
theorem worth_app (l : List Tr) (x : Tr) : worthN (l ++ [x]) = worthN l + x.w := by
  induction l with
  | nil => simp [worthN]
  | cons a l ih => simp only [List.cons_append, worthN, ih]; omega
theorem qty_app (l : List Tr) (x : Tr) : qtyN (l ++ [x]) = qtyN l + x.q.toNat := by
  induction l with
  | nil => simp [qtyN]
  | cons a l ih => simp only [List.cons_append, qtyN, ih]; omega
theorem trCells_app (l : List Tr) (x : Tr) : trCells (l ++ [x]) = trCells l ++ x.cells := by
  induction l with
  | nil => simp [trCells]
  | cons a l ih => simp only [List.cons_append, trCells, ih, List.append_assoc]
theorem trInfo : (Try.prog.info? 59).map (fun i => (i.zero, i.size, i.bytes)) = some (some (.agg #[.int .i64 0, .int .i64 0, .int .u64 0, .int .u64 0]), 4, 32) := by kernel_rfl
theorem wrapU {x : Int} (h : U64 x) : IntKind.u64.wrap x = x := by
  obtain ⟨h1, h2⟩ := h
  simp [IntKind.wrap, IntKind.bits, IntKind.signed]
  omega
def addB (last t p q : Int) : Bool := comesB last t && pricedB p 1 && decide (qtyI q = 0)
theorem addB_ok {last t p q : Int} (h : addB last t p q = true) : (Tr.mk t p q).Ok ∧ last ≤ t := by
  unfold addB comesB pricedB at h
  simp only [Bool.and_eq_true, decide_eq_true_eq, priceI_iff, qtyI_iff] at h
  obtain ⟨⟨h1, h2⟩, h3⟩ := h
  exact ⟨⟨by simp; omega, by simp; omega, by simp; omega, by simp; omega, by simp; omega, by simp; omega⟩, h1.1⟩
set_option maxHeartbeats 4000000 in
set_option maxRecDepth 100000 in
theorem wadd_c (g : Nat) (A : Option Addr) (span grid ref last : Int) (l : List Tr) (t p q : Int) (ht : I64 t) (hp : I64 p) (hq : I64 q) (w : World) (hW : Win w g A span grid ref last l) (hn : l.length < 1000) :
    Calls Try.prog 9 #[.pointer (some ⟨g, 0, none⟩), .int .i64 t, .int .i64 p, .int .i64 q] w fun e w' =>
      (addB last t p q = false ∧ e = .returned (.int .i64 9) ∧ Ext w w') ∨
      (addB last t p q = true ∧ e = .returned (.int .i64 0) ∧ ∃ A', Win w' g A' span grid ref t (l ++ [⟨t, p, q⟩]) ∧ Chg w w' (g :: ablk A) ∧ ∀ k ∈ ablk A', k ∈ ablk A ∨ w.heap.size ≤ k) := by
  obtain ⟨hok, halt, c, hA, hR⟩ := hW
  have C1 := comes_c g span grid ref last _ _ _ t w hA
  have C2 := priced_c p 1 hp (by decide)
  have C3 := qty_c q hq
  cases hb : addB last t p q
  · refine Calls.mono (R := fun e w' => e = .returned (.int .i64 9) ∧ Ext w w') ?_ (fun e w' h => .inl ⟨rfl, h⟩)
    unfold addB at hb
    cases b1 : comesB last t
    · rw [b1] at C1
      clear hb b1 C2 C3 hA hR
      go_enter Try.func9, Try.ntmps9
      go_wp2_with fail
      refine (C1).mono ?_
      rintro e w1 ⟨rfl, hxw1⟩
      have xw1 : Ext w w1 := Ext.trans (by repeat (first | (with_reducible exact Ext.refl _) | (with_reducible assumption) | (with_reducible refine Ext.alloc ?_ _) | (with_reducible refine Ext.drew ?_) | (with_reducible refine Ext.drewN ?_ _) | (with_reducible refine Ext.setCell ?_ (by simp; try omega) _) | (with_reducible refine Ext.setRow ?_ (by simp; try omega) _))) hxw1
      have lw1 := xw1.size
      go_wp2_with fail
      first | refine fin_ret rfl (fun K hK => ?_) | refine fin_norm rfl (fun K hK => ?_)
      simp [results, Try.results9, go_sem, rsat]
      try go_simp
      refine hK _ ?_
      clear hK K
      exact ⟨rfl, (by repeat (first | (with_reducible exact Ext.refl _) | (with_reducible assumption) | (with_reducible refine Ext.alloc ?_ _) | (with_reducible refine Ext.drew ?_) | (with_reducible refine Ext.drewN ?_ _) | (with_reducible refine Ext.setCell ?_ (by simp; try omega) _) | (with_reducible refine Ext.setRow ?_ (by simp; try omega) _)))⟩
    rw [b1] at C1 hb
    cases b2 : pricedB p 1
    · rw [b2] at C2
      clear hb b1 b2 C3 hA hR
      go_enter Try.func9, Try.ntmps9
      go_wp2_with fail
      refine (C1).mono ?_
      rintro e w1 ⟨rfl, hxw1⟩
      have xw1 : Ext w w1 := Ext.trans (by repeat (first | (with_reducible exact Ext.refl _) | (with_reducible assumption) | (with_reducible refine Ext.alloc ?_ _) | (with_reducible refine Ext.drew ?_) | (with_reducible refine Ext.drewN ?_ _) | (with_reducible refine Ext.setCell ?_ (by simp; try omega) _) | (with_reducible refine Ext.setRow ?_ (by simp; try omega) _))) hxw1
      have lw1 := xw1.size
      go_wp2_with fail
      refine (C2 _).mono ?_
      rintro e w2 ⟨rfl, hxw2⟩
      have xw2 : Ext w w2 := Ext.trans (by repeat (first | (with_reducible exact Ext.refl _) | (with_reducible assumption) | (with_reducible refine Ext.alloc ?_ _) | (with_reducible refine Ext.drew ?_) | (with_reducible refine Ext.drewN ?_ _) | (with_reducible refine Ext.setCell ?_ (by simp; try omega) _) | (with_reducible refine Ext.setRow ?_ (by simp; try omega) _))) hxw2
      have lw2 := xw2.size
      go_wp2_with fail
      first | refine fin_ret rfl (fun K hK => ?_) | refine fin_norm rfl (fun K hK => ?_)
      simp [results, Try.results9, go_sem, rsat]
      try go_simp
      refine hK _ ?_
      clear hK K
      exact ⟨rfl, (by repeat (first | (with_reducible exact Ext.refl _) | (with_reducible assumption) | (with_reducible refine Ext.alloc ?_ _) | (with_reducible refine Ext.drew ?_) | (with_reducible refine Ext.drewN ?_ _) | (with_reducible refine Ext.setCell ?_ (by simp; try omega) _) | (with_reducible refine Ext.setRow ?_ (by simp; try omega) _)))⟩
    rw [b2] at C2 hb
    have b3 : ¬ qtyI q = 0 := by simpa using hb
    generalize qtyI q = n at C3 b3
    have b4 : (n != 0) = true := by simpa using b3
    clear hb b1 b2 b3 hA hR
    go_enter Try.func9, Try.ntmps9
    go_wp2_with fail
    refine (C1).mono ?_
    rintro e w1 ⟨rfl, hxw1⟩
    have xw1 : Ext w w1 := Ext.trans (by repeat (first | (with_reducible exact Ext.refl _) | (with_reducible assumption) | (with_reducible refine Ext.alloc ?_ _) | (with_reducible refine Ext.drew ?_) | (with_reducible refine Ext.drewN ?_ _) | (with_reducible refine Ext.setCell ?_ (by simp; try omega) _) | (with_reducible refine Ext.setRow ?_ (by simp; try omega) _))) hxw1
    have lw1 := xw1.size
    go_wp2_with fail
    refine (C2 _).mono ?_
    rintro e w2 ⟨rfl, hxw2⟩
    have xw2 : Ext w w2 := Ext.trans (by repeat (first | (with_reducible exact Ext.refl _) | (with_reducible assumption) | (with_reducible refine Ext.alloc ?_ _) | (with_reducible refine Ext.drew ?_) | (with_reducible refine Ext.drewN ?_ _) | (with_reducible refine Ext.setCell ?_ (by simp; try omega) _) | (with_reducible refine Ext.setRow ?_ (by simp; try omega) _))) hxw2
    have lw2 := xw2.size
    go_wp2_with fail
    refine (C3 _).mono ?_
    rintro e w3 ⟨rfl, hxw3⟩
    have xw3 : Ext w w3 := Ext.trans (by repeat (first | (with_reducible exact Ext.refl _) | (with_reducible assumption) | (with_reducible refine Ext.alloc ?_ _) | (with_reducible refine Ext.drew ?_) | (with_reducible refine Ext.drewN ?_ _) | (with_reducible refine Ext.setCell ?_ (by simp; try omega) _) | (with_reducible refine Ext.setRow ?_ (by simp; try omega) _))) hxw3
    have lw3 := xw3.size
    go_wp2_with fail
    first | refine fin_ret rfl (fun K hK => ?_) | refine fin_norm rfl (fun K hK => ?_)
    simp [results, Try.results9, go_sem, rsat]
    try go_simp
    refine hK _ ?_
    clear hK K
    exact ⟨rfl, (by repeat (first | (with_reducible exact Ext.refl _) | (with_reducible assumption) | (with_reducible refine Ext.alloc ?_ _) | (with_reducible refine Ext.drew ?_) | (with_reducible refine Ext.drewN ?_ _) | (with_reducible refine Ext.setCell ?_ (by simp; try omega) _) | (with_reducible refine Ext.setRow ?_ (by simp; try omega) _)))⟩
  · refine Calls.mono (R := fun e w' => e = .returned (.int .i64 0) ∧ ∃ A', Win w' g A' span grid ref t (l ++ [⟨t, p, q⟩]) ∧ Chg w w' (g :: ablk A) ∧ ∀ k ∈ ablk A', k ∈ ablk A ∨ w.heap.size ≤ k) ?_ (fun e w' h => .inr ⟨rfl, h⟩)
    obtain ⟨hO, hlt⟩ := addB_ok hb
    unfold addB at hb
    simp only [Bool.and_eq_true, decide_eq_true_eq] at hb
    obtain ⟨⟨b1, b2⟩, b3⟩ := hb
    rw [b1] at C1
    rw [b2] at C2
    rw [b3] at C3
    have hpu : U64 p := ⟨by have := hO.p0; simp only at this; omega, by have := hO.p1; simp only at this; omega⟩
    have hqu : U64 q := ⟨by have := hO.q0; simp only at this; omega, by have := hO.q1; simp only at this; omega⟩
    have C4 := mul_v p q hpu hqu
    have ep : IntKind.u64.wrap p = p := wrapU hpu
    have eq : IntKind.u64.wrap q = q := wrapU hqu
    clear b1 b2 b3
    go_enter Try.func9, Try.ntmps9
    go_wp2_with fail
    refine (C1).mono ?_
    rintro e w1 ⟨rfl, hxw1⟩
    have xw1 : Ext w w1 := Ext.trans (by repeat (first | (with_reducible exact Ext.refl _) | (with_reducible assumption) | (with_reducible refine Ext.alloc ?_ _) | (with_reducible refine Ext.drew ?_) | (with_reducible refine Ext.drewN ?_ _) | (with_reducible refine Ext.setCell ?_ (by simp; try omega) _) | (with_reducible refine Ext.setRow ?_ (by simp; try omega) _))) hxw1
    have lw1 := xw1.size
    go_wp2_with fail
    refine (C2 _).mono ?_
    rintro e w2 ⟨rfl, hxw2⟩
    have xw2 : Ext w w2 := Ext.trans (by repeat (first | (with_reducible exact Ext.refl _) | (with_reducible assumption) | (with_reducible refine Ext.alloc ?_ _) | (with_reducible refine Ext.drew ?_) | (with_reducible refine Ext.drewN ?_ _) | (with_reducible refine Ext.setCell ?_ (by simp; try omega) _) | (with_reducible refine Ext.setRow ?_ (by simp; try omega) _))) hxw2
    have lw2 := xw2.size
    go_wp2_with fail
    refine (C3 _).mono ?_
    rintro e w3 ⟨rfl, hxw3⟩
    have xw3 : Ext w w3 := Ext.trans (by repeat (first | (with_reducible exact Ext.refl _) | (with_reducible assumption) | (with_reducible refine Ext.alloc ?_ _) | (with_reducible refine Ext.drew ?_) | (with_reducible refine Ext.drewN ?_ _) | (with_reducible refine Ext.setCell ?_ (by simp; try omega) _) | (with_reducible refine Ext.setRow ?_ (by simp; try omega) _))) hxw3
    have lw3 := xw3.size
    go_wp2_with fail
    refine (C4 _).mono ?_
    rintro e w4 ⟨rfl, hxw4⟩
    have xw4 : Ext w w4 := Ext.trans (by repeat (first | (with_reducible exact Ext.refl _) | (with_reducible assumption) | (with_reducible refine Ext.alloc ?_ _) | (with_reducible refine Ext.drew ?_) | (with_reducible refine Ext.drewN ?_ _) | (with_reducible refine Ext.setCell ?_ (by simp; try omega) _) | (with_reducible refine Ext.setRow ?_ (by simp; try omega) _))) hxw4
    have lw4 := xw4.size
    have sg := hA.lt
    have sg4 : g < w4.heap.size := by omega
    have hA4 := hA.ext xw4
    have b3 : w4.cell? ⟨g, 3, none⟩ = some (.int .i64 last) := hA4.cell 3
    have f3 := hA4.frozen 3
    have n4 : g ≠ w4.heap.size := by omega
    go_wp2_with fail
    have hk4 : ∀ k ∈ ablk A, k < w4.heap.size ∧ k ≠ g := fun k hk => ⟨by have := (halt k hk).1; omega, (halt k hk).2⟩
    have hgA : g ∉ ablk A := fun h => (halt g h).2 rfl
    have hR4 := hR.ext xw4
    have hC4 := Chg.of_ext xw4 (g :: ablk A)
    refine gen_world (fun W => Chg w W (g :: ablk A) ∧ w4.heap.size < W.heap.size ∧ At W g 55 (winCells span grid ref t (.slice A l.length c) (worthN l) (qtyN l : Nat)) ∧ At W w4.heap.size 59 (Tr.cells ⟨t, p, q⟩).toArray ∧ Row W 59 4 A l.length c (trCells l)) ⟨(by repeat (first | (with_reducible exact Chg.refl _ _) | (with_reducible assumption) | (with_reducible refine Chg.alloc ?_ _) | (with_reducible refine Chg.drew ?_) | (with_reducible refine Chg.drewN ?_ _) | (with_reducible refine Chg.set ?_ (by simp; try omega) _) | (with_reducible refine Chg.setRow ?_ (by simp; try omega) _))), by simp, ?_, ?_, (by repeat (first | (with_reducible assumption) | (with_reducible refine Row.alloc ?_ _) | (with_reducible refine Row.drew ?_) | (with_reducible refine Row.drewN ?_ _) | (with_reducible refine Row.set ?_ (by first | (with_reducible assumption) | (simp; omega)) _) | (with_reducible refine Row.setRow ?_ (by first | (with_reducible assumption) | (simp; omega)) _)))⟩ (fun w5 hF => ?_)
    · exact (hA4.set 3 _).alloc _
    · show At _ _ _ #[.int .i64 t, .int .i64 q, .int .u64 (whi (p.toNat * q.toNat)), .int .u64 (wlo (p.toNat * q.toNat))]
      exact (by repeat (first | (with_reducible exact At.new _ _ _) | ((with_reducible refine At.new' _ _ _ _ ?_); simp; done) | (with_reducible assumption) | (with_reducible refine At.drew ?_) | (with_reducible refine At.alloc ?_ _) | (with_reducible apply At.upd) | (with_reducible apply At.setRow) | (with_reducible refine At.rowFar ?_ (by first | (simp; done) | (simp; omega) | omega) _) | ((with_reducible refine At.far ?_ (by first | (simp; done) | (simp; omega) | omega) _)) | (with_reducible rfl) | (simp; done)))
    obtain ⟨hC5, hs5, hA5, hT5, hR5⟩ := hF
    clear hA hR hA4 hR4 hC4 xw1 xw2 xw3
    have c5 : w5.cell? ⟨g, 4, none⟩ = some (.slice A l.length c) := hA5.cell 4
    have d0 : w5.cell? ⟨w4.heap.size, 0, none⟩ = some (.int .i64 t) := hT5.cell 0
    have d1 : w5.cell? ⟨w4.heap.size, 1, none⟩ = some (.int .i64 q) := hT5.cell 1
    have d2 : w5.cell? ⟨w4.heap.size, 2, none⟩ = some (.int .u64 (whi (p.toNat * q.toNat))) := hT5.cell 2
    have d3 : w5.cell? ⟨w4.heap.size, 3, none⟩ = some (.int .u64 (wlo (p.toNat * q.toNat))) := hT5.cell 3
    have sg5 : g < w5.heap.size := by omega
    refine wp_region_m 7 [0, 0, 0, 0, 1, 1, 2] 6 (MadeS w5 59 1 #[.int .i64 t, .int .i64 q, .int .u64 (whi (p.toNat * q.toNat)), .int .u64 (wlo (p.toNat * q.toNat))]) _ (by kernel_rfl) (by kernel_rfl) rfl (by omega) rfl MadeS.ext ?_
    simp only [List.take_succ_cons, List.take_zero, List.drop_succ_cons, List.drop_zero]
    refine hl_pure (fun K hK => ?_)
    go_simp
    refine hK _ ?_
    clear hK K
    refine hl_pure (fun K hK => ?_)
    go_simp
    refine hK _ ?_
    clear hK K
    refine hl_pure (fun K hK => ?_)
    go_simp
    refine hK _ ?_
    clear hK K
    refine hl_pure (fun K hK => ?_)
    go_simp
    refine hK _ ?_
    clear hK K
    refine hl_quiet (fun K hK => ?_)
    go_simp
    refine hK _ ?_
    clear hK K
    refine hl_quiet (fun K hK => ?_)
    go_simp
    refine hK _ ?_
    clear hK K
    refine hl_make rfl (fun x => by go_simp; exact Later.mades x _ _ _) ?_
    refine hl_nil ?_
    intro uw6 w6 hxw6 huw6 K hK
    obtain ⟨gw6, rfl, hgw6, hAw6⟩ := huw6
    have hR6 := hR5.ext hxw6
    have hA6 := hA5.ext hxw6
    have hT6 := hT5.ext hxw6
    have hC6 : Chg w w6 (g :: ablk A) := hC5.extR hxw6
    have hs6 := hxw6.size
    go_wp2_with (at_builtin; refine wpList_rowcat rfl _ _ 50 59 4 32 (.agg #[.int .i64 0, .int .i64 0, .int .u64 0, .int .u64 0]) rfl Try.underlying50 trInfo rfl (by decide) _ A l.length c (trCells l) rfl hR6 _ 1 1 _ rfl (Src.at hAw6 rfl) rfl (by unfold maxLen; omega) (by omega) ?_)
    intro A' c' w7 hR7 hC7 hfr
    have hA7 := hC7.at hA6 hgA
    have hT7 := hC7.at hT6 (fun h => by have := (halt _ h).1; omega)
    have hCC : Chg w w7 (g :: ablk A) := hC6.step hC7 (fun i hi => .inl (by simp [hi]))
    have hgA' : g ∉ ablk A' := fun h => by rcases hfr g h with h1 | h1; exact hgA h1; omega
    have s67 := hC7.size
    clear hA6 hT6 hC6 hR6 hC7 hR5 hT5 hA5 hC5 c5 d0 d1 d2 d3 b3 f3 hxw6
    have c4 : w7.cell? ⟨g, 4, none⟩ = some (.slice A l.length c) := hA7.cell 4
    have c5 : w7.cell? ⟨g, 5, none⟩ = some (.int .u64 (whi (worthN l))) := hA7.cell 5
    have c6 : w7.cell? ⟨g, 6, none⟩ = some (.int .u64 (wlo (worthN l))) := hA7.cell 6
    have f4 := hA7.frozen 4
    have sg7 := hA7.lt
    have st7 := hT7.lt
    have d2 : w7.cell? ⟨w4.heap.size, 2, none⟩ = some (.int .u64 (whi (p.toNat * q.toNat))) := hT7.cell 2
    have d3 : w7.cell? ⟨w4.heap.size, 3, none⟩ = some (.int .u64 (wlo (p.toNat * q.toNat))) := hT7.cell 3
    have n5 : w4.heap.size ≠ g := by omega
    have hwl := worth_lt hok
    have hql := qty_lt hok
    have hxw := Tr.w_lt hO
    have hxq := hO.q1
    have hxq0 := hO.q0
    simp only [Tr.w] at hxw hxq hxq0
    go_wp2_with fail
    refine (add_v (worthN l) (p.toNat * q.toNat) (by omega) _).mono ?_
    rintro e w8 ⟨rfl, hxw8⟩
    have hA8 := (hA7.set 4 (.slice A' (l.length + 1) c')).ext hxw8
    have hR8 := (hR7.set (p := ⟨g, 4, none⟩) hgA' (.slice A' (l.length + 1) c')).ext hxw8
    have hC8 : Chg w w8 (g :: ablk A) := (hCC.set (p := ⟨g, 4, none⟩) (.inl (by simp)) (.slice A' (l.length + 1) c')).extR hxw8
    have s78 := hxw8.size
    simp only [World.size_setCell] at s78
    clear hA7 hT7 hCC c4 c5 c6 f4 d2 d3 hxw8 hR7
    have c5 : w8.cell? ⟨g, 5, none⟩ = some (.int .u64 (whi (worthN l))) := hA8.cell 5
    have c6 : w8.cell? ⟨g, 6, none⟩ = some (.int .u64 (wlo (worthN l))) := hA8.cell 6
    have c7 : w8.cell? ⟨g, 7, none⟩ = some (.int .i64 (qtyN l : Nat)) := hA8.cell 7
    have f5 := hA8.frozen 5
    have f6 := hA8.frozen 6
    have f7 := hA8.frozen 7
    go_wp2_with fail
    first | refine fin_ret rfl (fun K hK => ?_) | refine fin_norm rfl (fun K hK => ?_)
    simp [results, Try.results9, go_sem, rsat]
    try go_simp
    refine hK _ ?_
    clear hK K
    have hq' : ((qtyN l : Nat) : Int) + q = ((qtyN l + q.toNat : Nat) : Int) := by omega
    have hR9 : Row (((w8.setCell ⟨g, 5, none⟩ (.int .u64 (whi (worthN l + p.toNat * q.toNat)))).setCell ⟨g, 6, none⟩ (.int .u64 (wlo (worthN l + p.toNat * q.toNat)))).setCell ⟨g, 7, none⟩ (.int .i64 (((qtyN l : Nat) : Int) + q))) 59 4 A' (l.length + 1) c' (trCells l ++ Tr.cells ⟨t, p, q⟩) := Row.set (Row.set (Row.set hR8 hgA' _) hgA' _) hgA' _
    refine ⟨rfl, A', ⟨fun x hx => ?_, fun k hk => ⟨hR9.lt (by have := hR9.le; omega) hk, fun h => hgA' (h ▸ hk)⟩, c', ?_, ?_⟩, (by repeat (first | (with_reducible exact Chg.refl _ _) | (with_reducible assumption) | (with_reducible refine Chg.alloc ?_ _) | (with_reducible refine Chg.drew ?_) | (with_reducible refine Chg.drewN ?_ _) | (with_reducible refine Chg.set ?_ (by simp; try omega) _) | (with_reducible refine Chg.setRow ?_ (by simp; try omega) _))), fun k hk => ?_⟩
    · rcases List.mem_append.1 hx with h | h
      · exact hok x h
      · rw [List.mem_singleton.1 h]; exact hO
    · rw [worth_app, qty_app, List.length_append]
      simp only [Tr.w]
      rw [← hq']
      exact ((hA8.set 5 _).set 6 _).set 7 _
    · rw [trCells_app, List.length_append]
      exact hR9
    · rcases hfr k hk with h | h
      · exact .inl h
      · right; omega
end Go.Proofs.Ytgjaiikfgejgoaa
