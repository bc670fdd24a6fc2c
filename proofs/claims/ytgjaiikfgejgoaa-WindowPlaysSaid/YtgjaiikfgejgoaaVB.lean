/- Windows (layer 19): Roll by the document, an act on both. Condition: at most 1000 trades. -/
import Derived.Test.YtgjaiikfgejgoaaV11
import Derived.Test.YtgjaiikfgejgoaaL19
/- Windows by the document (layer 19): Roll; what two windows do side by side. Condition: at most 1000 trades. -/
namespace Go.Proofs.Ytgjaiikfgejgoaa
open Go.RowKit
attribute [local go_sem] Later.cell QUpon_value QUpon_enter MUpon_value Same.cell
theorem keep_drop {c : Int} : ∀ {l : List Tr}, l.Pairwise (fun x y => x.t ≤ y.t) → keepT c l = dropT c l
  | [], _ => rfl
  | x :: l, h => by
    rw [List.pairwise_cons] at h
    unfold keepT dropT
    by_cases hx : x.t ≤ c
    · rw [List.filter_cons_of_neg (by simpa using hx), if_pos hx]
      exact keep_drop h.2
    · rw [if_neg hx]
      exact List.filter_eq_self.2 fun y hy => by
        rcases List.mem_cons.1 hy with rfl | h1
        · simpa using hx
        · have := h.1 y h1; simp; omega
theorem drop_sub (c : Int) (l : List Tr) : (dropT c l).Sublist l := by
  induction l with
  | nil => exact .slnil
  | cons x l ih =>
    unfold dropT
    split
    · exact ih.cons _
    · exact List.Sublist.refl _
theorem meanR_is (grid : Int) (l : List Tr) : ∃ n b, meanR grid l = .tuple #[.int .i64 n, .bool b] := by
  cases l with
  | nil => exact ⟨0, false, rfl⟩
  | cons x l => exact ⟨_, true, rfl⟩
theorem rroll_c (g : Nat) (A : Option Addr) (span grid ref last : Int) (l : List Tr) (t bps : Int) (ht : I64 t) (hb : I64 bps) (hr : I64 ref) (hok : ∀ x ∈ l, x.Ok) (hsp : 1 ≤ span ∧ span ≤ 1099511627776) (hgr : 1 ≤ grid ∧ grid ≤ 1099511627776) (w : World) (hW : RWin w g A span grid ref last l) (hn : l.length ≤ 1000) :
    Calls Try.prog 30 #[.pointer (some ⟨g, 0, none⟩), .int .i64 t, .int .i64 bps] w fun e w' =>
      (comesB last t = false ∧ e = .returned (.tuple #[.int .i64 ref, .bool false]) ∧ Ext w w') ∨
      (comesB last t = true ∧ e = .returned (.tuple #[.int .i64 (rollV grid ref bps (keepT (t - span) l)), .bool (rollB grid ref bps (keepT (t - span) l))]) ∧ ∃ A', RWin w' g A' span grid (rollV grid ref bps (keepT (t - span) l)) t (keepT (t - span) l) ∧ Chg w w' [g] ∧ ∀ k ∈ ablk A', w.heap.size ≤ k) := by
  have C1 := rmean_c g A span grid ref last l t ht hok hsp hgr w hW hn
  have hkok := keepT_ok (c := t - span) hok
  go_enter Try.func30, Try.ntmps30
  go_wp2_with fail
  refine (C1).mono ?_
  rintro e w1 (⟨hc, rfl, hx1⟩ | ⟨hc, rfl, A1, hW1, hC1, hf1⟩)
  · obtain ⟨c1, hA1, _⟩ := (hW.ext hx1).ex
    have b2 : w1.cell? ⟨g, 2, none⟩ = some (.int .i64 ref) := hA1.cell 2
    go_wp2_with fail
    first | refine fin_ret rfl (fun K hK => ?_) | refine fin_norm rfl (fun K hK => ?_)
    simp [results, Try.results30, go_sem, rsat]
    try go_simp
    refine hK _ ?_
    clear hK K
    exact .inl ⟨hc, rfl, hx1⟩
  · rcases hd : keepT (t - span) l with _ | ⟨x, r⟩
    · rw [hd] at hW1
      simp only [meanR]
      obtain ⟨c1, hA1, _⟩ := hW1.ex
      have b2 : w1.cell? ⟨g, 2, none⟩ = some (.int .i64 ref) := hA1.cell 2
      go_wp2_with fail
      first | refine fin_ret rfl (fun K hK => ?_) | refine fin_norm rfl (fun K hK => ?_)
      simp [results, Try.results30, go_sem, rsat]
      try go_simp
      refine hK _ ?_
      clear hK K
      rw [hd]
      exact .inr ⟨hc, rfl, A1, hW1, hC1, hf1⟩
    · rw [hd] at hW1 hkok
      simp only [meanR]
      have hmI := meanV_I64 hgr hkok
      have hrB : rollB grid ref bps (x :: r) = movedB ref (meanV grid (x :: r)) bps := rfl
      have hrV : rollV grid ref bps (x :: r) = if movedB ref (meanV grid (x :: r)) bps then meanV grid (x :: r) else ref := rfl
      generalize meanV grid (x :: r) = m at hmI hrB hrV ⊢
      have C2 := rmoved_c ref m bps hr ⟨by omega, by omega⟩ hb
      clear C1
      obtain ⟨c1, hA1, hR1⟩ := hW1.ex
      have sg1 := hA1.lt
      have b2 : w1.cell? ⟨g, 2, none⟩ = some (.int .i64 ref) := hA1.cell 2
      generalize movedB ref m bps = b at C2 hrB hrV
      cases b
      ·
        go_wp2_with fail
        refine (C2 _).mono ?_
        rintro e w2 ⟨rfl, hxw2⟩
        have hA2 := hA1.ext hxw2
        have b3 : w2.cell? ⟨g, 2, none⟩ = some (.int .i64 ref) := hA2.cell 2
        go_wp2_with fail
        first | refine fin_ret rfl (fun K hK => ?_) | refine fin_norm rfl (fun K hK => ?_)
        simp [results, Try.results30, go_sem, rsat]
        try go_simp
        refine hK _ ?_
        clear hK K
        rw [hd, hrB, hrV]
        exact .inr ⟨hc, rfl, A1, RWin.ext hW1 hxw2, hC1.extR hxw2, hf1⟩
      ·
        go_wp2_with fail
        refine (C2 _).mono ?_
        rintro e w2 ⟨rfl, hxw2⟩
        have hA2 := hA1.ext hxw2
        have b3 : w2.cell? ⟨g, 2, none⟩ = some (.int .i64 ref) := hA2.cell 2
        have f3 := hA2.frozen 2
        go_wp2_with fail
        first | refine fin_ret rfl (fun K hK => ?_) | refine fin_norm rfl (fun K hK => ?_)
        simp [results, Try.results30, go_sem, rsat]
        try go_simp
        refine hK _ ?_
        clear hK K
        rw [hd, hrB, hrV]
        exact .inr ⟨hc, rfl, A1, ⟨fun k hk => ⟨by have := (hW1.alt k hk).1; have := hxw2.size; simp; omega, (hW1.alt k hk).2⟩, c1, hA2.set 2 _, (hR1.ext hxw2).set (fun h => (hW1.alt g h).2 rfl) _⟩, (hC1.extR hxw2).set (.inl (by simp)) _, hf1⟩
/-- The program's window and the document's, side by side. -/
structure Duo (w0 w : World) (ga gb : Nat) (Aa Ab : Option Addr) (span grid ra rb ta tb : Int) (la lb : List Tr) : Prop where
  ext : Ext w0 w
  a : Win w ga Aa span grid ra ta la
  b : RWin w gb Ab span grid rb tb lb
  ga_ : w0.heap.size ≤ ga
  gb_ : w0.heap.size ≤ gb
  ne : ga ≠ gb
  fa : ∀ j ∈ ablk Aa, w0.heap.size ≤ j ∧ j ≠ gb ∧ j ∉ ablk Ab
  fb : ∀ j ∈ ablk Ab, w0.heap.size ≤ j ∧ j ≠ ga
section
variable {w0 w w' : World} {ga gb : Nat} {Aa Ab : Option Addr} {span grid ra rb ta tb : Int} {la lb : List Tr}
theorem Duo.extR (h : Duo w0 w ga gb Aa Ab span grid ra rb ta tb la lb) (hx : Ext w w') : Duo w0 w' ga gb Aa Ab span grid ra rb ta tb la lb := ⟨h.ext.trans hx, h.a.ext hx, h.b.ext hx, h.ga_, h.gb_, h.ne, h.fa, h.fb⟩
theorem Chg.extOfV {w0 a b : World} {m : List Nat} (h : Chg a b m) (hx : Ext w0 a) (hm : ∀ i ∈ m, w0.heap.size ≤ i) : Ext w0 b := (Chg.step (Chg.of_ext hx []) h (fun i hi => .inr (hm i hi))).ext (by simp)
theorem Duo.stepa (h : Duo w0 w ga gb Aa Ab span grid ra rb ta tb la lb) {A' : Option Addr} {ra' ta' : Int} {la' : List Tr} (hW : Win w' ga A' span grid ra' ta' la') (hC : Chg w w' (ga :: ablk Aa)) (hf : ∀ k ∈ ablk A', k ∈ ablk Aa ∨ w.heap.size ≤ k) : Duo w0 w' ga gb A' Ab span grid ra' rb ta' tb la' lb := by
  have gbl : gb < w.heap.size := h.b.ex.choose_spec.1.lt
  refine ⟨hC.extOfV h.ext (fun i hi => by rcases List.mem_cons.1 hi with rfl | h1; exact h.ga_; exact (h.fa i h1).1), hW, h.b.chg hC (fun hm => ?_) (fun k hk hm => ?_), h.ga_, h.gb_, h.ne, fun j hj => ?_, h.fb⟩
  · rcases List.mem_cons.1 hm with h1 | h1
    · exact h.ne h1.symm
    · exact (h.fa _ h1).2.1 rfl
  · rcases List.mem_cons.1 hm with h1 | h1
    · exact (h.fb k hk).2 h1
    · exact (h.fa k h1).2.2 hk
  · rcases hf j hj with h1 | h1
    · exact h.fa j h1
    · exact ⟨Nat.le_trans h.ext.size h1, by omega, fun h2 => by have := (h.b.alt j h2).1; omega⟩
theorem Duo.stepb (h : Duo w0 w ga gb Aa Ab span grid ra rb ta tb la lb) {B' : Option Addr} {rb' tb' : Int} {lb' : List Tr} (hW : RWin w' gb B' span grid rb' tb' lb') (hC : Chg w w' [gb]) (hf : ∀ k ∈ ablk B', w.heap.size ≤ k) : Duo w0 w' ga gb Aa B' span grid ra rb' ta tb' la lb' := by
  have gal : ga < w.heap.size := h.a.ex.choose_spec.1.lt
  refine ⟨hC.extOfV h.ext (fun i hi => by rw [List.mem_singleton.1 hi]; exact h.gb_), h.a.chg hC (fun hm => h.ne (List.mem_singleton.1 hm)) (fun k hk hm => (h.fa k hk).2.1 (List.mem_singleton.1 hm)), hW, h.ga_, h.gb_, h.ne, fun j hj => ⟨(h.fa j hj).1, (h.fa j hj).2.1, fun h2 => ?_⟩, fun j hj => ⟨Nat.le_trans h.ext.size (hf j hj), by have := hf j hj; omega⟩⟩
  have := hf j h2
  have := (h.a.alt j hj).1
  omega
end
end Go.Proofs.Ytgjaiikfgejgoaa
/- Windows (layer 19): an act on both. Condition: less than 1000 trades. -/
namespace Go.Proofs.Ytgjaiikfgejgoaa
open Go.RowKit
attribute [local go_sem] Later.cell QUpon_value QUpon_enter MUpon_value Same.cell
/-- An act. -/
structure Ac where
  kind : Int
  tick : Int
  price : Int
  qty : Int
  bps : Int
structure Ac.Ok (x : Ac) : Prop where
  kind : I64 x.kind
  tick : I64 x.tick
  price : I64 x.price
  qty : I64 x.qty
  bps : I64 x.bps
/-- Both windows hold the same. -/
structure Both (w0 w : World) (ga gb : Nat) (span grid : Int) (n : Nat) (r : Int) (l : List Tr) : Prop where
  duo : ∃ Aa Ab t, Duo w0 w ga gb Aa Ab span grid r r t t l l ∧ ∀ x ∈ l, x.t ≤ t
  ref : I64 r
  srt : l.Pairwise (fun x y => x.t ≤ y.t)
  len : l.length ≤ n
def ActIs (w0 : World) (ga gb : Nat) (span grid : Int) (n : Nat) (e : Ending) (w' : World) : Prop := e = .returned (.bool true) ∧ ∃ r l, Both w0 w' ga gb span grid n r l
theorem srt_app {l : List Tr} {t p q last : Int} (h : l.Pairwise (fun x y => x.t ≤ y.t)) (hl : ∀ x ∈ l, x.t ≤ last) (ht : last ≤ t) : (l ++ [(⟨t, p, q⟩ : Tr)]).Pairwise (fun x y => x.t ≤ y.t) ∧ ∀ x ∈ l ++ [(⟨t, p, q⟩ : Tr)], x.t ≤ t := by
  refine ⟨List.pairwise_append.2 ⟨h, List.pairwise_singleton _ _, fun x hx y hy => ?_⟩, fun x hx => ?_⟩
  · rw [List.mem_singleton.1 hy]; have := hl x hx; simp only; omega
  · rcases List.mem_append.1 hx with h1 | h1
    · have := hl x h1; omega
    · rw [List.mem_singleton.1 h1]; simp
theorem srt_drop {l : List Tr} {c t last : Int} (h : l.Pairwise (fun x y => x.t ≤ y.t)) (hl : ∀ x ∈ l, x.t ≤ last) (ht : last ≤ t) : (dropT c l).Pairwise (fun x y => x.t ≤ y.t) ∧ ∀ x ∈ dropT c l, x.t ≤ t :=
  ⟨h.sublist (drop_sub c l), fun x hx => by have := hl x ((drop_sub c l).subset hx); omega⟩
set_option maxHeartbeats 4000000 in
set_option maxRecDepth 100000 in
theorem act0_c (w0 w : World) (ga gb : Nat) (span grid r : Int) (n : Nat) (l : List Tr) (tick price qty bps : Int) (it : I64 tick) (ip : I64 price) (iq : I64 qty) (hB : Both w0 w ga gb span grid n r l) (hn : n < 1000) :
    Calls Try.prog 14 #[.pointer (some ⟨ga, 0, none⟩), .pointer (some ⟨gb, 0, none⟩), .agg #[.int .i64 0, .int .i64 tick, .int .i64 price, .int .i64 qty, .int .i64 bps]] w fun e w' => ActIs w0 ga gb span grid (n + 1) e w' := by
  obtain ⟨⟨Aa, Ab, t, D, hl⟩, hr, hs, hln⟩ := hB
  have gal := D.a.ex.choose_spec.1.lt
  have gbl := D.b.ex.choose_spec.1.lt
  have aal : ∀ k ∈ ablk Aa, k < w.heap.size := fun k hk => (D.a.alt k hk).1
  have hll : l.length < 1000 := by omega
  go_enter Try.func14, Try.ntmps14
  go_wp2_with fail
  obtain ⟨w1, hw1⟩ : ∃ W, W = w.alloc (.cells #[.int .i64 0, .int .i64 tick, .int .i64 price, .int .i64 qty, .int .i64 bps] 39) := ⟨_, rfl⟩
  have G1 : At w1 w.heap.size 39 #[.int .i64 0, .int .i64 tick, .int .i64 price, .int .i64 qty, .int .i64 bps] := by rw [hw1]; exact At.new _ _ _
  have D1 : Duo w0 w1 ga gb Aa Ab span grid r r t t l l := by rw [hw1]; exact D.extR ((Ext.refl _).alloc _)
  rw [← hw1]
  clear hw1
  generalize w.heap.size = g5 at *
  have c_G1_0 := G1.cell 0
  have f_G1_0 := G1.frozen 0
  simp only [List.getElem?_toArray, List.getElem?_cons_zero, List.getElem?_cons_succ] at c_G1_0
  have c_G1_1 := G1.cell 1
  have f_G1_1 := G1.frozen 1
  simp only [List.getElem?_toArray, List.getElem?_cons_zero, List.getElem?_cons_succ] at c_G1_1
  have c_G1_2 := G1.cell 2
  have f_G1_2 := G1.frozen 2
  simp only [List.getElem?_toArray, List.getElem?_cons_zero, List.getElem?_cons_succ] at c_G1_2
  have c_G1_3 := G1.cell 3
  have f_G1_3 := G1.frozen 3
  simp only [List.getElem?_toArray, List.getElem?_cons_zero, List.getElem?_cons_succ] at c_G1_3
  have c_G1_4 := G1.cell 4
  have f_G1_4 := G1.frozen 4
  simp only [List.getElem?_toArray, List.getElem?_cons_zero, List.getElem?_cons_succ] at c_G1_4
  have s_G1 := G1.lt
  refine wp_region_s [0, 0, 0, 0, 0, 0, 0, 1, 0, 0, 0, 0, 0, 0, 0, 1, 1, 1] (fun x => ∀ b ∈ [g5], x.heap[b]? = w1.heap[b]?) (by kernel_rfl) (by kernel_rfl) ?_
  refine hls_same (fun K hK => ?_)
  go_simp
  refine hK _ ?_
  clear hK K
  refine hls_same (fun K hK => ?_)
  go_simp
  refine hK _ ?_
  clear hK K
  refine hls_same (fun K hK => ?_)
  go_simp
  refine hK _ ?_
  clear hK K
  refine hls_same (fun K hK => ?_)
  go_simp
  refine hK _ ?_
  clear hK K
  refine hls_same (fun K hK => ?_)
  go_simp
  refine hK _ ?_
  clear hK K
  refine hls_same (fun K hK => ?_)
  go_simp
  refine hK _ ?_
  clear hK K
  refine hls_same (fun K hK => ?_)
  go_simp
  refine hK _ ?_
  clear hK K
  refine hls_skip (by decide) ?_
  refine hls_same (fun K hK => ?_)
  go_simp
  refine hK _ ?_
  clear hK K
  refine hls_same (fun K hK => ?_)
  go_simp
  refine hK _ ?_
  clear hK K
  refine hls_same (fun K hK => ?_)
  go_simp
  refine hK _ ?_
  clear hK K
  refine hls_same (fun K hK => ?_)
  go_simp
  refine hK _ ?_
  clear hK K
  refine hls_same (fun K hK => ?_)
  go_simp
  refine hK _ ?_
  clear hK K
  refine hls_same (fun K hK => ?_)
  go_simp
  refine hK _ ?_
  clear hK K
  refine hls_same (fun K hK => ?_)
  go_simp
  refine hK _ ?_
  clear hK K
  refine hls_skip (by decide) ?_
  refine hls_skip (by decide) ?_
  refine hls_skip (by decide) ?_
  refine hls_nil ?_
  intro w2 hxw2 K hK
  have G2 := G1.ext hxw2
  have D2 := D1.extR hxw2
  refine ms_pass ?_
  refine ms_pass ?_
  refine ms_pass ?_
  refine ms_pass ?_
  refine ms_pass ?_
  refine ms_pass ?_
  refine ms_pass ?_
  refine ms_do (by decide) (fun b hb => by simp at hb; subst hb; exact G2.trans G1.symm) (fun K' hK' => ?_)
  go_wp2_with fail
  refine (wadd_c ga Aa span grid r t l tick price qty it ip iq w2 D2.a hll).mono ?_
  rintro e w3 (⟨hb, rfl, hx3⟩ | ⟨hb, rfl, A3, hW3, hC3, hf3⟩)
  · have G3 := G2.ext hx3
    have D3 := D2.extR hx3
    go_wp2_with fail
    refine ms_pass ?_
    refine ms_pass ?_
    refine ms_pass ?_
    refine ms_pass ?_
    refine ms_pass ?_
    refine ms_pass ?_
    refine ms_pass ?_
    refine ms_do (by decide) (fun b hb => by simp at hb; subst hb; exact G3.trans G1.symm) (fun K' hK' => ?_)
    go_wp2_with fail
    refine (rwadd_c gb Ab span grid r t l tick price qty w3 D3.b hll).mono ?_
    rintro e w4 (⟨hb', rfl, hx4⟩ | ⟨hb', _⟩)
    · have G4 := G3.ext hx4
      have D4 := D3.extR hx4
      go_wp2_with fail
      refine ms_do (by decide) (fun b hb => by simp at hb; subst hb; exact G4.trans G1.symm) (fun K' hK' => ?_)
      go_wp2_with fail
      refine ms_do (by decide) (fun b hb => by simp at hb; subst hb; exact G4.trans G1.symm) (fun K' hK' => ?_)
      go_wp2_with fail
      refine ms_nil (fun b hb => by simp at hb; subst hb; exact G4.trans G1.symm) (hK _ _ ?_)
      go_wp2_with fail
      first | refine fin_ret rfl (fun K hK => ?_) | refine fin_norm rfl (fun K hK => ?_)
      simp [results, Try.results14, go_sem, rsat]
      try go_simp
      refine hK _ ?_
      clear hK K
      exact ⟨rfl, r, l, ⟨Aa, Ab, t, D4, hl⟩, hr, hs, by omega⟩
    · rw [hb] at hb'; cases hb'
  · have n3 : g5 ∉ ga :: ablk Aa := fun h => by
      rcases List.mem_cons.1 h with h1 | h1
      · omega
      · have := aal g5 h1; omega
    have G3 := hC3.at G2 n3
    have D3 := D2.stepa hW3 hC3 (fun k hk => (hf3 k hk).imp id id)
    go_wp2_with fail
    refine ms_pass ?_
    refine ms_pass ?_
    refine ms_pass ?_
    refine ms_pass ?_
    refine ms_pass ?_
    refine ms_pass ?_
    refine ms_pass ?_
    refine ms_do (by decide) (fun b hb => by simp at hb; subst hb; exact G3.trans G1.symm) (fun K' hK' => ?_)
    go_wp2_with fail
    refine (rwadd_c gb Ab span grid r t l tick price qty w3 D3.b hll).mono ?_
    rintro e w4 (⟨hb', _⟩ | ⟨hb', rfl, B4, hW4, hC4, hf4⟩)
    · rw [hb] at hb'; cases hb'
    · have G4 := hC4.at G3 (fun h => by rw [List.mem_singleton] at h; omega)
      have D4 := D3.stepb hW4 hC4 hf4
      obtain ⟨_, hlt⟩ := addB_ok hb
      obtain ⟨q1, q2⟩ := srt_app (p := price) (q := qty) hs hl hlt
      go_wp2_with fail
      refine ms_do (by decide) (fun b hb => by simp at hb; subst hb; exact G4.trans G1.symm) (fun K' hK' => ?_)
      go_wp2_with fail
      refine ms_do (by decide) (fun b hb => by simp at hb; subst hb; exact G4.trans G1.symm) (fun K' hK' => ?_)
      go_wp2_with fail
      refine ms_nil (fun b hb => by simp at hb; subst hb; exact G4.trans G1.symm) (hK _ _ ?_)
      go_wp2_with fail
      first | refine fin_ret rfl (fun K hK => ?_) | refine fin_norm rfl (fun K hK => ?_)
      simp [results, Try.results14, go_sem, rsat]
      try go_simp
      refine hK _ ?_
      clear hK K
      exact ⟨rfl, r, _, ⟨A3, B4, tick, D4, q2⟩, hr, q1, by rw [List.length_append]; simp; omega⟩
set_option maxHeartbeats 4000000 in
set_option maxRecDepth 100000 in
theorem act1_c (w0 w : World) (ga gb : Nat) (span grid r : Int) (n : Nat) (l : List Tr) (tick price qty bps : Int) (it : I64 tick) (ip : I64 price) (ib : I64 bps) (hsp : 1 ≤ span ∧ span ≤ 1099511627776) (hgr : 1 ≤ grid ∧ grid ≤ 1099511627776) (hB : Both w0 w ga gb span grid n r l) (hn : n < 1000) :
    Calls Try.prog 14 #[.pointer (some ⟨ga, 0, none⟩), .pointer (some ⟨gb, 0, none⟩), .agg #[.int .i64 1, .int .i64 tick, .int .i64 price, .int .i64 qty, .int .i64 bps]] w fun e w' => ActIs w0 ga gb span grid (n + 1) e w' := by
  obtain ⟨⟨Aa, Ab, t, D, hl⟩, hr, hs, hln⟩ := hB
  have gal := D.a.ex.choose_spec.1.lt
  have gbl := D.b.ex.choose_spec.1.lt
  have aal : ∀ k ∈ ablk Aa, k < w.heap.size := fun k hk => (D.a.alt k hk).1
  have hll : l.length ≤ 1000 := by omega
  have hok := D.a.ok
  go_enter Try.func14, Try.ntmps14
  go_wp2_with fail
  obtain ⟨w1, hw1⟩ : ∃ W, W = w.alloc (.cells #[.int .i64 1, .int .i64 tick, .int .i64 price, .int .i64 qty, .int .i64 bps] 39) := ⟨_, rfl⟩
  have G1 : At w1 w.heap.size 39 #[.int .i64 1, .int .i64 tick, .int .i64 price, .int .i64 qty, .int .i64 bps] := by rw [hw1]; exact At.new _ _ _
  have D1 : Duo w0 w1 ga gb Aa Ab span grid r r t t l l := by rw [hw1]; exact D.extR ((Ext.refl _).alloc _)
  try rw [← hw1]
  clear hw1
  generalize w.heap.size = g5 at *
  have n5 : g5 ∉ [ga] := fun h => by rw [List.mem_singleton] at h; omega
  refine (mean_c ga Aa span grid r t l tick it hsp hgr w1 D1.a hll).mono ?_
  rintro e w2 (⟨hc, rfl, hx2⟩ | ⟨hc, rfl, A2, hb2, hW2, hC2⟩)
  · have G2 := G1.ext hx2
    have D2 := D1.extR hx2
    have c_G2_0 := G2.cell 0
    have f_G2_0 := G2.frozen 0
    simp only [List.getElem?_toArray, List.getElem?_cons_zero, List.getElem?_cons_succ] at c_G2_0
    have c_G2_1 := G2.cell 1
    have f_G2_1 := G2.frozen 1
    simp only [List.getElem?_toArray, List.getElem?_cons_zero, List.getElem?_cons_succ] at c_G2_1
    have c_G2_2 := G2.cell 2
    have f_G2_2 := G2.frozen 2
    simp only [List.getElem?_toArray, List.getElem?_cons_zero, List.getElem?_cons_succ] at c_G2_2
    have c_G2_3 := G2.cell 3
    have f_G2_3 := G2.frozen 3
    simp only [List.getElem?_toArray, List.getElem?_cons_zero, List.getElem?_cons_succ] at c_G2_3
    have c_G2_4 := G2.cell 4
    have f_G2_4 := G2.frozen 4
    simp only [List.getElem?_toArray, List.getElem?_cons_zero, List.getElem?_cons_succ] at c_G2_4
    have s_G2 := G2.lt
    go_wp2_with fail
    refine (rmean_c gb Ab span grid r t l tick it hok hsp hgr w2 D2.b hll).mono ?_
    rintro e w3 (⟨hc', rfl, hx3⟩ | ⟨hc', _⟩)
    · go_wp2_with fail
      first | refine fin_ret rfl (fun K hK => ?_) | refine fin_norm rfl (fun K hK => ?_)
      simp [results, Try.results14, go_sem, rsat]
      try go_simp
      refine hK _ ?_
      clear hK K
      exact ⟨rfl, r, l, ⟨Aa, Ab, t, D2.extR hx3, hl⟩, hr, hs, by omega⟩
    · rw [hc] at hc'; cases hc'
  · have G2 := hC2.at G1 n5
    have D2 := D1.stepa hW2 (hC2.mono (fun k _ hk => by rw [List.mem_singleton.1 hk]; simp)) (fun k hk => .inl (by rw [hb2] at hk; exact hk))
    have hlt := (of_decide_eq_true hc).1
    obtain ⟨q1, q2⟩ := srt_drop (c := tick - span) hs hl hlt
    have hdl := drop_len (tick - span) l
    obtain ⟨N, B, hNB⟩ := meanR_is grid (dropT (tick - span) l)
    rw [hNB]
    have HNB := Lib.hid hNB
    clear hNB
    have c_G2_0 := G2.cell 0
    have f_G2_0 := G2.frozen 0
    simp only [List.getElem?_toArray, List.getElem?_cons_zero, List.getElem?_cons_succ] at c_G2_0
    have c_G2_1 := G2.cell 1
    have f_G2_1 := G2.frozen 1
    simp only [List.getElem?_toArray, List.getElem?_cons_zero, List.getElem?_cons_succ] at c_G2_1
    have c_G2_2 := G2.cell 2
    have f_G2_2 := G2.frozen 2
    simp only [List.getElem?_toArray, List.getElem?_cons_zero, List.getElem?_cons_succ] at c_G2_2
    have c_G2_3 := G2.cell 3
    have f_G2_3 := G2.frozen 3
    simp only [List.getElem?_toArray, List.getElem?_cons_zero, List.getElem?_cons_succ] at c_G2_3
    have c_G2_4 := G2.cell 4
    have f_G2_4 := G2.frozen 4
    simp only [List.getElem?_toArray, List.getElem?_cons_zero, List.getElem?_cons_succ] at c_G2_4
    have s_G2 := G2.lt
    go_wp2_with fail
    refine (rmean_c gb Ab span grid r t l tick it hok hsp hgr w2 D2.b hll).mono ?_
    rintro e w3 (⟨hc', _⟩ | ⟨_, rfl, B3, hW3, hC3, hf3⟩)
    · rw [hc] at hc'; cases hc'
    · rw [keep_drop hs] at hW3 ⊢
      rw [HNB.out]
      have D3 := D2.stepb hW3 hC3 hf3
      cases B
      all_goals
        go_wp2_with fail
        first | refine fin_ret rfl (fun K hK => ?_) | refine fin_norm rfl (fun K hK => ?_)
        simp [results, Try.results14, go_sem, rsat]
        try go_simp
        refine hK _ ?_
        clear hK K
        exact ⟨rfl, r, _, ⟨A2, B3, tick, D3, q2⟩, hr, q1, by omega⟩
set_option maxHeartbeats 4000000 in
set_option maxRecDepth 100000 in
theorem act2_c (w0 w : World) (ga gb : Nat) (span grid r : Int) (n : Nat) (l : List Tr) (tick price qty bps : Int) (it : I64 tick) (ip : I64 price) (ib : I64 bps) (hsp : 1 ≤ span ∧ span ≤ 1099511627776) (hgr : 1 ≤ grid ∧ grid ≤ 1099511627776) (hB : Both w0 w ga gb span grid n r l) (hn : n < 1000) :
    Calls Try.prog 14 #[.pointer (some ⟨ga, 0, none⟩), .pointer (some ⟨gb, 0, none⟩), .agg #[.int .i64 2, .int .i64 tick, .int .i64 price, .int .i64 qty, .int .i64 bps]] w fun e w' => ActIs w0 ga gb span grid (n + 1) e w' := by
  obtain ⟨⟨Aa, Ab, t, D, hl⟩, hr, hs, hln⟩ := hB
  have gal := D.a.ex.choose_spec.1.lt
  have gbl := D.b.ex.choose_spec.1.lt
  have aal : ∀ k ∈ ablk Aa, k < w.heap.size := fun k hk => (D.a.alt k hk).1
  have hll : l.length ≤ 1000 := by omega
  have hok := D.a.ok
  go_enter Try.func14, Try.ntmps14
  go_wp2_with fail
  obtain ⟨w1, hw1⟩ : ∃ W, W = w.alloc (.cells #[.int .i64 2, .int .i64 tick, .int .i64 price, .int .i64 qty, .int .i64 bps] 39) := ⟨_, rfl⟩
  have G1 : At w1 w.heap.size 39 #[.int .i64 2, .int .i64 tick, .int .i64 price, .int .i64 qty, .int .i64 bps] := by rw [hw1]; exact At.new _ _ _
  have D1 : Duo w0 w1 ga gb Aa Ab span grid r r t t l l := by rw [hw1]; exact D.extR ((Ext.refl _).alloc _)
  try rw [← hw1]
  clear hw1
  generalize w.heap.size = g5 at *
  have n5 : g5 ∉ [ga] := fun h => by rw [List.mem_singleton] at h; omega
  refine (roll_c ga Aa span grid r t l tick bps it ib hr hsp hgr w1 D1.a hll).mono ?_
  rintro e w2 (⟨hc, rfl, hx2⟩ | ⟨hc, rfl, A2, hb2, hW2, hC2⟩)
  · have G2 := G1.ext hx2
    have D2 := D1.extR hx2
    have c_G2_0 := G2.cell 0
    have f_G2_0 := G2.frozen 0
    simp only [List.getElem?_toArray, List.getElem?_cons_zero, List.getElem?_cons_succ] at c_G2_0
    have c_G2_1 := G2.cell 1
    have f_G2_1 := G2.frozen 1
    simp only [List.getElem?_toArray, List.getElem?_cons_zero, List.getElem?_cons_succ] at c_G2_1
    have c_G2_2 := G2.cell 2
    have f_G2_2 := G2.frozen 2
    simp only [List.getElem?_toArray, List.getElem?_cons_zero, List.getElem?_cons_succ] at c_G2_2
    have c_G2_3 := G2.cell 3
    have f_G2_3 := G2.frozen 3
    simp only [List.getElem?_toArray, List.getElem?_cons_zero, List.getElem?_cons_succ] at c_G2_3
    have c_G2_4 := G2.cell 4
    have f_G2_4 := G2.frozen 4
    simp only [List.getElem?_toArray, List.getElem?_cons_zero, List.getElem?_cons_succ] at c_G2_4
    have s_G2 := G2.lt
    go_wp2_with fail
    refine (rroll_c gb Ab span grid r t l tick bps it ib hr hok hsp hgr w2 D2.b hll).mono ?_
    rintro e w3 (⟨hc', rfl, hx3⟩ | ⟨hc', _⟩)
    · go_wp2_with fail
      first | refine fin_ret rfl (fun K hK => ?_) | refine fin_norm rfl (fun K hK => ?_)
      simp [results, Try.results14, go_sem, rsat]
      try go_simp
      refine hK _ ?_
      clear hK K
      exact ⟨rfl, r, l, ⟨Aa, Ab, t, D2.extR hx3, hl⟩, hr, hs, by omega⟩
    · rw [hc] at hc'; cases hc'
  · have G2 := hC2.at G1 n5
    have D2 := D1.stepa hW2 (hC2.mono (fun k _ hk => by rw [List.mem_singleton.1 hk]; simp)) (fun k hk => .inl (by rw [hb2] at hk; exact hk))
    have hlt := (of_decide_eq_true hc).1
    obtain ⟨q1, q2⟩ := srt_drop (c := tick - span) hs hl hlt
    have hdl := drop_len (tick - span) l
    have hrI : I64 (rollV grid r bps (dropT (tick - span) l)) := by
      unfold rollV
      split
      · rename_i hrb
        rcases hd : dropT (tick - span) l with _ | ⟨x, m⟩
        · rw [hd] at hrb; cases hrb
        · have := meanV_I64 hgr (l := x :: m) (by rw [← hd]; exact fun y hy => hok y ((drop_sub _ _).subset hy))
          exact ⟨by omega, by omega⟩
      · exact hr
    have c_G2_0 := G2.cell 0
    have f_G2_0 := G2.frozen 0
    simp only [List.getElem?_toArray, List.getElem?_cons_zero, List.getElem?_cons_succ] at c_G2_0
    have c_G2_1 := G2.cell 1
    have f_G2_1 := G2.frozen 1
    simp only [List.getElem?_toArray, List.getElem?_cons_zero, List.getElem?_cons_succ] at c_G2_1
    have c_G2_2 := G2.cell 2
    have f_G2_2 := G2.frozen 2
    simp only [List.getElem?_toArray, List.getElem?_cons_zero, List.getElem?_cons_succ] at c_G2_2
    have c_G2_3 := G2.cell 3
    have f_G2_3 := G2.frozen 3
    simp only [List.getElem?_toArray, List.getElem?_cons_zero, List.getElem?_cons_succ] at c_G2_3
    have c_G2_4 := G2.cell 4
    have f_G2_4 := G2.frozen 4
    simp only [List.getElem?_toArray, List.getElem?_cons_zero, List.getElem?_cons_succ] at c_G2_4
    have s_G2 := G2.lt
    obtain ⟨N, hN⟩ : ∃ N, N = rollV grid r bps (dropT (tick - span) l) := ⟨_, rfl⟩
    obtain ⟨B, hB⟩ : ∃ B, B = rollB grid r bps (dropT (tick - span) l) := ⟨_, rfl⟩
    rw [← hN] at D2 hrI
    rw [← hN, ← hB]
    have HN := Lib.hid hN
    have HB := Lib.hid hB
    clear hN hB
    go_wp2_with fail
    refine (rroll_c gb Ab span grid r t l tick bps it ib hr hok hsp hgr w2 D2.b hll).mono ?_
    rintro e w3 (⟨hc', _⟩ | ⟨_, rfl, B3, hW3, hC3, hf3⟩)
    · rw [hc] at hc'; cases hc'
    · rw [keep_drop hs] at hW3 ⊢
      rw [← HN.out] at hW3
      rw [← HN.out, ← HB.out]
      have D3 := D2.stepb hW3 hC3 hf3
      cases B
      all_goals
        go_wp2_with fail
        first | refine fin_ret rfl (fun K hK => ?_) | refine fin_norm rfl (fun K hK => ?_)
        simp [results, Try.results14, go_sem, rsat]
        try go_simp
        refine hK _ ?_
        clear hK K
        exact ⟨rfl, N, _, ⟨A2, B3, tick, D3, q2⟩, hrI, q1, by omega⟩
set_option maxHeartbeats 4000000 in
set_option maxRecDepth 100000 in
theorem act3_c (w0 w : World) (ga gb : Nat) (span grid r : Int) (n : Nat) (l : List Tr) (kind tick price qty bps : Int) (it : I64 tick) (ip : I64 price) (ib : I64 bps) (hsp : 1 ≤ span ∧ span ≤ 1099511627776) (hgr : 1 ≤ grid ∧ grid ≤ 1099511627776) (hB : Both w0 w ga gb span grid n r l) (hn : n < 1000) (h0 : kind ≠ 0) (h1 : kind ≠ 1) (h2 : kind ≠ 2) :
    Calls Try.prog 14 #[.pointer (some ⟨ga, 0, none⟩), .pointer (some ⟨gb, 0, none⟩), .agg #[.int .i64 kind, .int .i64 tick, .int .i64 price, .int .i64 qty, .int .i64 bps]] w fun e w' => ActIs w0 ga gb span grid (n + 1) e w' := by
  obtain ⟨⟨Aa, Ab, t, D, hl⟩, hr, hs, hln⟩ := hB
  have gal := D.a.ex.choose_spec.1.lt
  have gbl := D.b.ex.choose_spec.1.lt
  have aal : ∀ k ∈ ablk Aa, k < w.heap.size := fun k hk => (D.a.alt k hk).1
  have hll : l.length ≤ 1000 := by omega
  have hok := D.a.ok
  have e0 : (kind == 0) = false := beq_eq_false_iff_ne.2 h0
  have e1 : (kind == 1) = false := beq_eq_false_iff_ne.2 h1
  have e2 : (kind == 2) = false := beq_eq_false_iff_ne.2 h2
  clear h0 h1 h2
  go_enter Try.func14, Try.ntmps14
  go_wp2_with fail
  obtain ⟨w1, hw1⟩ : ∃ W, W = w.alloc (.cells #[.int .i64 kind, .int .i64 tick, .int .i64 price, .int .i64 qty, .int .i64 bps] 39) := ⟨_, rfl⟩
  have G1 : At w1 w.heap.size 39 #[.int .i64 kind, .int .i64 tick, .int .i64 price, .int .i64 qty, .int .i64 bps] := by rw [hw1]; exact At.new _ _ _
  have D1 : Duo w0 w1 ga gb Aa Ab span grid r r t t l l := by rw [hw1]; exact D.extR ((Ext.refl _).alloc _)
  try rw [← hw1]
  clear hw1
  generalize w.heap.size = g5 at *
  have n5 : g5 ∉ [ga] := fun h => by rw [List.mem_singleton] at h; omega
  have hgI : I64 grid := ⟨by omega, by omega⟩
  have c_G1_0 := G1.cell 0
  have f_G1_0 := G1.frozen 0
  simp only [List.getElem?_toArray, List.getElem?_cons_zero, List.getElem?_cons_succ] at c_G1_0
  have c_G1_1 := G1.cell 1
  have f_G1_1 := G1.frozen 1
  simp only [List.getElem?_toArray, List.getElem?_cons_zero, List.getElem?_cons_succ] at c_G1_1
  have c_G1_2 := G1.cell 2
  have f_G1_2 := G1.frozen 2
  simp only [List.getElem?_toArray, List.getElem?_cons_zero, List.getElem?_cons_succ] at c_G1_2
  have c_G1_3 := G1.cell 3
  have f_G1_3 := G1.frozen 3
  simp only [List.getElem?_toArray, List.getElem?_cons_zero, List.getElem?_cons_succ] at c_G1_3
  have c_G1_4 := G1.cell 4
  have f_G1_4 := G1.frozen 4
  simp only [List.getElem?_toArray, List.getElem?_cons_zero, List.getElem?_cons_succ] at c_G1_4
  have s_G1 := G1.lt
  refine wp_region_s [0, 0, 0, 1, 0, 0, 0, 1, 1, 1] (fun x => ∀ b ∈ [g5], x.heap[b]? = w1.heap[b]?) (by kernel_rfl) (by kernel_rfl) ?_
  refine hls_same (fun K hK => ?_)
  go_simp
  refine hK _ ?_
  clear hK K
  refine hls_same (fun K hK => ?_)
  go_simp
  refine hK _ ?_
  clear hK K
  refine hls_same (fun K hK => ?_)
  go_simp
  refine hK _ ?_
  clear hK K
  refine hls_skip (by decide) ?_
  refine hls_same (fun K hK => ?_)
  go_simp
  refine hK _ ?_
  clear hK K
  refine hls_same (fun K hK => ?_)
  go_simp
  refine hK _ ?_
  clear hK K
  refine hls_same (fun K hK => ?_)
  go_simp
  refine hK _ ?_
  clear hK K
  refine hls_skip (by decide) ?_
  refine hls_skip (by decide) ?_
  refine hls_skip (by decide) ?_
  refine hls_nil ?_
  intro w2 hxw2 K hK
  have G2 := G1.ext hxw2
  have D2 := D1.extR hxw2
  refine ms_pass ?_
  refine ms_pass ?_
  refine ms_pass ?_
  refine ms_do (by decide) (fun b hb => by simp at hb; subst hb; exact G2.trans G1.symm) (fun K' hK' => ?_)
  go_wp2_with fail
  refine (reset_c ga Aa span grid r t l price ip hgI w2 D2.a).mono ?_
  rintro e w3 (⟨hb, rfl, hx3⟩ | ⟨hb, rfl, hW3, hC3⟩)
  · have G3 := G2.ext hx3
    have D3 := D2.extR hx3
    go_wp2_with fail
    refine ms_pass ?_
    refine ms_pass ?_
    refine ms_pass ?_
    refine ms_do (by decide) (fun b hb => by simp at hb; subst hb; exact G3.trans G1.symm) (fun K' hK' => ?_)
    go_wp2_with fail
    refine (rreset_c gb Ab span grid r t l price ip hgI w3 D3.b).mono ?_
    rintro e w4 (⟨hb', rfl, hx4⟩ | ⟨hb', _⟩)
    · have G4 := G3.ext hx4
      have D4 := D3.extR hx4
      go_wp2_with fail
      refine ms_do (by decide) (fun b hb => by simp at hb; subst hb; exact G4.trans G1.symm) (fun K' hK' => ?_)
      go_wp2_with fail
      refine ms_do (by decide) (fun b hb => by simp at hb; subst hb; exact G4.trans G1.symm) (fun K' hK' => ?_)
      go_wp2_with fail
      refine ms_nil (fun b hb => by simp at hb; subst hb; exact G4.trans G1.symm) (hK _ _ ?_)
      go_wp2_with fail
      first | refine fin_ret rfl (fun K hK => ?_) | refine fin_norm rfl (fun K hK => ?_)
      simp [results, Try.results14, go_sem, rsat]
      try go_simp
      refine hK _ ?_
      clear hK K
      exact ⟨rfl, r, l, ⟨Aa, Ab, t, D4, hl⟩, hr, hs, by omega⟩
    · rw [hb] at hb'; cases hb'
  · have G3 := hC3.at G2 n5
    have D3 := D2.stepa hW3 (hC3.mono (fun k _ hk => by rw [List.mem_singleton.1 hk]; simp)) (fun k hk => by simp [ablk] at hk)
    go_wp2_with fail
    refine ms_pass ?_
    refine ms_pass ?_
    refine ms_pass ?_
    refine ms_do (by decide) (fun b hb => by simp at hb; subst hb; exact G3.trans G1.symm) (fun K' hK' => ?_)
    go_wp2_with fail
    refine (rreset_c gb Ab span grid r t l price ip hgI w3 D3.b).mono ?_
    rintro e w4 (⟨hb', _⟩ | ⟨hb', rfl, hW4, hC4⟩)
    · rw [hb] at hb'; cases hb'
    · have G4 := hC4.at G3 (fun h => by rw [List.mem_singleton] at h; omega)
      have D4 := D3.stepb hW4 hC4 (fun k hk => by simp [ablk] at hk)
      go_wp2_with fail
      refine ms_do (by decide) (fun b hb => by simp at hb; subst hb; exact G4.trans G1.symm) (fun K' hK' => ?_)
      go_wp2_with fail
      refine ms_do (by decide) (fun b hb => by simp at hb; subst hb; exact G4.trans G1.symm) (fun K' hK' => ?_)
      go_wp2_with fail
      refine ms_nil (fun b hb => by simp at hb; subst hb; exact G4.trans G1.symm) (hK _ _ ?_)
      go_wp2_with fail
      first | refine fin_ret rfl (fun K hK => ?_) | refine fin_norm rfl (fun K hK => ?_)
      simp [results, Try.results14, go_sem, rsat]
      try go_simp
      refine hK _ ?_
      clear hK K
      exact ⟨rfl, price, [], ⟨none, none, t, D4, by simp⟩, ip, .nil, by simp⟩
end Go.Proofs.Ytgjaiikfgejgoaa
