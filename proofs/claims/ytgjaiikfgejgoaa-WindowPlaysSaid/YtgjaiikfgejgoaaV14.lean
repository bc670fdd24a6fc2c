/- Law WindowPlays. No condition. -/
import Derived.Test.YtgjaiikfgejgoaaVB
import Derived.Test.YtgjaiikfgejgoaaFv
import Derived.Test.YtgjaiikfgejgoaaRp
import Derived.Test.YtgjaiikfgejgoaaMs
namespace Go.Proofs.Ytgjaiikfgejgoaa
open Go.RowKit Go.WideShapes Go.ChangeShapes Go.Deep Go.Joins
attribute [local go_sem] Later.cell QUpon_value QUpon_enter MUpon_value Same.cell
def Ac.cells (x : Ac) : List Value := [.int .i64 x.kind, .int .i64 x.tick, .int .i64 x.price, .int .i64 x.qty, .int .i64 x.bps]
instance : Inhabited Ac := ⟨⟨0, 0, 0, 0, 0⟩⟩
structure Acs where
  A : Option Addr
  c : Nat
  l : List Ac
def Acs.v (x : Acs) : Value := .slice x.A x.l.length x.c
structure Acs.At (x : Acs) (w : World) : Prop where
  lies : Lies Ac.cells 5 w x.A x.c x.l
  ok : ∀ m ∈ x.l, m.Ok
section
variable {H : Type} {enc : TypeId × Value → H} {w : World}
theorem trod_act (n : Nat) (cs : List Value) (y : DataW H × List MemPlace) (h : DataW.trod enc Try.prog w 0 (fun _ => true) true n 39 cs = some y) : ∃ m : Ac, cs = m.cells ∧ m.Ok := by
  obtain ⟨hl, hc⟩ := trod_intsI Try.underlying39 (by kernel_rfl) (by kernel_rfl) (by kernel_rfl) h
  have hl5 : cs.length = 5 := hl
  match cs, hl5 with
  | [c0, c1, c2, c3, c4], _ =>
    obtain ⟨a0, e0, i0⟩ := hc 0 (by decide)
    obtain ⟨a1, e1, i1⟩ := hc 1 (by decide)
    obtain ⟨a2, e2, i2⟩ := hc 2 (by decide)
    obtain ⟨a3, e3, i3⟩ := hc 3 (by decide)
    obtain ⟨a4, e4, i4⟩ := hc 4 (by decide)
    simp at e0 e1 e2 e3 e4
    subst e0 e1 e2 e3 e4
    exact ⟨⟨a0, a1, a2, a3, a4⟩, rfl, ⟨i0, i1, i2, i3, i4⟩⟩
theorem open_slaw19Act {r : Reach} {b0 : Nat} {v : Value} {d : DataW H} {p : List MemPlace} (hv : Value.okWide Try.prog w r b0 33 v) (h : DataW.Trod enc Try.prog w 0 (fun _ => true) true 33 v d p) (hlt : ∀ x ∈ p, x.block < w.heap.size) : ∃ x : Acs, v = x.v ∧ x.At w := by
  obtain ⟨A, c, l, h1, h2, h3⟩ := open_list' Ac.cells 5 (fun _ => rfl) (by decide) Ac.Ok Try.underlying33 (by kernel_rfl) trod_act hv h
  exact ⟨⟨A, c, l⟩, h1, h2, h3⟩
end
theorem act_c (x : Ac) (hx : x.Ok) (w0 w : World) (ga gb : Nat) (span grid r : Int) (n : Nat) (l : List Tr) (hsp : 1 ≤ span ∧ span ≤ 1099511627776) (hgr : 1 ≤ grid ∧ grid ≤ 1099511627776) (hB : Both w0 w ga gb span grid n r l) (hn : n < 1000) :
    Calls Try.prog 14 #[.pointer (some ⟨ga, 0, none⟩), .pointer (some ⟨gb, 0, none⟩), .agg #[.int .i64 x.kind, .int .i64 x.tick, .int .i64 x.price, .int .i64 x.qty, .int .i64 x.bps]] w fun e w' => ActIs w0 ga gb span grid (n + 1) e w' := by
  obtain ⟨kind, tick, price, qty, bps⟩ := x
  obtain ⟨_, it, ip, iq, ib⟩ := hx
  simp only at it ip iq ib ⊢
  by_cases h0 : kind = 0
  · subst h0; exact act0_c w0 w ga gb span grid r n l tick price qty bps it ip iq hB hn
  by_cases h1 : kind = 1
  · subst h1; exact act1_c w0 w ga gb span grid r n l tick price qty bps it ip ib hsp hgr hB hn
  by_cases h2 : kind = 2
  · subst h2; exact act2_c w0 w ga gb span grid r n l tick price qty bps it ip ib hsp hgr hB hn
  exact act3_c w0 w ga gb span grid r n l kind tick price qty bps it ip ib hsp hgr hB hn h0 h1 h2
theorem Both.extR {w0 w w' : World} {ga gb : Nat} {span grid r : Int} {n : Nat} {l : List Tr} (h : Both w0 w ga gb span grid n r l) (hx : Ext w w') : Both w0 w' ga gb span grid n r l :=
  let ⟨Aa, Ab, t, D, hl⟩ := h.duo
  ⟨⟨Aa, Ab, t, D.extR hx, hl⟩, h.ref, h.srt, h.len⟩
set_option maxHeartbeats 4000000 in
set_option maxRecDepth 100000 in
theorem windowplays_c (span grid start : Int) (x : Acs) (iS : I64 span) (iG : I64 grid) (iR : I64 start) (w : World) (h : x.At w) :
    Calls Try.prog 5 #[.int .i64 span, .int .i64 grid, .int .i64 start, x.v] w fun e w' => e = .returned (.bool true) ∧ Ext w w' := by
  obtain ⟨A, c, l⟩ := x
  unfold Acs.v
  obtain ⟨hL, hO⟩ := h
  simp only at hL hO ⊢
  have hlm : l.length ≤ 9223372036854775807 := by have := hL.le; have := hL.max; unfold maxLen at this; omega
  by_cases h100 : 100 < l.length
  ·
    go_enter Try.func5, Try.ntmps5
    go_wp2_with fail
    refine (alive_c _).mono ?_
    rintro e w1 ⟨rfl, hx1⟩
    go_wp2_with fail
    first | refine fin_ret rfl (fun K hK => ?_) | refine fin_norm rfl (fun K hK => ?_)
    simp [results, Try.results5, go_sem, rsat]
    try go_simp
    refine hK _ ?_
    clear hK K
    exact ⟨rfl, hx1⟩
  cases hb : newB span grid start
  ·
    go_enter Try.func5, Try.ntmps5
    go_wp2_with fail
    refine (new_c span grid start iS iG iR _).mono ?_
    rintro e w1 ⟨hx1, (⟨_, rfl⟩ | ⟨hb', _⟩)⟩
    · go_wp2_with fail
      refine (rnew_no span grid start iS iG iR _ hb).mono ?_
      rintro e w2 ⟨rfl, hx2⟩
      go_wp2_with fail
      refine (alive_c _).mono ?_
      rintro e w3 ⟨rfl, hx3⟩
      go_wp2_with fail
      first | refine fin_ret rfl (fun K hK => ?_) | refine fin_norm rfl (fun K hK => ?_)
      simp [results, Try.results5, go_sem, rsat]
      try go_simp
      refine hK _ ?_
      clear hK K
      exact ⟨rfl, (hx1.trans hx2).trans hx3⟩
    · rw [hb] at hb'; cases hb'
  · obtain ⟨hsp, hgr, hpr⟩ := newB_parts hb
    go_enter Try.func5, Try.ntmps5
    go_wp2_with fail
    refine (new_c span grid start iS iG iR _).mono ?_
    rintro e w1 ⟨hx1, (⟨hb', _⟩ | ⟨_, ga, hga, rfl, hA1⟩)⟩
    · rw [hb] at hb'; cases hb'
    go_wp2_with fail
    refine (rnew_yes span grid start iS iG iR _ hb).mono ?_
    rintro e w2 ⟨hx2, gb, hgb, rfl, hW2⟩
    have ga1 := hA1.lt
    have hW1 : Win w1 ga none span grid start 0 [] := ⟨by simp, by simp [ablk], 0, hA1, Row.nil _ _ _ _⟩
    have hD : Duo w w2 ga gb none none span grid start start 0 0 [] [] := ⟨hx1.trans hx2, hW1.ext hx2, hW2, hga, Nat.le_trans hx1.size hgb, by omega, by simp [ablk], by simp [ablk]⟩
    have hB : Both w w2 ga gb span grid 0 start [] := ⟨⟨none, none, 0, hD, by simp⟩, iR, .nil, by simp⟩
    clear hD hW1 hW2 hA1 hgb hga hb hpr
    go_wp2_with fail
    go_loopw [13] (fun i wr => ∃ (k : Nat) (r : Int) (tl : List Tr), i = .int .i64 k ∧ k ≤ l.length ∧ Both w wr ga gb span grid k r tl) (fun i _ => l.length - (intOf i).toNat)
    case atStart => exact ⟨0, start, [], rfl, by omega, hB⟩
    case round =>
      clear hB
      obtain ⟨k, r, tl, rfl, hk, HB⟩ := hrel
      by_cases hk1 : k < l.length
      · obtain ⟨ib, off, hA, hbl, hc⟩ := hL.cell (fun _ => rfl) (by decide) k hk1
        subst hA
        have hx := hO l[k] (List.getElem_mem hk1)
        have d0 := hc 0 (by decide)
        have d1 := hc 1 (by decide)
        have d2 := hc 2 (by decide)
        have d3 := hc 3 (by decide)
        have d4 := hc 4 (by decide)
        generalize l[k] = x at *
        simp only [Ac.cells, List.getElem?_cons_zero, List.getElem?_cons_succ, Nat.add_zero] at d0 d1 d2 d3 d4
        clear hc
        obtain ⟨Aa, Ab, t, D, htl⟩ := HB.duo
        have hxr := D.ext
        have hbr := Nat.lt_of_lt_of_le hbl hxr.size
        have e0 := (hxr.facts.1 _ _ hbl).trans d0
        have e1 := (hxr.facts.1 _ _ hbl).trans d1
        have e2 := (hxr.facts.1 _ _ hbl).trans d2
        have e3 := (hxr.facts.1 _ _ hbl).trans d3
        have e4 := (hxr.facts.1 _ _ hbl).trans d4
        go_wp2_with fail
        refine wp_region_q [(0, false), (1, false), (2, false), (3, false), (4, false), (5, false), (6, true), (7, false), (8, false), (9, false), (10, false), (11, false), (12, false), (13, false), (14, false), (15, false), (16, false), (17, false), (18, false), (19, false), (20, false), (21, false), (22, false), (23, false), (24, false), (25, false), (26, false)] (fun x => ∀ b ∈ [ib], x.heap[b]? = wr.heap[b]?) (by kernel_rfl) (by kernel_rfl) (fun x hx b hb => hx.block b (by first | (rw [List.mem_singleton.1 hb]; assumption) | (simp at hb; omega))) ?_
        intro Qy hQy
        refine pw_same (by rfl) (fun K hK => ?_)
        go_simp
        refine hK _ ?_
        clear hK K
        refine pw_same (by rfl) (fun K hK => ?_)
        go_simp
        refine hK _ ?_
        clear hK K
        refine pw_same (by rfl) (fun K hK => ?_)
        go_simp
        refine hK _ ?_
        clear hK K
        refine pw_same (by rfl) (fun K hK => ?_)
        go_simp
        refine hK _ ?_
        clear hK K
        refine pw_same (by rfl) (fun K hK => ?_)
        go_simp
        refine hK _ ?_
        clear hK K
        refine pw_same (by rfl) (fun K hK => ?_)
        go_simp
        refine hK _ ?_
        clear hK K
        refine pw_main (by rfl) (fun w3 hxw3 K' hK' => ?_)
        go_wp2_with fail
        refine (act_c x hx w w3 ga gb span grid r k tl hsp hgr (HB.extR hxw3) (by omega)).mono ?_
        rintro e w4 ⟨rfl, r', tl', HB4⟩
        obtain ⟨Aa', Ab', t', D4, htl'⟩ := HB4.duo
        obtain ⟨_, cb, hAb, _⟩ := D4.b
        have c2 : w4.cell? ⟨gb, 2, none⟩ = some (.int .i64 r') := hAb.cell 2
        have c4 : w4.cell? ⟨gb, 4, none⟩ = some (.slice Ab' tl'.length cb) := hAb.cell 4
        have gbl := hAb.lt
        clear e0 e1 e2 e3 e4 d0 d1 d2 d3 d4
        go_wp2_with fail
        refine hK' _ _ (fun x => Ext w4 x) (fun y hy b' hb' => by rw [List.mem_singleton.1 hb']; exact ((D4.ext.trans hy).block ib hbl).trans (hxr.block ib hbl).symm) (fun y hy => hy) ?_
        refine pw_later (by rfl) (fun K hK => ?_)
        go_simp
        refine hK _ ?_
        clear hK K
        refine pw_later (by rfl) (fun K hK => ?_)
        go_simp
        refine hK _ ?_
        clear hK K
        refine pw_later (by rfl) (fun K hK => ?_)
        go_simp
        refine hK _ ?_
        clear hK K
        refine pw_later (by rfl) (fun K hK => ?_)
        go_simp
        first
          | (refine hK _ ?_; clear hK K)
          | (apply Exists.intro; refine ⟨fun x => ?_, hK _ ?_⟩
             · (exact ref_c ga Aa' span grid r' t' tl' _ (D4.a.ext x.2))
             clear hK K)
        refine pw_later (by rfl) (fun K hK => ?_)
        go_simp
        refine hK _ ?_
        clear hK K
        refine pw_later (by rfl) (fun K hK => ?_)
        go_simp
        refine hK _ ?_
        clear hK K
        refine pw_later (by rfl) (fun K hK => ?_)
        go_simp
        refine hK _ ?_
        clear hK K
        refine pw_later (by rfl) (fun K hK => ?_)
        go_simp
        refine hK _ ?_
        clear hK K
        refine pw_later (by rfl) (fun K hK => ?_)
        go_simp
        refine hK _ ?_
        clear hK K
        refine pw_later (by rfl) (fun K hK => ?_)
        go_simp
        refine hK _ ?_
        clear hK K
        refine pw_later (by rfl) (fun K hK => ?_)
        go_simp
        refine hK _ ?_
        clear hK K
        refine pw_later (by rfl) (fun K hK => ?_)
        go_simp
        refine hK _ ?_
        clear hK K
        refine pw_later (by rfl) (fun K hK => ?_)
        go_simp
        first
          | (refine hK _ ?_; clear hK K)
          | (apply Exists.intro; refine ⟨fun x => ?_, hK _ ?_⟩
             · (exact len_w ga Aa' span grid r' t' tl' _ (D4.a.ext x.2))
             clear hK K)
        refine pw_later (by rfl) (fun K hK => ?_)
        go_simp
        refine hK _ ?_
        clear hK K
        refine pw_later (by rfl) (fun K hK => ?_)
        go_simp
        refine hK _ ?_
        clear hK K
        refine pw_later (by rfl) (fun K hK => ?_)
        go_simp
        refine hK _ ?_
        clear hK K
        refine pw_later (by rfl) (fun K hK => ?_)
        go_simp
        refine hK _ ?_
        clear hK K
        refine pw_later (by rfl) (fun K hK => ?_)
        go_simp
        refine hK _ ?_
        clear hK K
        refine pw_later (by rfl) (fun K hK => ?_)
        go_simp
        refine hK _ ?_
        clear hK K
        refine pw_later (by rfl) (fun K hK => ?_)
        go_simp
        refine hK _ ?_
        clear hK K
        refine pw_nil (fun w5 hxw5 => ?_)
        refine hQy _ _ ?_
        go_wp2_with fail
        go_roundw
        case rel => exact ⟨k + 1, r', tl', by go_num, by omega, HB4.extR hxw5⟩
        case measure => simp [intOf]; omega
      · obtain rfl : k = l.length := by omega
        obtain ⟨Aa, Ab, t, D, htl⟩ := HB.duo
        have hxr := D.ext
        clear hk1
        go_wp2_with fail
        refine (alive_c _).mono ?_
        rintro e w3 ⟨rfl, hx3⟩
        go_wp2_with fail
        first | refine fin_ret rfl (fun K hK => ?_) | refine fin_norm rfl (fun K hK => ?_)
        simp [results, Try.results5, go_sem, rsat]
        try go_simp
        refine hK _ ?_
        clear hK K
        exact ⟨rfl, hxr.trans hx3⟩
end Go.Proofs.Ytgjaiikfgejgoaa
