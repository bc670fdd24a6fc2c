/- Law FrameCuts. No condition. -/
import Derived.Test.YthhgkmdjplancaaJ3
import Derived.Test.YthhgkmdjplancaaFq
namespace Go.Proofs.Ythhgkmdjplancaa
open Go.RowKit
attribute [local go_sem] Later.cell QUpon_value QUpon_enter MUpon_value run_eql_slice_nil
theorem Chg.extOfJ {w0 a b : World} {m : List Nat} (h : Chg a b m) (hx : Ext w0 a) (hm : ∀ i ∈ m, w0.heap.size ≤ i) : Ext w0 b := (Chg.step (Chg.of_ext hx []) h (fun i hi => .inr (hm i hi))).ext (by simp)
/-- Amid the cuts: the stream that is left, the joiner, what came out. -/
structure CutAt (w wr : World) (g : Nat) (AA : Option Addr) (ca : Nat) (rs : List Int) (Aj : Option Addr) (bs : List Int) (B : Option Addr) (d : Nat) (o : List Bs) : Prop where
  ext : Ext w wr
  gw : w.heap.size ≤ g
  all : Row wr 5 1 AA rs.length ca (bc rs)
  alt : ∀ k ∈ ablk AA, w.heap.size ≤ k ∧ k < g
  byt : Byt rs
  jn : Jn wr g Aj bs 0
  jnew : ∀ k ∈ ablk Aj, g < k
  out : OwnB w wr B d o
  onew : ∀ k ∈ ablk B, g < k
  oraw : ∀ p ∈ o, ∀ k ∈ ablk p.A, g < k
  sep1 : ∀ k ∈ ablk Aj, k ∉ ablk B
  sep2 : ∀ p ∈ o, ∀ k ∈ ablk p.A, k ∉ ablk Aj
/-- Behind Add. -/
structure CutMid (w wr w4 : World) (g : Nat) (AA : Option Addr) (ca : Nat) (rs : List Int) (Aj : Option Addr) (bs : List Int) (B : Option Addr) (d : Nat) (o : List Bs) (T : List (List Int)) (bs' : List Int) (B' : Option Addr) (d' : Nat) (l : List Bs) (A' : Option Addr) : Prop where
  was : CutAt w wr g AA ca rs Aj bs B d o
  res : OwnB wr w4 B' d' l
  raw : ∀ p ∈ l, ∀ k ∈ ablk p.A, wr.heap.size ≤ k
  xs : l.map Bs.xs = T
  jn : Jn w4 g A' bs' 0
  new : ∀ k ∈ ablk A', k ∈ ablk Aj ∨ wr.heap.size ≤ k
  far : ∀ k ∈ ablk A', k ∉ ablk B'
  rfar : ∀ p ∈ l, ∀ k ∈ ablk p.A, k ∉ ablk A'
  out : OwnB w w4 B d o
  chg : Chg wr w4 (g :: ablk Aj)
theorem CutAt.add {w wr w4 : World} {g : Nat} {AA Aj B : Option Addr} {ca d : Nat} {rs bs : List Int} {o : List Bs} {e : Ending} {T : List (List Int)} {bs' : List Int} (h : CutAt w wr g AA ca rs Aj bs B d o) (hA : AddIs wr g Aj (T, bs', 0) e w4) :
    ∃ B' d' l A', e = .returned (.slice B' l.length d') ∧ CutMid w wr w4 g AA ca rs Aj bs B d o T bs' B' d' l A' := by
  obtain ⟨⟨B', d', l, A', rfl, h1, h2, h3, h4, h5, h6, h7⟩, hC⟩ := hA
  refine ⟨B', d', l, A', rfl, h, h1, h2, h3, h4, h5, h6, h7, h.out.chg hC (fun k hk h8 => ?_) (fun p hp k hk h8 => ?_), hC⟩
  · rcases List.mem_cons.1 hk with rfl | hk
    · exact absurd (h.onew _ h8) (Nat.lt_irrefl _)
    · exact h.sep1 k hk h8
  · rcases List.mem_cons.1 h8 with rfl | h8
    · exact absurd (h.oraw p hp _ hk) (Nat.lt_irrefl _)
    · exact h.sep2 p hp k hk h8
theorem CutMid.app {w wr w4 w5 : World} {g : Nat} {AA Aj B B' A' B5 : Option Addr} {ca d d' d5 n k : Nat} {rs bs bs' : List Int} {o l : List Bs} {T : List (List Int)} {ys : List Value} (h : CutMid w wr w4 g AA ca rs Aj bs B d o T bs' B' d' l A') (hC : Chg w4 w5 (ablk B)) (hR : Row w5 22 1 B5 (n + k) d5 (o.map Bs.v ++ ys)) (hn' : n = o.length) (hk : k = l.length) (hys : ys = l.map Bs.v) (hn : ∀ k ∈ ablk B5, k ∈ ablk B ∨ (w4.heap.size ≤ k ∧ k < w5.heap.size)) : CutAt w w5 g AA ca rs A' bs' B5 d5 (o ++ l) := by
  have s0 := h.was.ext.size
  have s1 := h.chg.size
  have gl := h.was.jn.lt
  have jnl : ∀ k ∈ ablk A', g < k ∧ k ∉ ablk B ∧ k < w4.heap.size := fun k hk => by
    have := h.jn.alt k hk
    rcases h.new k hk with h1 | h1
    · exact ⟨h.was.jnew k h1, h.was.sep1 k h1, this.1⟩
    · exact ⟨by omega, fun h2 => by have := (h.was.out.new k h2).2; omega, this.1⟩
  have gB : g ∉ ablk B := fun h1 => absurd (h.was.onew _ h1) (Nat.lt_irrefl _)
  have rawl : ∀ p ∈ l, ∀ k ∈ ablk p.A, k < w4.heap.size ∧ k ∉ ablk B := fun p hp k hk => ⟨(h.res.raw p hp k hk).1, fun h2 => by have := (h.was.out.new k h2).2; have := h.raw p hp k hk; omega⟩
  refine ⟨hC.extOfJ (h.chg.extOfJ h.was.ext (fun i hi => ?_)) (fun i hi => (h.was.out.new i hi).1), h.was.gw, (h.was.all.chg h.chg (fun k hk h1 => ?_)).chg hC (fun k hk h1 => ?_), h.was.alt, h.was.byt, h.jn.chg hC gB (fun k hk => (jnl k hk).2.1), fun k hk => (jnl k hk).1, h.out.app h.res.ok rawl hC hR hn' hk hys hn (by omega), fun k hk => ?_, fun p hp k hk => ?_, fun k hk h1 => ?_, fun p hp k hk h1 => ?_⟩
  · rcases List.mem_cons.1 hi with rfl | hi
    · exact h.was.gw
    · have := h.was.jnew i hi; have := h.was.gw; omega
  · have := (h.was.alt k hk).2
    rcases List.mem_cons.1 h1 with rfl | h1
    · omega
    · have := h.was.jnew k h1; omega
  · have := (h.was.alt k hk).2
    have := h.was.onew k h1; omega
  · rcases hn k hk with h1 | h1
    · exact h.was.onew k h1
    · omega
  · rcases List.mem_append.1 hp with hp | hp
    · exact h.was.oraw p hp k hk
    · have := h.raw p hp k hk; omega
  · rcases hn k h1 with h2 | h2
    · exact (jnl k hk).2.1 h2
    · have := (jnl k hk).2.2; omega
  · rcases List.mem_append.1 hp with hp | hp
    · rcases h.new k h1 with h2 | h2
      · exact h.was.sep2 p hp k hk h2
      · have := (h.was.out.raw p hp k hk).1; omega
    · exact h.rfar p hp k hk h1
theorem CutAt.rest {w wr : World} {g : Nat} {AA Aj B : Option Addr} {ca d : Nat} {rs bs : List Int} {o : List Bs} (h : CutAt w wr g AA ca rs Aj bs B d o) {n : Nat} (hn : n ≤ rs.length) : CutAt w wr g (cutA AA ca n 1) (ca - n) (rs.drop n) Aj bs B d o := by
  have hR := h.all.dropN hn
  rw [Nat.mul_one] at hR
  refine ⟨h.ext, h.gw, ?_, fun k hk => h.alt k (by rw [ablk_cut] at hk; exact hk), fun x hx => h.byt x (List.mem_of_mem_drop hx), h.jn, h.jnew, h.out, h.onew, h.oraw, h.sep1, h.sep2⟩
  rw [List.length_drop, show bc (rs.drop n) = (bc rs).drop n from List.map_drop]
  exact hR
/-- The bytes ahead. -/
theorem CutAt.head {w wr : World} {g : Nat} {AA Aj B : Option Addr} {ca d : Nat} {rs bs : List Int} {o : List Bs} (h : CutAt w wr g AA ca rs Aj bs B d o) {n : Nat} (hn : n ≤ rs.length) : (⟨AA, ca, rs.take n⟩ : Bs).At wr := by
  have hR := h.all.takeN hn
  rw [Nat.mul_one] at hR
  have hl : (rs.take n).length = n := by rw [List.length_take]; omega
  refine ⟨by rw [hl]; exact hR.le, hR.max, ?_, fun x hx => h.byt x (List.mem_of_mem_take hx)⟩
  rw [hl, show bc (rs.take n) = (bc rs).take n from List.map_take]
  exact hR.src
theorem fput_big (A : Option Addr) (n c : Nat) (h : 64 < n) (w : World) : Calls Try.prog 8 #[.slice A n c] w fun e w' => e = .returned (.tuple #[.slice none 0 0, .int .i64 9]) ∧ Ext w w' := by
  have h1 : (64 : Int) < (n : Int) := by omega
  go_enter Try.func8, Try.ntmps8
  go_wp2_with fail
  first | refine fin_ret rfl (fun K hK => ?_) | refine fin_norm rfl (fun K hK => ?_)
  simp [results, Try.results8, go_sem, rsat]
  try go_simp
  refine hK _ ?_
  clear hK K
  exact ⟨rfl, (by repeat (first | (with_reducible exact Ext.refl _) | (with_reducible assumption) | (with_reducible refine Ext.alloc ?_ _) | (with_reducible refine Ext.drew ?_) | (with_reducible refine Ext.drewN ?_ _) | (with_reducible refine Ext.setCell ?_ (by simp; try omega) _) | (with_reducible refine Ext.setRow ?_ (by simp; try omega) _)))⟩
set_option maxHeartbeats 8000000 in
set_option maxRecDepth 100000 in
theorem framecuts_c (x : Bl) (s : Sl) (w : World) (hx : x.At w) (hs : s.At .i64 w) : Calls Try.prog 6 #[x.v, s.v] w fun e w' => e = .returned (.bool true) ∧ Ext w w' := by
  have HA := Lib.hid alive_c4
  obtain ⟨A, c, l⟩ := x
  obtain ⟨SA, sc, ss⟩ := s
  unfold Bl.v Sl.v
  have hlm : l.length ≤ 9223372036854775807 := by have := hx.le; have := hx.max; unfold maxLen at this; simp only at *; omega
  have hsm : ss.length ≤ 9223372036854775807 := by have := hs.le; have := hs.max; unfold maxLen at this; simp only at *; omega
  simp only at hlm hsm ⊢
  by_cases k0 : 20 < l.length
  · have k1 : (20 : Int) < (l.length : Int) := by omega
    clear hx hs k0
    go_enter Try.func6, Try.ntmps6
    go_wp2_with fail
    refine (HA.out _).mono ?_
    rintro e w1 ⟨rfl, hx1⟩
    go_wp2_with fail
    first | refine fin_ret rfl (fun K hK => ?_) | refine fin_norm rfl (fun K hK => ?_)
    simp [results, Try.results6, go_sem, rsat]
    try go_simp
    refine hK _ ?_
    clear hK K
    exact ⟨rfl, hx1⟩
  have k1 : ¬ (20 : Int) < (l.length : Int) := by omega
  by_cases k2 : 20 < ss.length
  · have k3 : (20 : Int) < (ss.length : Int) := by omega
    clear hx hs k0 k2
    go_enter Try.func6, Try.ntmps6
    go_wp2_with fail
    refine (HA.out _).mono ?_
    rintro e w1 ⟨rfl, hx1⟩
    go_wp2_with fail
    first | refine fin_ret rfl (fun K hK => ?_) | refine fin_norm rfl (fun K hK => ?_)
    simp [results, Try.results6, go_sem, rsat]
    try go_simp
    refine hK _ ?_
    clear hK K
    exact ⟨rfl, hx1⟩
  have k3 : ¬ (20 : Int) < (ss.length : Int) := by omega
  have hbytl : ∀ p ∈ l.map Bs.xs, Byt p := fun p hp => by
    obtain ⟨q, hq, rfl⟩ := List.mem_map.1 hp
    exact (hx.ok q hq).byt
  go_enter Try.func6, Try.ntmps6
  go_wp2_with fail
  go_loopw [5, 6] (fun a i wr => ∃ (k : Nat) (AA : Option Addr) (ca : Nat), i = .int .i64 k ∧ k ≤ l.length ∧ a = .slice AA (stream ((l.map Bs.xs).take k)).length ca ∧ Own w wr a (stream ((l.map Bs.xs).take k)) ∧ Ext w wr ∧ (∀ p ∈ (l.map Bs.xs).take k, p.length ≤ 64)) (fun _ i _ => l.length - (intOf i).toNat)
  case atStart => exact ⟨0, none, 0, rfl, by omega, rfl, Own.nil _ _, Ext.refl _, by simp⟩
  case round =>
    obtain ⟨k, AA, ca, rfl, hk, rfl, O, hxw, hsm'⟩ := hrel
    by_cases hlt : k < l.length
    · obtain ⟨b, off, hA, hb, hc⟩ := hx.cell (by simp only; omega)
      simp only at hA hc
      subst hA
      have a0 := (hxw.facts.1 _ _ hb).trans (hc k hlt)
      have pok := hx.ok l[k] (List.getElem_mem _)
      have htk : (l.map Bs.xs).take (k + 1) = (l.map Bs.xs).take k ++ [l[k].xs] := by
        rw [List.take_succ_eq_append_getElem (by simpa using hlt)]; simp
      generalize l[k] = p at a0 pok htk
      obtain ⟨RA, Rc, rx⟩ := p
      have hbr : b < wr.heap.size := Nat.lt_of_lt_of_le hb hxw.size
      have psr := pok.src.ext hxw
      have pby := pok.byt
      have pln := pok.len
      unfold maxLen at pln
      simp only [Bs.v] at a0 psr pby htk pln
      have hsl := stream_len hsm'
      have htl : ((l.map Bs.xs).take k).length ≤ 20 := by rw [List.length_take]; simp; omega
      have HTK := Lib.hid htk
      have HSM := Lib.hid hsm'
      have HC := Lib.hid hc
      have HB := Lib.hid hbytl
      obtain ⟨st, hst⟩ : ∃ st, st = stream ((l.map Bs.xs).take k) := ⟨_, rfl⟩
      rw [← hst] at O hsl ⊢
      have HST := Lib.hid hst
      clear htk hsm' hc hbytl hst pok
      by_cases h64 : rx.length ≤ 64
      · have C := fput_c RA Rc rx pby (by omega) wr psr
        unfold PutIs at C
        rw [show putF rx = 0 from if_pos h64, show putL rx = frB rx from if_pos h64] at C
        have HC2 := Lib.hid C
        have HFL := Lib.hid (frB_len rx)
        have k64 : ¬ (64 : Int) < (rx.length : Int) := by omega
        clear C
        go_wp2_with fail
        refine HC2.out.mono ?_
        rintro e w1 ⟨hx1, v, rfl, A1, c1, rfl, R1, F1⟩
        have a1 := (hx1.facts.1 _ _ hbr).trans a0
        have hb1 : b < w1.heap.size := Nat.lt_of_lt_of_le hbr hx1.size
        have O1 := O.ext hx1
        obtain ⟨_, Q1, G1⟩ := O1.open_
        rw [HFL.out] at R1
        simp only [HFL.out]
        go_wp2_with (at_builtin; refine wpList_rowcat rfl _ _ 22 5 1 1 (.int .u8 0) rfl Try.underlying22 u8Info rfl (by decide) _ _ _ _ _ rfl Q1 _ _ _ _ rfl R1.src (bc_one _) (by unfold maxLen; omega) (by omega) ?_)
        intro A2 c2 w2 R2 C2 f2
        obtain ⟨P2, y2⟩ := Own.app2 (ns := frB rx) O1 (hxw.trans hx1) (Ext.refl _) C2 R2 HFL.out.symm rfl f2
        clear a1 hb1 a0 hbr
        go_wp2_with fail
        go_roundw
        case rel =>
          have e : stream ((l.map Bs.xs).take (k + 1)) = st ++ frB rx := by rw [HTK.out, HST.out]; unfold stream; rw [List.flatMap_append]; simp
          refine ⟨k + 1, A2, c2, by go_num, by omega, by rw [e, List.length_append, HFL.out], ?_, y2, fun q hq => ?_⟩
          · rw [e]; exact P2
          · rw [HTK.out] at hq
            rcases List.mem_append.1 hq with h1 | h1
            · exact HSM.out q h1
            · rw [List.mem_singleton.1 h1]; exact h64
        case measure => simp [intOf]; omega
      · have C := fput_big RA rx.length Rc (by omega)
        have HC2 := Lib.hid C
        have k64 : (64 : Int) < (rx.length : Int) := by omega
        clear C
        go_wp2_with fail
        refine (HC2.out _).mono ?_
        rintro e w1 ⟨rfl, hx1⟩
        have a1 := (hx1.facts.1 _ _ hbr).trans a0
        have hb1 : b < w1.heap.size := Nat.lt_of_lt_of_le hbr hx1.size
        go_wp2_with fail
        refine (HA.out _).mono ?_
        rintro e w2 ⟨rfl, hx2⟩
        go_wp2_with fail
        first | refine fin_ret rfl (fun K hK => ?_) | refine fin_norm rfl (fun K hK => ?_)
        simp [results, Try.results6, go_sem, rsat]
        try go_simp
        refine hK _ ?_
        clear hK K
        exact ⟨rfl, (hxw.trans hx1).trans hx2⟩
    · obtain rfl : k = l.length := by omega
      rw [List.take_of_length_le (by simp)] at O hsm'
      obtain ⟨ls, hls⟩ : ∃ ls, ls = l.map Bs.xs := ⟨_, rfl⟩
      rw [← hls] at O hsm' hbytl
      rw [List.take_of_length_le (by simp), ← hls]
      have hlen20 : ls.length ≤ 20 := by rw [hls]; simp; omega
      have hsl := stream_len hsm'
      have hby := stream_byt hbytl
      have HLS := Lib.hid hls
      have HSM := Lib.hid hsm'
      obtain ⟨st, hst⟩ : ∃ st, st = stream ls := ⟨_, rfl⟩
      rw [← hst] at O hsl hby ⊢
      have HST := Lib.hid hst
      clear hls hsm' hst hbytl
      obtain ⟨_, R0, F0⟩ := O.open_
      clear O
      go_wp2_with fail
      have J0 : CutAt w (wr.alloc (.cells #[.slice none 0 0, .int .i64 0] 39)) wr.heap.size AA ca st none [] none 0 [] :=
        ⟨hxw.alloc _, hxw.size, R0.alloc _, F0, hby, ⟨fun y hy => (by cases hy), by simp [ablk], 0, At.new _ _ _, Row.nil _ _ _ _⟩, by simp [ablk], OwnB.nil _ _, by simp [ablk], by simp, by simp [ablk], by simp⟩
      generalize wr.alloc (.cells #[.slice none 0 0, .int .i64 0] 39) = w1 at J0 ⊢
      generalize wr.heap.size = g at J0 ⊢
      clear R0 F0 hxw hby
      go_loopw [5, 10, 11] (fun a o i wr => ∃ (k : Nat) (AA : Option Addr) (ca : Nat) (rs : List Int) (Aj : Option Addr) (bs : List Int) (B : Option Addr) (d : Nat) (ol : List Bs) (todo : List (List Int)), i = .int .i64 k ∧ k ≤ ss.length ∧ a = .slice AA rs.length ca ∧ o = .slice B ol.length d ∧ CutAt w wr g AA ca rs Aj bs B d ol ∧ rs.length ≤ 1400 ∧ bs.length ≤ 1400 ∧ ol.length ≤ 20 ∧ Hid (ls = ol.map Bs.xs ++ todo) ∧ Hid (bs ++ rs = stream todo)) (fun _ _ i _ => ss.length - (intOf i).toNat)
      case atStart => exact ⟨0, AA, ca, st, none, [], none, 0, [], ls, rfl, by omega, rfl, rfl, J0, by omega, by simp, by simp, Lib.hid rfl, Lib.hid HST.out⟩
      case round =>
        clear J0
        obtain ⟨k, AA, ca, rs, Aj, bs, B, d, ol, todo, rfl, hk, rfl, rfl, J, hrl, hbl, hol, H1, H2⟩ := hrel
        have hsm2 : ∀ p ∈ todo, p.length ≤ 64 := fun p hp => HSM.out p (by rw [H1.out]; exact List.mem_append.2 (.inr hp))
        have htl : ol.length + todo.length ≤ 20 := by have := congrArg List.length H1.out; simp at this; omega
        have hst := stream_len hsm2
        by_cases hlt : k < ss.length
        · obtain ⟨b, off, hA, hb, hc⟩ := hs.cells (by simp only; omega)
          simp only at hA hc
          subst hA
          have a0 := (J.ext.facts.1 _ _ hb).trans (hc k hlt)
          rw [List.getElem?_eq_getElem hlt, Option.getD_some] at a0
          have hbr : b < wr.heap.size := Nat.lt_of_lt_of_le hb J.ext.size
          generalize ss[k] = q at a0
          obtain ⟨n, hn⟩ : ∃ n : Nat, n = min (max q 0).toNat rs.length := ⟨_, rfl⟩
          have hnl : n ≤ rs.length := by omega
          have HN := Lib.hid hn
          have hjp : bs ++ (rs.take n ++ rs.drop n) = stream todo := by rw [List.take_append_drop]; exact H2.out
          obtain ⟨T, todo', rest, j1, j2, j3⟩ := join_pre hsm2 hjp
          have hca := J.all.le
          have hcm := J.all.max
          unfold maxLen at hcm
          have C := add_c g Aj bs ⟨AA, ca, rs.take n⟩ (by simp only [List.length_take]; omega) wr J.jn (J.head hnl)
          rw [j1] at C
          simp only [Bs.v, List.length_take, Nat.min_eq_left hnl] at C
          have hT : ol.length + T.length + todo'.length ≤ 20 := by rw [j2] at htl; simp at htl; omega
          have hrest : rest.length ≤ 1400 := by have := congrArg List.length j3; have := stream_len (l := todo') (fun p hp => hsm2 p (by rw [j2]; exact List.mem_append.2 (.inr hp))); simp at *; omega
          have H1' : Hid (ls = ol.map Bs.xs ++ (T ++ todo')) := Lib.hid (by rw [← j2]; exact H1.out)
          have H2' := Lib.hid j3
          have HC := Lib.hid C
          clear j1 j2 j3 C hjp hsm2 hst hc
          have hcase : (q < 0 ∧ n = 0) ∨ (0 ≤ q ∧ (rs.length : Int) < q ∧ n = rs.length) ∨ (0 ≤ q ∧ q ≤ (rs.length : Int) ∧ q = (n : Int)) := by omega
          clear hn HN
          rcases hcase with ⟨q1, rfl⟩ | ⟨q1, q2, rfl⟩ | ⟨q1, q2, rfl⟩
          · go_wp2_with fail
            refine HC.out.mono ?_
            intro e w4 hadd
            obtain ⟨B', d', l', A', rfl, M⟩ := J.add hadd
            have hl' : ol.length + l'.length ≤ 20 := by have : l'.length = T.length := by rw [← M.xs, List.length_map]
                                                        omega
            have hMr := M.out.row
            have hMs := M.res.row.src
            clear hadd a0 hbr
            go_wp2_with (at_builtin; refine wpList_rowcat rfl _ _ 31 22 1 24 (.slice none 0 0) rfl Try.underlying31 blInfo rfl (by decide) _ B ol.length d (ol.map Bs.v) rfl hMr _ l'.length d' (l'.map Bs.v) rfl hMs (bl_one _) (by unfold maxLen; omega) (by omega) ?_)
            intro B5 d5 w5 R5 C5 f5
            have J5 := (M.app C5 R5 rfl rfl rfl f5).rest hnl
            have hout : Hid (ls = (ol ++ l').map Bs.xs ++ todo') := Lib.hid (by rw [List.map_append, M.xs, List.append_assoc]; exact H1'.out)
            have hol2 : (ol ++ l').length ≤ 20 := by rw [List.length_append]; omega
            clear hMr hMs R5 C5 f5 M
            by_cases hcn : ca - 0 = 0
            · have ec : cutA AA ca 0 1 = AA := if_pos hcn
              rw [ec, hcn] at J5
              clear ec
              go_wp2_with fail
              all_goals first | (exfalso; omega) | skip
              go_roundw
              case rel => exact ⟨k + 1, AA, 0, rs.drop 0, A', rest, B5, d5, ol ++ l', todo', by go_num, by omega, by simp, by simp, J5, by rw [List.length_drop]; omega, hrest, hol2, hout, H2'⟩
              case measure => simp [intOf]; omega
            · have ec : cutA AA ca 0 1 = AA.map (fun x => x.add 0) := by unfold cutA; rw [if_neg hcn, Nat.mul_one]
              rw [ec] at J5
              clear ec
              go_wp2_with fail
              all_goals first | (exfalso; omega) | skip
              go_roundw
              case rel => exact ⟨k + 1, AA.map (fun x => x.add 0), ca - 0, rs.drop 0, A', rest, B5, d5, ol ++ l', todo', by go_num, by omega, (by cases AA with | none => rfl | some q => rfl), by simp, J5, by rw [List.length_drop]; omega, hrest, hol2, hout, H2'⟩
              case measure => simp [intOf]; omega
          · go_wp2_with fail
            refine HC.out.mono ?_
            intro e w4 hadd
            obtain ⟨B', d', l', A', rfl, M⟩ := J.add hadd
            have hl' : ol.length + l'.length ≤ 20 := by have : l'.length = T.length := by rw [← M.xs, List.length_map]
                                                        omega
            have hMr := M.out.row
            have hMs := M.res.row.src
            clear hadd a0 hbr
            go_wp2_with (at_builtin; refine wpList_rowcat rfl _ _ 31 22 1 24 (.slice none 0 0) rfl Try.underlying31 blInfo rfl (by decide) _ B ol.length d (ol.map Bs.v) rfl hMr _ l'.length d' (l'.map Bs.v) rfl hMs (bl_one _) (by unfold maxLen; omega) (by omega) ?_)
            intro B5 d5 w5 R5 C5 f5
            have J5 := (M.app C5 R5 rfl rfl rfl f5).rest hnl
            have hout : Hid (ls = (ol ++ l').map Bs.xs ++ todo') := Lib.hid (by rw [List.map_append, M.xs, List.append_assoc]; exact H1'.out)
            have hol2 : (ol ++ l').length ≤ 20 := by rw [List.length_append]; omega
            clear hMr hMs R5 C5 f5 M
            by_cases hcn : ca - rs.length = 0
            · have ec : cutA AA ca rs.length 1 = AA := if_pos hcn
              rw [ec, hcn] at J5
              clear ec
              go_wp2_with fail
              all_goals first | (exfalso; omega) | skip
              go_roundw
              case rel => exact ⟨k + 1, AA, 0, rs.drop rs.length, A', rest, B5, d5, ol ++ l', todo', by go_num, by omega, by simp, by simp, J5, by rw [List.length_drop]; omega, hrest, hol2, hout, H2'⟩
              case measure => simp [intOf]; omega
            · have ec : cutA AA ca rs.length 1 = AA.map (fun x => x.add rs.length) := by unfold cutA; rw [if_neg hcn, Nat.mul_one]
              rw [ec] at J5
              clear ec
              go_wp2_with fail
              all_goals first | (exfalso; omega) | skip
              go_roundw
              case rel => exact ⟨k + 1, AA.map (fun x => x.add rs.length), ca - rs.length, rs.drop rs.length, A', rest, B5, d5, ol ++ l', todo', by go_num, by omega, by simp, by simp, J5, by rw [List.length_drop]; omega, hrest, hol2, hout, H2'⟩
              case measure => simp [intOf]; omega
          · go_wp2_with fail
            refine HC.out.mono ?_
            intro e w4 hadd
            obtain ⟨B', d', l', A', rfl, M⟩ := J.add hadd
            have hl' : ol.length + l'.length ≤ 20 := by have : l'.length = T.length := by rw [← M.xs, List.length_map]
                                                        omega
            have hMr := M.out.row
            have hMs := M.res.row.src
            clear hadd a0 hbr
            go_wp2_with (at_builtin; refine wpList_rowcat rfl _ _ 31 22 1 24 (.slice none 0 0) rfl Try.underlying31 blInfo rfl (by decide) _ B ol.length d (ol.map Bs.v) rfl hMr _ l'.length d' (l'.map Bs.v) rfl hMs (bl_one _) (by unfold maxLen; omega) (by omega) ?_)
            intro B5 d5 w5 R5 C5 f5
            have J5 := (M.app C5 R5 rfl rfl rfl f5).rest hnl
            have hout : Hid (ls = (ol ++ l').map Bs.xs ++ todo') := Lib.hid (by rw [List.map_append, M.xs, List.append_assoc]; exact H1'.out)
            have hol2 : (ol ++ l').length ≤ 20 := by rw [List.length_append]; omega
            clear hMr hMs R5 C5 f5 M
            by_cases hcn : ca - n = 0
            · have ec : cutA AA ca n 1 = AA := if_pos hcn
              rw [ec, hcn] at J5
              clear ec
              go_wp2_with fail
              all_goals first | (exfalso; omega) | skip
              go_roundw
              case rel => exact ⟨k + 1, AA, 0, rs.drop n, A', rest, B5, d5, ol ++ l', todo', by go_num, by omega, by simp, by simp, J5, by rw [List.length_drop]; omega, hrest, hol2, hout, H2'⟩
              case measure => simp [intOf]; omega
            · have ec : cutA AA ca n 1 = AA.map (fun x => x.add n) := by unfold cutA; rw [if_neg hcn, Nat.mul_one]
              rw [ec] at J5
              clear ec
              go_wp2_with fail
              all_goals first | (exfalso; omega) | skip
              go_roundw
              case rel => exact ⟨k + 1, AA.map (fun x => x.add n), ca - n, rs.drop n, A', rest, B5, d5, ol ++ l', todo', by go_num, by omega, by simp, by simp, J5, by rw [List.length_drop]; omega, hrest, hol2, hout, H2'⟩
              case measure => simp [intOf]; omega
        · obtain rfl : k = ss.length := by omega
          have hca := J.all.le
          have hcm := J.all.max
          have C := add_c g Aj bs ⟨AA, ca, rs⟩ (by simp only; omega) wr J.jn (by have := J.head (n := rs.length) (Nat.le_refl _); rwa [List.take_length] at this)
          have j1 := join_all hsm2 H2.out
          simp only at C
          rw [j1] at C
          simp only [Bs.v] at C
          have HC := Lib.hid C
          clear C j1 hsm2 hst
          go_wp2_with fail
          refine HC.out.mono ?_
          intro e w4 hadd
          obtain ⟨B', d', l', A', rfl, M⟩ := J.add hadd
          have hl' : ol.length + l'.length ≤ 20 := by have : l'.length = todo.length := by rw [← M.xs, List.length_map]
                                                      omega
          have hMr := M.out.row
          have hMs := M.res.row.src
          clear hadd
          go_wp2_with (at_builtin; refine wpList_rowcat rfl _ _ 31 22 1 24 (.slice none 0 0) rfl Try.underlying31 blInfo rfl (by decide) _ B ol.length d (ol.map Bs.v) rfl hMr _ l'.length d' (l'.map Bs.v) rfl hMs (bl_one _) (by unfold maxLen; omega) (by omega) ?_)
          intro B5 d5 w5 R5 C5 f5
          have J5 := M.app C5 R5 rfl rfl rfl f5
          have C6 := lists4_c ⟨B5, d5, ol ++ l'⟩ ⟨A, c, l⟩ w5 J5.out.at_ (hx.ext J5.ext)
          unfold Bl.xs at C6
          simp only at C6
          rw [decide_eq_true (by rw [List.map_append, M.xs, ← H1.out, HLS.out])] at C6
          simp only [Bl.v, List.length_append] at C6
          have HC6 := Lib.hid C6
          clear C6 hMr hMs R5 C5 f5 M
          go_wp2_with fail
          refine HC6.out.mono ?_
          rintro e w6 ⟨rfl, hx6⟩
          go_wp2_with fail
          refine (jwaits_c g A' [] 0 w6 (J5.jn.ext hx6)).mono ?_
          rintro e w7 ⟨rfl, hx7⟩
          simp only [List.length_nil]
          go_wp2_with fail
          refine (jfault_c g A' [] 0 w7 ((J5.jn.ext hx6).ext hx7)).mono ?_
          rintro e w8 ⟨rfl, hx8⟩
          go_wp2_with fail
          refine (HA.out _).mono ?_
          rintro e w9 ⟨rfl, hx9⟩
          go_wp2_with fail
          first | refine fin_ret rfl (fun K hK => ?_) | refine fin_norm rfl (fun K hK => ?_)
          simp [results, Try.results6, go_sem, rsat]
          try go_simp
          refine hK _ ?_
          clear hK K
          exact ⟨rfl, (((J5.ext.trans hx6).trans hx7).trans hx8).trans hx9⟩
end Go.Proofs.Ythhgkmdjplancaa
