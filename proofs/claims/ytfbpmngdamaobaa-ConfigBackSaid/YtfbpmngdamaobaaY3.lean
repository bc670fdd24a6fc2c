/- Configurations (layer 7): Encode by the program. No condition. -/
import Derived.Test.YtfbpmngdamaobaaY2
import Derived.Test.YtfbpmngdamaobaaM2
namespace Go.Proofs.Ytfbpmngdamaobaa
open Go.RowKit
attribute [local go_sem] Later.cell QUpon_value QUpon_enter MUpon_value
attribute [local go_sem ↓ high] loadSym_is storeSym_is loadCfg_is storeCfg_is loadCll_is storeCll_is loadCl6_is storeCl6_is loadClx_is storeClx_is
attribute [local go_sem] run_loadSym run_loadSym_at run_storeSym run_loadCfg run_loadCfg_at run_storeCfg run_loadCll run_loadCll_at run_storeCll run_loadCl6 run_loadCl6_at run_storeCl6 run_loadClx run_loadClx_at run_storeClx one_int one_bool one_slice one_ptr one_str setRow_new setRow_past cell_ca frozen_ca cellsAt_alloc_at cellsAt_alloc_past cellsAt_drew cellsAt_later cellsAt_setCell cellsAt_set_same cellsAt_setRow_same cellsAt_setRow_far subAt_alloc subAt_drew subAt_later subAt_setCell subAt_setRow ltn_2 ltn_3 ltn_4 ltn_5
theorem Chg.extOfY {w0 a b : World} {m : List Nat} (h : Chg a b m) (hx : Ext w0 a) (hm : ∀ i ∈ m, w0.heap.size ≤ i) : Ext w0 b := (Chg.step (Chg.of_ext hx []) h (fun i hi => .inr (hm i hi))).ext (by simp)
structure Blk where
  b : Nat
  t : TypeId
  cs : Array Value
/-- Bytes are being put; the blocks told lie as they lay. -/
structure EncS (w wr : World) (g : Nat) (L : List Blk) (bs : List Int) : Prop where
  ext : Ext w wr
  kept : ∀ q ∈ L, At wr q.b q.t q.cs ∧ w.heap.size ≤ q.b ∧ q.b ≠ g
  wrt : ∃ A, Wr wr g A bs ∧ ∀ k ∈ ablk A, w.heap.size ≤ k ∧ ∀ q ∈ L, k ≠ q.b
  hg : w.heap.size ≤ g
section
variable {w wr w' : World} {g : Nat} {L M : List Blk} {bs cs : List Int}
theorem EncS.extR (h : EncS w wr g L bs) (hx : Ext wr w') : EncS w w' g L bs :=
  ⟨h.ext.trans hx, fun q hq => ⟨(h.kept q hq).1.ext hx, (h.kept q hq).2⟩, let ⟨A, hW, hf⟩ := h.wrt; ⟨A, hW.ext hx, hf⟩, h.hg⟩
theorem EncS.less (h : EncS w wr g L bs) (hs : ∀ q ∈ M, q ∈ L) : EncS w wr g M bs :=
  ⟨h.ext, fun q hq => h.kept q (hs q hq), let ⟨A, hW, hf⟩ := h.wrt; ⟨A, hW, fun k hk => ⟨(hf k hk).1, fun q hq => (hf k hk).2 q (hs q hq)⟩⟩, h.hg⟩
theorem EncS.new (h : EncS w wr g L bs) (t : TypeId) (xs : Array Value) : EncS w (wr.alloc (.cells xs t)) g (⟨wr.heap.size, t, xs⟩ :: L) bs := by
  obtain ⟨A, hW, hf⟩ := h.wrt
  have gl := hW.ex.choose_spec.1.lt
  refine ⟨h.ext.alloc _, fun q hq => ?_, ⟨A, hW.ext ((Ext.refl _).alloc _), fun k hk => ⟨(hf k hk).1, fun q hq => ?_⟩⟩, h.hg⟩
  · rcases List.mem_cons.1 hq with rfl | h1
    · exact ⟨At.new _ _ _, h.ext.size, by show wr.heap.size ≠ g; omega⟩
    · exact ⟨(h.kept q h1).1.alloc _, (h.kept q h1).2⟩
  · rcases List.mem_cons.1 hq with rfl | h1
    · have := (hW.alt k hk).1; show k ≠ wr.heap.size; omega
    · exact (hf k hk).2 q h1
theorem EncS.put {A A' : Option Addr} (h : EncS w wr g L bs) (hf : ∀ k ∈ ablk A, w.heap.size ≤ k ∧ ∀ q ∈ L, k ≠ q.b) (hP : Puts wr g A cs w' A') : EncS w w' g L cs := by
  have hs := h.ext.size
  refine ⟨hP.chg.extOfY h.ext (fun i hi => ?_), fun q hq => ⟨hP.chg.at (h.kept q hq).1 (fun hm => ?_), (h.kept q hq).2⟩, ⟨A', hP.wr, fun k hk => ?_⟩, h.hg⟩
  · rcases List.mem_cons.1 hi with rfl | h1
    · exact h.hg
    · exact (hf i h1).1
  · rcases List.mem_cons.1 hm with h1 | h1
    · exact (h.kept q hq).2.2 h1
    · exact (hf _ h1).2 q hq rfl
  · rcases hP.fresh k hk with h1 | h1
    · exact hf k h1
    · exact ⟨by omega, fun q hq => by have := (h.kept q hq).1.lt; omega⟩
end
theorem enc1_fn (a : Array Value) (w : World) : (callFunc 40 a).run Try.prog w = .ok (.enter 40 a) w := by go_simp
theorem enum_c {w wr : World} {p g : Nat} {L : List Blk} {bs : List Int} (h : EncS w wr g L bs) (hp : (⟨p, 58, #[.pointer (some ⟨g, 0, none⟩)]⟩ : Blk) ∈ L) (n : Int) (hn : 0 ≤ n ∧ n ≤ 4611686018427387904) (hl : bs.length ≤ 1000000000) :
    Calls Try.prog 40 #[.int .i64 n, .pointer (some ⟨p, 0, none⟩)] wr fun e w' => e = .returned (.tuple #[]) ∧ EncS w w' g L (bs ++ numB n.toNat) := by
  obtain ⟨A, hW, hf⟩ := h.wrt
  have C1 := numI_c g A bs n hn wr hW hl
  have c0 : wr.cell? ⟨p, 0, none⟩ = some (.pointer (some ⟨g, 0, none⟩)) := (h.kept _ hp).1.cell 0
  have eu : IntKind.u64.wrap n = n := u64_id hn
  have HC1 := Lib.hid C1
  clear C1
  go_enter Try.func40, Try.ntmps40
  go_wp2_with fail
  refine HC1.out.mono ?_
  rintro e w1 ⟨rfl, A1, P1⟩
  go_wp2_with fail
  first | refine fin_ret rfl (fun K hK => ?_) | refine fin_norm rfl (fun K hK => ?_)
  simp [results, Try.results40, go_sem, rsat]
  try go_simp
  refine hK _ ?_
  clear hK K
  exact ⟨rfl, h.put hf P1⟩
theorem flat_take {α : Type} (f : α → List Int) {l : List α} {k : Nat} (hk : k < l.length) : (l.take (k + 1)).flatMap f = (l.take k).flatMap f ++ f l[k] := by
  rw [List.take_succ_eq_append_getElem hk, List.flatMap_append]
  simp
theorem flat_lenY {α : Type} (f : α → List Int) (n : Nat) (hf : ∀ a, (f a).length = n) : ∀ l : List α, (l.flatMap f).length = n * l.length
  | [] => rfl
  | a :: l => by rw [List.flatMap_cons, List.length_append, hf, flat_lenY f n hf l, List.length_cons, Nat.mul_add]; omega
theorem put_flat {α : Type} {f : α → List Int} {l : List α} (h : ∀ a ∈ l, Put (f a)) : Put (l.flatMap f) := fun n hn => by
  obtain ⟨a, ha, hm⟩ := List.mem_flatMap.1 hn
  exact h a ha n hm
theorem put_one {n : Int} (h : 0 ≤ n ∧ n ≤ 4611686018427387904) : Put [n] := fun m hm => by rw [List.mem_singleton.1 hm]; exact h
theorem restN_get (x : Cfg) (k : Nat) (hk : k < 6) : (#[.slice x.A x.l.length x.c, .slice x.B x.t.length x.d, .int .i64 x.ix, .int .i64 x.f1, .int .i64 x.f2, .int .i64 x.f3, .int .i64 x.h1, .int .i64 x.h2] : Array Value)[2 + k]? = some (.int .i64 ((restN x)[k]'(by exact hk))) := by
  have : k = 0 ∨ k = 1 ∨ k = 2 ∨ k = 3 ∨ k = 4 ∨ k = 5 := by omega
  rcases this with rfl | rfl | rfl | rfl | rfl | rfl <;> rfl
theorem put_row {r : Rw} (h : (0 ≤ r.tick ∧ r.tick ≤ 1125899906842624) ∧ 0 ≤ r.ph ∧ r.ph ≤ 2) : Put (rowN r) := by
  intro n hn
  simp only [rowN, List.mem_cons, List.not_mem_nil, or_false] at hn
  rcases hn with rfl | rfl <;> omega
set_option maxHeartbeats 8000000 in
set_option maxRecDepth 100000 in
theorem cencode_yes (x : Cfg) (w : World) (h : x.At w) (h0 : (checkI x).1 = 0) : Calls Try.prog 15 #[.agg #[.slice x.A x.l.length x.c, .slice x.B x.t.length x.d, .int .i64 x.ix, .int .i64 x.f1, .int .i64 x.f2, .int .i64 x.f3, .int .i64 x.h1, .int .i64 x.h2]] w fun e w' => Ext w w' ∧ ∃ v, e = .returned (.tuple #[v, .int .i64 0]) ∧ Own w w' v (numsB (cfgN x)) := by
  have hR := right_of h0
  have C1 := fun W (hx : Ext w W) => check_c x W (h.ext hx)
  rw [h0] at C1
  have HC1 := Lib.hid C1
  have en := enc1_fn
  clear C1 h0
  go_enter Try.func15, Try.ntmps15
  go_wp2_with fail
  refine (HC1.out _ (by repeat (first | (with_reducible exact Ext.refl _) | (with_reducible assumption) | (with_reducible refine Ext.alloc ?_ _) | (with_reducible refine Ext.drew ?_) | (with_reducible refine Ext.drewN ?_ _) | (with_reducible refine Ext.setCell ?_ (by simp; try omega) _) | (with_reducible refine Ext.setRow ?_ (by simp; try omega) _)))).mono ?_
  rintro e w1 ⟨rfl, hx1⟩
  have X1 : At w1 w.heap.size 27 #[.slice x.A x.l.length x.c, .slice x.B x.t.length x.d, .int .i64 x.ix, .int .i64 x.f1, .int .i64 x.f2, .int .i64 x.f3, .int .i64 x.h1, .int .i64 x.h2] := At.ext (by repeat (first | (with_reducible exact At.new _ _ _) | ((with_reducible refine At.new' _ _ _ _ ?_); simp; done) | (with_reducible assumption) | (with_reducible refine At.drew ?_) | (with_reducible refine At.alloc ?_ _) | (with_reducible apply At.upd) | (with_reducible apply At.setRow) | (with_reducible refine At.rowFar ?_ (by first | (simp; done) | (simp; omega) | omega) _) | ((with_reducible refine At.far ?_ (by first | (simp; done) | (simp; omega) | omega) _)) | (with_reducible rfl) | (simp; done))) hx1
  have x1 : Ext w w1 := Ext.trans (by repeat (first | (with_reducible exact Ext.refl _) | (with_reducible assumption) | (with_reducible refine Ext.alloc ?_ _) | (with_reducible refine Ext.drew ?_) | (with_reducible refine Ext.drewN ?_ _) | (with_reducible refine Ext.setCell ?_ (by simp; try omega) _) | (with_reducible refine Ext.setRow ?_ (by simp; try omega) _))) hx1
  have s1 := X1.lt
  have cA : w1.cell? ⟨w.heap.size, 0, none⟩ = some (.slice x.A x.l.length x.c) := X1.cell 0
  have hnl := hR.nl
  have hnt := hR.nt
  go_wp2_with fail
  obtain ⟨w2, hw2⟩ : ∃ W, W = w1.alloc (.cells #[.slice none 0 0] 60) := ⟨_, rfl⟩
  have S2 : EncS w w2 w1.heap.size [⟨w.heap.size, 27, #[.slice x.A x.l.length x.c, .slice x.B x.t.length x.d, .int .i64 x.ix, .int .i64 x.f1, .int .i64 x.f2, .int .i64 x.f3, .int .i64 x.h1, .int .i64 x.h2]⟩] [] := by
    rw [hw2]
    refine ⟨x1.alloc _, fun q hq => ?_, ⟨none, ⟨by simp [Byt], by simp [ablk], 0, At.new _ _ _, Row.nil _ _ _ _⟩, by simp [ablk]⟩, x1.size⟩
    rw [List.mem_singleton.1 hq]
    exact ⟨X1.alloc _, Nat.le_refl _, by show w.heap.size ≠ _; omega⟩
  have S3 := S2.new 58 #[.pointer (some ⟨w1.heap.size, 0, none⟩)]
  rw [← hw2]
  have e2 : w2.heap.size = w1.heap.size + 1 := by rw [hw2]; simp
  rw [← e2]
  generalize w2.alloc (.cells #[.pointer (some ⟨w1.heap.size, 0, none⟩)] 58) = w3 at S3 ⊢
  generalize w2.heap.size = p at S3 e2 ⊢
  generalize w1.heap.size = g at S3 e2 ⊢
  clear S2 hw2 e2 X1 cA
  generalize hb : w.heap.size = b at *
  have HB := Lib.hid hb
  clear hb
  have PM : (⟨p, 58, #[.pointer (some ⟨g, 0, none⟩)]⟩ : Blk) ∈ [⟨p, 58, #[.pointer (some ⟨g, 0, none⟩)]⟩, (⟨b, 27, #[.slice x.A x.l.length x.c, .slice x.B x.t.length x.d, .int .i64 x.ix, .int .i64 x.f1, .int .i64 x.f2, .int .i64 x.f3, .int .i64 x.h1, .int .i64 x.h2]⟩ : Blk)] := by simp
  refine (enum_c S3 PM (x.l.length : Int) (by omega) (by simp)).mono ?_
  rintro e w4 ⟨rfl, S4⟩
  have cA : w4.cell? ⟨b, 0, none⟩ = some (.slice x.A x.l.length x.c) := (S4.kept ⟨b, 27, #[.slice x.A x.l.length x.c, .slice x.B x.t.length x.d, .int .i64 x.ix, .int .i64 x.f1, .int .i64 x.f2, .int .i64 x.f3, .int .i64 x.h1, .int .i64 x.h2]⟩ (by simp)).1.cell 0
  have sb := (S4.kept ⟨b, 27, #[.slice x.A x.l.length x.c, .slice x.B x.t.length x.d, .int .i64 x.ix, .int .i64 x.f1, .int .i64 x.f2, .int .i64 x.f3, .int .i64 x.h1, .int .i64 x.h2]⟩ (by simp)).1.lt
  simp only at sb
  go_wp2_with fail
  have PL : Put ([(x.l.length : Int)] ++ x.l.flatMap symN) := (put_one (by omega)).app (put_flat fun s hs => put_sym (hR.syms s hs))
  go_loopw [35] (fun i wr => ∃ k : Nat, i = .int .i64 k ∧ k ≤ x.l.length ∧ EncS w wr g [⟨p, 58, #[.pointer (some ⟨g, 0, none⟩)]⟩, (⟨b, 27, #[.slice x.A x.l.length x.c, .slice x.B x.t.length x.d, .int .i64 x.ix, .int .i64 x.f1, .int .i64 x.f2, .int .i64 x.f3, .int .i64 x.h1, .int .i64 x.h2]⟩ : Blk)] (numsB ([(x.l.length : Int)] ++ (x.l.take k).flatMap symN))) (fun i _ => x.l.length - (intOf i).toNat)
  case atStart => exact ⟨0, rfl, Nat.zero_le _, by simpa [numsB] using S4⟩
  case round =>
    obtain ⟨k, rfl, hk, S⟩ := hrel
    by_cases hk1 : k < x.l.length
    · obtain ⟨b0, off, hA, hbw, e16⟩ := (h.syms.ext S.ext).symAt k hk1
      have hft := flat_take symN hk1
      have hso := put_sym (hR.syms _ (List.getElem_mem hk1))
      have hll : x.l.length ≤ 9223372036854775807 := by omega
      have hdl : ((x.l.take k).flatMap symN).length ≤ 16 * 8 := by rw [flat_lenY symN 16 (fun _ => rfl), List.length_take]; omega
      generalize x.l[k] = s at *
      have e16' : subAt wr b0 (off + k * 16) 16 = #[.int .i64 s.grid, .int .i64 s.ref, .int .i64 s.stat, .int .i64 s.dyn, .int .i64 s.win, .int .i64 s.move, .int .i64 s.lim, .int .i64 s.pause, .int .i64 s.ext, .int .i64 s.mx, .int .i64 s.coll, .int .i64 s.wid, .int .i64 s.self, .int .i64 s.slots, .int .i64 s.lev, .int .i64 s.short] := e16
      clear e16
      generalize hdn : [(x.l.length : Int)] ++ (x.l.take k).flatMap symN = dn at *
      have hdp : Put dn := by rw [← hdn]; exact (put_one (by omega)).app (put_flat fun s hs => put_sym (hR.syms s (List.mem_of_mem_take hs)))
      have hdl2 : dn.length ≤ 129 := by rw [← hdn, List.length_append]; simp only [List.length_cons, List.length_nil]; omega
      have HDN := Lib.hid hdn
      clear hdn hdl
      go_wp2_with fail
      refine (cells_c wr.heap.size (wr.alloc (.cells (#[.int .i64 s.grid, .int .i64 s.ref, .int .i64 s.stat, .int .i64 s.dyn, .int .i64 s.win, .int .i64 s.move, .int .i64 s.lim, .int .i64 s.pause, .int .i64 s.ext, .int .i64 s.mx, .int .i64 s.coll, .int .i64 s.wid, .int .i64 s.self, .int .i64 s.slots, .int .i64 s.lev, .int .i64 s.short]) 35)) (by simp)).mono ?_
      rintro e w5 ⟨rfl, hx5⟩
      have S5 := (S.new 35 (#[.int .i64 s.grid, .int .i64 s.ref, .int .i64 s.stat, .int .i64 s.dyn, .int .i64 s.win, .int .i64 s.move, .int .i64 s.lim, .int .i64 s.pause, .int .i64 s.ext, .int .i64 s.mx, .int .i64 s.coll, .int .i64 s.wid, .int .i64 s.self, .int .i64 s.slots, .int .i64 s.lev, .int .i64 s.short])).extR hx5
      generalize wr.heap.size = sB at S5 ⊢
      have hsl : (symN s).length = 16 := rfl
      go_wp2_with fail
      go_loopw [40] (fun i wz => ∃ j : Nat, i = .int .i64 j ∧ j ≤ 16 ∧ EncS w wz g [⟨sB, 35, #[.int .i64 s.grid, .int .i64 s.ref, .int .i64 s.stat, .int .i64 s.dyn, .int .i64 s.win, .int .i64 s.move, .int .i64 s.lim, .int .i64 s.pause, .int .i64 s.ext, .int .i64 s.mx, .int .i64 s.coll, .int .i64 s.wid, .int .i64 s.self, .int .i64 s.slots, .int .i64 s.lev, .int .i64 s.short]⟩, ⟨p, 58, #[.pointer (some ⟨g, 0, none⟩)]⟩, (⟨b, 27, #[.slice x.A x.l.length x.c, .slice x.B x.t.length x.d, .int .i64 x.ix, .int .i64 x.f1, .int .i64 x.f2, .int .i64 x.f3, .int .i64 x.h1, .int .i64 x.h2]⟩ : Blk)] (numsB (dn ++ (symN s).take j))) (fun i _ => 16 - (intOf i).toNat)
      case atStart => exact ⟨0, rfl, Nat.zero_le _, by simpa using S5⟩
      case round =>
        clear S S5
        obtain ⟨j, rfl, hj, S⟩ := hrel
        by_cases hj1 : j < 16
        · obtain ⟨u, v, hcv, hcl⟩ := cell_at sB j hj1
          have ix : ∀ W, (Instr.index 68 (.agg (cellsV sB)) (.int .i64 (j : Nat))).run Try.prog W = .ok (.agg #[u, v]) W := fun W => by rw [← hcv]; exact ixcell_c sB W j hj1
          have hjn : j < (symN s).length := by omega
          have htk : (symN s).take (j + 1) = (symN s).take j ++ [(symN s)[j]] := List.take_succ_eq_append_getElem hjn
          have hnj := hso _ (List.getElem_mem hjn)
          have hcs : (#[.int .i64 s.grid, .int .i64 s.ref, .int .i64 s.stat, .int .i64 s.dyn, .int .i64 s.win, .int .i64 s.move, .int .i64 s.lim, .int .i64 s.pause, .int .i64 s.ext, .int .i64 s.mx, .int .i64 s.coll, .int .i64 s.wid, .int .i64 s.self, .int .i64 s.slots, .int .i64 s.lev, .int .i64 s.short] : Array Value)[j]? = _ := (symN_get s j hj1).2
          generalize (symN s)[j] = n at *
          have S1 := S.new 67 #[u, v]
          have hbl : (numsB (dn ++ (symN s).take j)).length ≤ 1000000000 := by
            have := numsB_len (hdp.app (hso.take j))
            rw [List.length_append, List.length_take] at this
            omega
          have hQ := (S1.kept ⟨sB, 35, #[.int .i64 s.grid, .int .i64 s.ref, .int .i64 s.stat, .int .i64 s.dyn, .int .i64 s.win, .int .i64 s.move, .int .i64 s.lim, .int .i64 s.pause, .int .i64 s.ext, .int .i64 s.mx, .int .i64 s.coll, .int .i64 s.wid, .int .i64 s.self, .int .i64 s.slots, .int .i64 s.lev, .int .i64 s.short]⟩ (by simp)).1.cell j
          rw [hcs] at hQ
          have C2 := get_c u v sB j n _ hcl hQ
          have HC2 := Lib.hid C2
          clear C2 hcv
          have hclis := hcl.is
          clear hcl
          rcases hclis with ⟨rfl, rfl⟩ | ⟨rfl, rfl⟩
          all_goals
            go_wp2_with fail
            refine (HC2.out).mono ?_
            rintro e w6 ⟨rfl, hx6⟩
            have S6 := (S1.extR hx6).less (M := [⟨sB, 35, #[.int .i64 s.grid, .int .i64 s.ref, .int .i64 s.stat, .int .i64 s.dyn, .int .i64 s.win, .int .i64 s.move, .int .i64 s.lim, .int .i64 s.pause, .int .i64 s.ext, .int .i64 s.mx, .int .i64 s.coll, .int .i64 s.wid, .int .i64 s.self, .int .i64 s.slots, .int .i64 s.lev, .int .i64 s.short]⟩, ⟨p, 58, #[.pointer (some ⟨g, 0, none⟩)]⟩, (⟨b, 27, #[.slice x.A x.l.length x.c, .slice x.B x.t.length x.d, .int .i64 x.ix, .int .i64 x.f1, .int .i64 x.f2, .int .i64 x.f3, .int .i64 x.h1, .int .i64 x.h2]⟩ : Blk)]) (fun q hq => List.mem_cons_of_mem _ hq)
            have HTK := Lib.hid htk
            clear htk hcs hQ
            go_wp2_with fail
            refine (enum_c S6 (p := p) (by simp) n hnj hbl).mono ?_
            rintro e w7 ⟨rfl, S7⟩
            go_wp2_with fail
            go_roundw
            case rel => exact ⟨j + 1, by go_num, by omega, by rw [HTK.out, ← List.append_assoc, numsB_app, numsB_one]; exact S7⟩
            case measure => simp [intOf]; omega
        · obtain rfl : j = 16 := by omega
          rw [List.take_of_length_le (by rw [hsl]; exact Nat.le_refl _)] at S
          have S8 := S.less (M := [⟨p, 58, #[.pointer (some ⟨g, 0, none⟩)]⟩, (⟨b, 27, #[.slice x.A x.l.length x.c, .slice x.B x.t.length x.d, .int .i64 x.ix, .int .i64 x.f1, .int .i64 x.f2, .int .i64 x.f3, .int .i64 x.h1, .int .i64 x.h2]⟩ : Blk)]) (fun q hq => List.mem_cons_of_mem _ hq)
          have HFT := Lib.hid hft
          clear S hft
          go_wp2_with fail
          rw [← hA]
          clear hA
          go_roundw
          case rel => exact ⟨k + 1, by go_num, by omega, by rw [HFT.out, ← List.append_assoc, HDN.out]; exact S8⟩
          case measure => simp [intOf]; omega
    · obtain rfl : k = x.l.length := by omega
      rw [List.take_length] at S
      have cB : wr.cell? ⟨b, 1, none⟩ = some (.slice x.B x.t.length x.d) := (S.kept ⟨b, 27, #[.slice x.A x.l.length x.c, .slice x.B x.t.length x.d, .int .i64 x.ix, .int .i64 x.f1, .int .i64 x.f2, .int .i64 x.f3, .int .i64 x.h1, .int .i64 x.h2]⟩ (by simp)).1.cell 1
      have sb := (S.kept ⟨b, 27, #[.slice x.A x.l.length x.c, .slice x.B x.t.length x.d, .int .i64 x.ix, .int .i64 x.f1, .int .i64 x.f2, .int .i64 x.f3, .int .i64 x.h1, .int .i64 x.h2]⟩ (by simp)).1.lt
      simp only at sb
      have hbl : (numsB ([(x.l.length : Int)] ++ x.l.flatMap symN)).length ≤ 1000000000 := by
        have := numsB_len PL
        rw [List.length_append, flat_lenY symN 16 (fun _ => rfl)] at this
        simp only [List.length_cons, List.length_nil] at this
        omega
      go_wp2_with fail
      refine (enum_c S (p := p) (by simp) (x.t.length : Int) (by omega) hbl).mono ?_
      rintro e w5 ⟨rfl, S5⟩
      rw [← numsB_one, ← numsB_app] at S5
      have P1 : Put ([(x.l.length : Int)] ++ x.l.flatMap symN ++ [(x.t.length : Int)]) := PL.app (put_one (by omega))
      have d1l : ([(x.l.length : Int)] ++ x.l.flatMap symN ++ [(x.t.length : Int)]).length ≤ 130 := by
        rw [List.length_append, List.length_append, flat_lenY symN 16 (fun _ => rfl)]
        simp only [List.length_cons, List.length_nil]
        omega
      generalize hd1 : [(x.l.length : Int)] ++ x.l.flatMap symN ++ [(x.t.length : Int)] = d1 at *
      have HD1 := Lib.hid hd1
      clear hd1 S hbl PL cB
      have cB : w5.cell? ⟨b, 1, none⟩ = some (.slice x.B x.t.length x.d) := (S5.kept ⟨b, 27, #[.slice x.A x.l.length x.c, .slice x.B x.t.length x.d, .int .i64 x.ix, .int .i64 x.f1, .int .i64 x.f2, .int .i64 x.f3, .int .i64 x.h1, .int .i64 x.h2]⟩ (by simp)).1.cell 1
      have sb := (S5.kept ⟨b, 27, #[.slice x.A x.l.length x.c, .slice x.B x.t.length x.d, .int .i64 x.ix, .int .i64 x.f1, .int .i64 x.f2, .int .i64 x.f3, .int .i64 x.h1, .int .i64 x.h2]⟩ (by simp)).1.lt
      simp only at sb
      go_wp2_with fail
      go_loopw [57] (fun i wr => ∃ k : Nat, i = .int .i64 k ∧ k ≤ x.t.length ∧ EncS w wr g [⟨p, 58, #[.pointer (some ⟨g, 0, none⟩)]⟩, (⟨b, 27, #[.slice x.A x.l.length x.c, .slice x.B x.t.length x.d, .int .i64 x.ix, .int .i64 x.f1, .int .i64 x.f2, .int .i64 x.f3, .int .i64 x.h1, .int .i64 x.h2]⟩ : Blk)] (numsB (d1 ++ (x.t.take k).flatMap rowN))) (fun i _ => x.t.length - (intOf i).toNat)
      case atStart => exact ⟨0, rfl, Nat.zero_le _, by simpa using S5⟩
      case round =>
        clear S5
        obtain ⟨k, rfl, hk, S⟩ := hrel
        have htl : ((x.t.take k).flatMap rowN).length ≤ 40 := by rw [flat_lenY rowN 2 (fun _ => rfl), List.length_take]; omega
        have PT : Put (d1 ++ (x.t.take k).flatMap rowN) := P1.app (put_flat fun r hr => put_row (hR.rows r (List.mem_of_mem_take hr)))
        have hbl : (numsB (d1 ++ (x.t.take k).flatMap rowN)).length ≤ 100000 := by
          have := numsB_len PT
          rw [List.length_append] at this
          omega
        by_cases hk1 : k < x.t.length
        · obtain ⟨b0, off, hB, hbw, q0, q1⟩ := (h.rows.ext S.ext).rowAt k hk1
          have hft := flat_take rowN hk1
          have hro := hR.rows _ (List.getElem_mem hk1)
          have hll : x.t.length ≤ 9223372036854775807 := by omega
          generalize x.t[k] = r at *
          have S1 := S.new 54 #[.int .i64 r.tick, .int .i64 r.ph]
          have HFT := Lib.hid hft
          clear hft
          go_wp2_with fail
          refine (enum_c S1 (p := p) (by simp) r.tick (by omega) (by omega)).mono ?_
          rintro e w7 ⟨rfl, S7⟩
          have K7 := (S7.kept ⟨wr.heap.size, 54, #[.int .i64 r.tick, .int .i64 r.ph]⟩ (by simp)).1
          have k1 : w7.cell? ⟨wr.heap.size, 1, none⟩ = some (.int .i64 r.ph) := K7.cell 1
          have k2 := K7.lt
          simp only at k2
          have hnl := numB_len64 (n := r.tick.toNat) (by omega)
          go_wp2_with fail
          refine (enum_c S7 (p := p) (by simp) r.ph (by omega) (by rw [List.length_append]; omega)).mono ?_
          rintro e w8 ⟨rfl, S8⟩
          have S9 := S8.less (M := [⟨p, 58, #[.pointer (some ⟨g, 0, none⟩)]⟩, (⟨b, 27, #[.slice x.A x.l.length x.c, .slice x.B x.t.length x.d, .int .i64 x.ix, .int .i64 x.f1, .int .i64 x.f2, .int .i64 x.f3, .int .i64 x.h1, .int .i64 x.h2]⟩ : Blk)]) (fun q hq => List.mem_cons_of_mem _ hq)
          clear k1
          go_wp2_with fail
          rw [← hB]
          clear hB
          go_roundw
          case rel => exact ⟨k + 1, by go_num, by omega, by rw [HFT.out, ← List.append_assoc, numsB_app, show numsB (rowN r) = numB r.tick.toNat ++ numB r.ph.toNat by simp [numsB, rowN], ← List.append_assoc]; exact S9⟩
          case measure => simp [intOf]; omega
        · obtain rfl : k = x.t.length := by omega
          rw [List.take_length] at S PT htl
          have sb := (S.kept ⟨b, 27, #[.slice x.A x.l.length x.c, .slice x.B x.t.length x.d, .int .i64 x.ix, .int .i64 x.f1, .int .i64 x.f2, .int .i64 x.f3, .int .i64 x.h1, .int .i64 x.h2]⟩ (by simp)).1.lt
          simp only at sb
          clear hbl
          go_wp2_with fail
          refine (rest_c b wr sb).mono ?_
          rintro e w6 ⟨rfl, hx6⟩
          have S6 := S.extR hx6
          have hrl : (restN x).length = 6 := rfl
          clear S sb
          go_wp2_with fail
          go_loopw [71] (fun i wz => ∃ j : Nat, i = .int .i64 j ∧ j ≤ 6 ∧ EncS w wz g [⟨p, 58, #[.pointer (some ⟨g, 0, none⟩)]⟩, (⟨b, 27, #[.slice x.A x.l.length x.c, .slice x.B x.t.length x.d, .int .i64 x.ix, .int .i64 x.f1, .int .i64 x.f2, .int .i64 x.f3, .int .i64 x.h1, .int .i64 x.h2]⟩ : Blk)] (numsB (d1 ++ x.t.flatMap rowN ++ (restN x).take j))) (fun i _ => 6 - (intOf i).toNat)
          case atStart => exact ⟨0, rfl, Nat.zero_le _, by simpa using S6⟩
          case round =>
            clear S6
            obtain ⟨j, rfl, hj, S⟩ := hrel
            have hbl : (numsB (d1 ++ x.t.flatMap rowN ++ (restN x).take j)).length ≤ 1000000000 := by
              have := numsB_len (PT.app (hR.rest.take j))
              rw [List.length_append, List.length_append, List.length_take] at this
              omega
            by_cases hj1 : j < 6
            · obtain ⟨u, v, hcv, hcl⟩ := rest_at b j hj1
              have ix : ∀ W, (Instr.index 72 (.agg (restV b)) (.int .i64 (j : Nat))).run Try.prog W = .ok (.agg #[u, v]) W := fun W => by rw [← hcv]; exact ixrest_c b W j hj1
              have hjn : j < (restN x).length := by omega
              have htk : (restN x).take (j + 1) = (restN x).take j ++ [(restN x)[j]] := List.take_succ_eq_append_getElem hjn
              have hnj := hR.rest _ (List.getElem_mem hjn)
              have hcs := restN_get x j hj1
              generalize (restN x)[j] = n at *
              have S1 := S.new 67 #[u, v]
              have hQ := (S1.kept ⟨b, 27, #[.slice x.A x.l.length x.c, .slice x.B x.t.length x.d, .int .i64 x.ix, .int .i64 x.f1, .int .i64 x.f2, .int .i64 x.f3, .int .i64 x.h1, .int .i64 x.h2]⟩ (by simp)).1.cell (2 + j)
              rw [hcs] at hQ
              have C2 := get_c u v b (2 + j) n _ hcl hQ
              have HC2 := Lib.hid C2
              clear C2 hcv
              have hclis := hcl.is
              clear hcl
              rcases hclis with ⟨rfl, rfl⟩ | ⟨rfl, rfl⟩
              all_goals
                go_wp2_with fail
                refine (HC2.out).mono ?_
                rintro e w7 ⟨rfl, hx7⟩
                have S7 := (S1.extR hx7).less (M := [⟨p, 58, #[.pointer (some ⟨g, 0, none⟩)]⟩, (⟨b, 27, #[.slice x.A x.l.length x.c, .slice x.B x.t.length x.d, .int .i64 x.ix, .int .i64 x.f1, .int .i64 x.f2, .int .i64 x.f3, .int .i64 x.h1, .int .i64 x.h2]⟩ : Blk)]) (fun q hq => List.mem_cons_of_mem _ hq)
                have HTK := Lib.hid htk
                clear htk hcs hQ
                go_wp2_with fail
                refine (enum_c S7 (p := p) (by simp) n hnj hbl).mono ?_
                rintro e w8 ⟨rfl, S8⟩
                go_wp2_with fail
                go_roundw
                case rel => exact ⟨j + 1, by go_num, by omega, by rw [HTK.out, ← List.append_assoc, numsB_app, numsB_one]; exact S8⟩
                case measure => simp [intOf]; omega
            · obtain rfl : j = 6 := by omega
              rw [List.take_of_length_le (by rw [hrl]; exact Nat.le_refl _), ← HD1.out] at S
              rw [List.take_of_length_le (by rw [hrl]; exact Nat.le_refl _), ← HD1.out] at hbl
              obtain ⟨A, hW, hf⟩ := S.wrt
              have K1 := (S.kept ⟨p, 58, #[.pointer (some ⟨g, 0, none⟩)]⟩ (by simp)).1
              have k0 : wr.cell? ⟨p, 0, none⟩ = some (.pointer (some ⟨g, 0, none⟩)) := K1.cell 0
              have k1 := K1.lt
              simp only at k1
              go_wp2_with fail
              refine (bytes_c g A _ wr hW hbl).mono ?_
              rintro e w9 ⟨hx9, v, rfl, O9⟩
              go_wp2_with fail
              first | refine fin_ret rfl (fun K hK => ?_) | refine fin_norm rfl (fun K hK => ?_)
              simp [results, Try.results15, go_sem, rsat]
              try go_simp
              refine hK _ ?_
              clear hK K
              obtain ⟨A9, c9, rfl, R9, n9⟩ := O9
              exact ⟨S.ext.trans hx9, _, rfl, A9, c9, rfl, R9, fun k hk => ⟨Nat.le_trans S.ext.size (n9 k hk).1, (n9 k hk).2⟩⟩
theorem cencode_no (x : Cfg) (w : World) (h : x.At w) (h0 : (checkI x).1 ≠ 0) : Calls Try.prog 15 #[.agg #[.slice x.A x.l.length x.c, .slice x.B x.t.length x.d, .int .i64 x.ix, .int .i64 x.f1, .int .i64 x.f2, .int .i64 x.f3, .int .i64 x.h1, .int .i64 x.h2]] w fun e w' => e = .returned (.tuple #[.slice none 0 0, .int .i64 (checkI x).1]) ∧ Ext w w' := by
  have C1 := fun W (hx : Ext w W) => check_c x W (h.ext hx)
  have hb : ((checkI x).1 != 0) = true := bne_iff_ne.2 h0
  generalize (checkI x).1 = f at *
  generalize (checkI x).2 = n at *
  have HC1 := Lib.hid C1
  clear C1 h0
  go_enter Try.func15, Try.ntmps15
  go_wp2_with fail
  refine (HC1.out _ (by repeat (first | (with_reducible exact Ext.refl _) | (with_reducible assumption) | (with_reducible refine Ext.alloc ?_ _) | (with_reducible refine Ext.drew ?_) | (with_reducible refine Ext.drewN ?_ _) | (with_reducible refine Ext.setCell ?_ (by simp; try omega) _) | (with_reducible refine Ext.setRow ?_ (by simp; try omega) _)))).mono ?_
  rintro e w1 ⟨rfl, hx1⟩
  have x1 : Ext w w1 := Ext.trans (by repeat (first | (with_reducible exact Ext.refl _) | (with_reducible assumption) | (with_reducible refine Ext.alloc ?_ _) | (with_reducible refine Ext.drew ?_) | (with_reducible refine Ext.drewN ?_ _) | (with_reducible refine Ext.setCell ?_ (by simp; try omega) _) | (with_reducible refine Ext.setRow ?_ (by simp; try omega) _))) hx1
  go_wp2_with fail
  first | refine fin_ret rfl (fun K hK => ?_) | refine fin_norm rfl (fun K hK => ?_)
  simp [results, Try.results15, go_sem, rsat]
  try go_simp
  refine hK _ ?_
  clear hK K
  exact ⟨rfl, x1⟩
end Go.Proofs.Ytfbpmngdamaobaa
