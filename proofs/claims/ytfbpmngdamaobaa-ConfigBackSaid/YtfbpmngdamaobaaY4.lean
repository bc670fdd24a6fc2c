/- Configurations (layer 7): Encode by the document. No condition. -/
import Derived.Test.YtfbpmngdamaobaaY3
import Derived.Test.YtfbpmngdamaobaaZ3
namespace Go.Proofs.Ytfbpmngdamaobaa
open Go.RowKit
/-- A value of [16]int64, read and written whole: closed words. -/
def loadFld (a : Addr) : Sem Value := loadVar 77 a
theorem loadFld_is (a : Addr) : loadVar 77 a = loadFld a := rfl
theorem run_loadFld (w : World) (g : Nat) (h : (cellsAt w g).size = 16) : (loadFld ⟨g, 0, none⟩).run Try.prog w = .ok (.agg (cellsAt w g)) w :=
  loadVar_ca 77 16 (fun _ => by kernel_rfl) (fun _ => by kernel_rfl) w g h
theorem run_loadFld_at (w : World) (g off : Nat) (h : (subAt w g off 16).size = 16) : (loadFld ⟨g, off, none⟩).run Try.prog w = .ok (.agg (subAt w g off 16)) w :=
  loadVar_sub 77 16 (fun _ => by kernel_rfl) (fun _ => by kernel_rfl) w g off h
def storeFld (a : Addr) (v : Value) : Sem Unit := storeVar 77 a v
theorem storeFld_is (a : Addr) (v : Value) : storeVar 77 a v = storeFld a v := rfl
theorem run_storeFld (w : World) (g : Nat) (cs : Array Value) (hc : cs.size = 16) (h : (cellsAt w g).size = 16) (h1 : cs.toList.all (·.oneCell') = true) : (storeFld ⟨g, 0, none⟩ (.agg cs)).run Try.prog w = .ok () (w.setRow g cs) :=
  storeVar_ca 77 16 (fun _ => by kernel_rfl) w g cs hc h h1 (by decide)
attribute [local go_sem] Later.cell QUpon_value QUpon_enter MUpon_value
attribute [local go_sem ↓ high] loadSym_is storeSym_is loadCfg_is storeCfg_is loadFld_is storeFld_is
attribute [local go_sem] run_loadSym run_loadSym_at run_storeSym run_loadCfg run_loadCfg_at run_storeCfg run_loadFld run_loadFld_at run_storeFld one_int one_bool one_slice one_ptr one_str setRow_new setRow_past cell_ca frozen_ca cellsAt_alloc_at cellsAt_alloc_past cellsAt_drew cellsAt_later cellsAt_setCell cellsAt_set_same cellsAt_setRow_same cellsAt_setRow_far subAt_alloc subAt_drew subAt_later subAt_setCell subAt_setRow ltn_2 ltn_3 ltn_4 ltn_5
/-- Bytes are being put one behind the other; the blocks told lie as they lay. -/
structure OutS (w wr : World) (L : List Blk) (A : Option Addr) (n c : Nat) (bs : List Int) : Prop where
  ext : Ext w wr
  kept : ∀ q ∈ L, At wr q.b q.t q.cs
  hn : n = bs.length
  row : Row wr 5 1 A n c (bc bs)
  new : ∀ k ∈ ablk A, w.heap.size ≤ k ∧ k < wr.heap.size ∧ ∀ q ∈ L, k ≠ q.b
section
variable {w wr w' : World} {L M : List Blk} {A A' : Option Addr} {n c c' : Nat} {bs ns : List Int}
theorem OutS.extR (h : OutS w wr L A n c bs) (hx : Ext wr w') : OutS w w' L A n c bs :=
  ⟨h.ext.trans hx, fun q hq => (h.kept q hq).ext hx, h.hn, h.row.ext hx, fun k hk => ⟨(h.new k hk).1, Nat.lt_of_lt_of_le (h.new k hk).2.1 hx.size, (h.new k hk).2.2⟩⟩
theorem OutS.less (h : OutS w wr L A n c bs) (hs : ∀ q ∈ M, q ∈ L) : OutS w wr M A n c bs :=
  ⟨h.ext, fun q hq => h.kept q (hs q hq), h.hn, h.row, fun k hk => ⟨(h.new k hk).1, (h.new k hk).2.1, fun q hq => (h.new k hk).2.2 q (hs q hq)⟩⟩
theorem OutS.add (h : OutS w wr L A n c bs) (t : TypeId) (xs : Array Value) : OutS w (wr.alloc (.cells xs t)) (⟨wr.heap.size, t, xs⟩ :: L) A n c bs :=
  ⟨h.ext.alloc _, fun q hq => by
    rcases List.mem_cons.1 hq with rfl | h1
    · exact At.new _ _ _
    · exact (h.kept q h1).alloc _, h.hn, h.row.alloc _, fun k hk => ⟨(h.new k hk).1, by have := (h.new k hk).2.1; simp; omega, fun q hq => by
    rcases List.mem_cons.1 hq with rfl | h1
    · have := (h.new k hk).2.1; show k ≠ wr.heap.size; omega
    · exact (h.new k hk).2.2 q h1⟩⟩
theorem OutS.cat (h : OutS w wr L A n c bs) {k : Nat} (hR : Row w' 5 1 A' (n + k) c' (bc bs ++ bc ns)) (hC : Chg wr w' (ablk A)) (hf : ∀ j ∈ ablk A', j ∈ ablk A ∨ (wr.heap.size ≤ j ∧ j < w'.heap.size)) : OutS w w' L A' (n + k) c' (bs ++ ns) := by
  have hl := hR.len
  rw [← bc_app] at hR
  have hbl : (bc bs ++ bc ns).length = bs.length + ns.length := by simp [bc]
  rw [hbl] at hl
  have hs := h.ext.size
  refine ⟨hC.extOfY h.ext (fun i hi => (h.new i hi).1), fun q hq => hC.at (h.kept q hq) (fun hm => (h.new _ hm).2.2 q hq rfl), by rw [List.length_append]; omega, hR, fun j hj => ?_⟩
  rcases hf j hj with h1 | h1
  · exact ⟨(h.new j h1).1, Nat.lt_of_lt_of_le (h.new j h1).2.1 hC.size, (h.new j h1).2.2⟩
  · exact ⟨by omega, h1.2, fun q hq => by have := (h.kept q hq).lt; omega⟩
end
theorem numsB_nat (n : Nat) : numsB [(n : Int)] = numB n := by simp [numsB]
set_option maxHeartbeats 1000000 in
set_option maxRecDepth 100000 in
theorem fields_c (s : Sym) (w : World) : Calls Try.prog 47 #[.agg #[.int .i64 s.grid, .int .i64 s.ref, .int .i64 s.stat, .int .i64 s.dyn, .int .i64 s.win, .int .i64 s.move, .int .i64 s.lim, .int .i64 s.pause, .int .i64 s.ext, .int .i64 s.mx, .int .i64 s.coll, .int .i64 s.wid, .int .i64 s.self, .int .i64 s.slots, .int .i64 s.lev, .int .i64 s.short]] w fun e w' => e = .returned (.agg #[.int .i64 s.grid, .int .i64 s.ref, .int .i64 s.stat, .int .i64 s.dyn, .int .i64 s.win, .int .i64 s.move, .int .i64 s.lim, .int .i64 s.pause, .int .i64 s.ext, .int .i64 s.mx, .int .i64 s.coll, .int .i64 s.wid, .int .i64 s.self, .int .i64 s.slots, .int .i64 s.lev, .int .i64 s.short]) ∧ Ext w w' := by
  go_enter Try.func47, Try.ntmps47
  go_wp2_with fail
  refine fin_cell (p := 2) (g := w.heap.size + 1) (T := 77) rfl rfl ?_ rfl ⟨rfl, (by repeat (first | (with_reducible exact Ext.refl _) | (with_reducible assumption) | (with_reducible refine Ext.alloc ?_ _) | (with_reducible refine Ext.drew ?_) | (with_reducible refine Ext.drewN ?_ _) | (with_reducible refine Ext.setCell ?_ (by simp; try omega) _) | (with_reducible refine Ext.setRow ?_ (by simp; try omega) _)))⟩
  have H := At.new (w.alloc (.cells #[.int .i64 s.grid, .int .i64 s.ref, .int .i64 s.stat, .int .i64 s.dyn, .int .i64 s.win, .int .i64 s.move, .int .i64 s.lim, .int .i64 s.pause, .int .i64 s.ext, .int .i64 s.mx, .int .i64 s.coll, .int .i64 s.wid, .int .i64 s.self, .int .i64 s.slots, .int .i64 s.lev, .int .i64 s.short] 35)) 77 #[.int .i64 s.grid, .int .i64 s.ref, .int .i64 s.stat, .int .i64 s.dyn, .int .i64 s.win, .int .i64 s.move, .int .i64 s.lim, .int .i64 s.pause, .int .i64 s.ext, .int .i64 s.mx, .int .i64 s.coll, .int .i64 s.wid, .int .i64 s.self, .int .i64 s.slots, .int .i64 s.lev, .int .i64 s.short]
  rw [World.size_alloc] at H
  have := run_loadFld _ (w.heap.size + 1) (by rw [cellsAt_at H]; rfl)
  rw [cellsAt_at H] at this
  exact this
set_option maxHeartbeats 8000000 in
set_option maxRecDepth 100000 in
theorem rencode_yes (x : Cfg) (w : World) (h : x.At w) (h0 : (checkI x).1 = 0) : Calls Try.prog 16 #[.agg #[.slice x.A x.l.length x.c, .slice x.B x.t.length x.d, .int .i64 x.ix, .int .i64 x.f1, .int .i64 x.f2, .int .i64 x.f3, .int .i64 x.h1, .int .i64 x.h2]] w fun e w' => Ext w w' ∧ ∃ v, e = .returned (.tuple #[v, .int .i64 0]) ∧ Own w w' v (numsB (cfgN x)) := by
  have hR := right_of h0
  have C1 := fun W (hx : Ext w W) => rcheck_c x W (h.ext hx)
  rw [h0] at C1
  have HC1 := Lib.hid C1
  have hnl := hR.nl
  have hnt := hR.nt
  have PL : Put ([(x.l.length : Int)] ++ x.l.flatMap symN) := (put_one (by omega)).app (put_flat fun s hs => put_sym (hR.syms s hs))
  have eul : IntKind.u64.wrap (x.l.length : Int) = (x.l.length : Int) := u64_id (by omega)
  have eut : IntKind.u64.wrap (x.t.length : Int) = (x.t.length : Int) := u64_id (by omega)
  clear C1 h0
  go_enter Try.func16, Try.ntmps16
  go_wp2_with fail
  refine (HC1.out _ (by repeat (first | (with_reducible exact Ext.refl _) | (with_reducible assumption) | (with_reducible refine Ext.alloc ?_ _) | (with_reducible refine Ext.drew ?_) | (with_reducible refine Ext.drewN ?_ _) | (with_reducible refine Ext.setCell ?_ (by simp; try omega) _) | (with_reducible refine Ext.setRow ?_ (by simp; try omega) _)))).mono ?_
  rintro e w1 ⟨rfl, hx1⟩
  have X1 : At w1 w.heap.size 27 #[.slice x.A x.l.length x.c, .slice x.B x.t.length x.d, .int .i64 x.ix, .int .i64 x.f1, .int .i64 x.f2, .int .i64 x.f3, .int .i64 x.h1, .int .i64 x.h2] := At.ext (by repeat (first | (with_reducible exact At.new _ _ _) | ((with_reducible refine At.new' _ _ _ _ ?_); simp; done) | (with_reducible assumption) | (with_reducible refine At.drew ?_) | (with_reducible refine At.alloc ?_ _) | (with_reducible apply At.upd) | (with_reducible apply At.setRow) | (with_reducible refine At.rowFar ?_ (by first | (simp; done) | (simp; omega) | omega) _) | ((with_reducible refine At.far ?_ (by first | (simp; done) | (simp; omega) | omega) _)) | (with_reducible rfl) | (simp; done))) hx1
  have x1 : Ext w w1 := Ext.trans (by repeat (first | (with_reducible exact Ext.refl _) | (with_reducible assumption) | (with_reducible refine Ext.alloc ?_ _) | (with_reducible refine Ext.drew ?_) | (with_reducible refine Ext.drewN ?_ _) | (with_reducible refine Ext.setCell ?_ (by simp; try omega) _) | (with_reducible refine Ext.setRow ?_ (by simp; try omega) _))) hx1
  have s1 := X1.lt
  have cA : w1.cell? ⟨w.heap.size, 0, none⟩ = some (.slice x.A x.l.length x.c) := X1.cell 0
  go_wp2_with fail
  refine (rnumI_c (x.l.length : Int) (by omega) _).mono ?_
  rintro e w2 ⟨hx2, v2, rfl, O2⟩
  obtain ⟨A2, c2, rfl, R2, n2⟩ := O2
  have S2 : OutS w1 w2 [(⟨w.heap.size, 27, #[.slice x.A x.l.length x.c, .slice x.B x.t.length x.d, .int .i64 x.ix, .int .i64 x.f1, .int .i64 x.f2, .int .i64 x.f3, .int .i64 x.h1, .int .i64 x.h2]⟩ : Blk)] A2 (numB ((x.l.length : Int)).toNat).length c2 (numsB [(x.l.length : Int)]) := by
    rw [numsB_one]
    refine ⟨hx2, fun q hq => ?_, rfl, R2, fun k hk => ⟨(n2 k hk).1, (n2 k hk).2, fun q hq => ?_⟩⟩
    · rw [List.mem_singleton.1 hq]; exact X1.ext hx2
    · rw [List.mem_singleton.1 hq]; have := (n2 k hk).1; show k ≠ w.heap.size; omega
  generalize (numB ((x.l.length : Int)).toNat).length = n0 at S2 ⊢
  generalize hb : w.heap.size = b at *
  have HB := Lib.hid hb
  clear hb R2 n2 hx2 cA X1
  go_wp2_with fail
  go_loopw [6, 7] (fun s i wr => ∃ (k : Nat) (A : Option Addr) (n c : Nat), i = .int .i64 k ∧ s = .slice A n c ∧ k ≤ x.l.length ∧ OutS w1 wr [(⟨b, 27, #[.slice x.A x.l.length x.c, .slice x.B x.t.length x.d, .int .i64 x.ix, .int .i64 x.f1, .int .i64 x.f2, .int .i64 x.f3, .int .i64 x.h1, .int .i64 x.h2]⟩ : Blk)] A n c (numsB ([(x.l.length : Int)] ++ (x.l.take k).flatMap symN))) (fun _ i _ => x.l.length - (intOf i).toNat)
  case atStart => exact ⟨0, A2, n0, c2, rfl, rfl, Nat.zero_le _, by simpa [numsB] using S2⟩
  case round =>
    clear S2
    obtain ⟨k, A, n, c, rfl, rfl, hk, S⟩ := hrel
    have cA : wr.cell? ⟨b, 0, none⟩ = some (.slice x.A x.l.length x.c) := (S.kept ⟨b, 27, #[.slice x.A x.l.length x.c, .slice x.B x.t.length x.d, .int .i64 x.ix, .int .i64 x.f1, .int .i64 x.f2, .int .i64 x.f3, .int .i64 x.h1, .int .i64 x.h2]⟩ (by simp)).cell 0
    have sb := (S.kept ⟨b, 27, #[.slice x.A x.l.length x.c, .slice x.B x.t.length x.d, .int .i64 x.ix, .int .i64 x.f1, .int .i64 x.f2, .int .i64 x.f3, .int .i64 x.h1, .int .i64 x.h2]⟩ (by simp)).lt
    simp only at sb
    by_cases hk1 : k < x.l.length
    · obtain ⟨b0, off, hA, hbw, e16⟩ := ((h.syms.ext x1).ext S.ext).symAt k hk1
      have hft := flat_take symN hk1
      have hso := put_sym (hR.syms _ (List.getElem_mem hk1))
      have hll : x.l.length ≤ 9223372036854775807 := by omega
      have hdl : ((x.l.take k).flatMap symN).length ≤ 16 * 8 := by rw [flat_lenY symN 16 (fun _ => rfl), List.length_take]; omega
      generalize x.l[k] = s at *
      have e16' : subAt wr b0 (off + k * 16) 16 = #[.int .i64 s.grid, .int .i64 s.ref, .int .i64 s.stat, .int .i64 s.dyn, .int .i64 s.win, .int .i64 s.move, .int .i64 s.lim, .int .i64 s.pause, .int .i64 s.ext, .int .i64 s.mx, .int .i64 s.coll, .int .i64 s.wid, .int .i64 s.self, .int .i64 s.slots, .int .i64 s.lev, .int .i64 s.short] := e16
      clear e16
      generalize hdn : [(x.l.length : Int)] ++ (x.l.take k).flatMap symN = dn at *
      have hdp : Put dn := by rw [← hdn]; exact (put_one (by omega)).app (put_flat fun s hs => put_sym (hR.syms s (List.mem_of_mem_take hs)))
      have hdl2 : dn.length ≤ 129 := by rw [← hdn, List.length_append]; simp only [List.length_cons, List.length_nil]; omega
      have HDN := Lib.hid hdn
      clear hdn hdl
      go_wp2_with fail
      refine (fields_c s _).mono ?_
      rintro e w5 ⟨rfl, hx5⟩
      have S5 := (S.extR hx5).add 77 #[.int .i64 s.grid, .int .i64 s.ref, .int .i64 s.stat, .int .i64 s.dyn, .int .i64 s.win, .int .i64 s.move, .int .i64 s.lim, .int .i64 s.pause, .int .i64 s.ext, .int .i64 s.mx, .int .i64 s.coll, .int .i64 s.wid, .int .i64 s.self, .int .i64 s.slots, .int .i64 s.lev, .int .i64 s.short]
      go_wp2_with fail
      generalize w5.alloc (.cells #[.int .i64 s.grid, .int .i64 s.ref, .int .i64 s.stat, .int .i64 s.dyn, .int .i64 s.win, .int .i64 s.move, .int .i64 s.lim, .int .i64 s.pause, .int .i64 s.ext, .int .i64 s.mx, .int .i64 s.coll, .int .i64 s.wid, .int .i64 s.self, .int .i64 s.slots, .int .i64 s.lev, .int .i64 s.short] 77) = w6 at S5 ⊢
      generalize w5.heap.size = sB at S5 ⊢
      have hsl : (symN s).length = 16 := rfl
      have hA' := Lib.hid hA
      go_loopw [6, 9] (fun o i wz => ∃ (j : Nat) (A : Option Addr) (n c : Nat), i = .int .i64 j ∧ o = .slice A n c ∧ j ≤ 16 ∧ OutS w1 wz [⟨sB, 77, #[.int .i64 s.grid, .int .i64 s.ref, .int .i64 s.stat, .int .i64 s.dyn, .int .i64 s.win, .int .i64 s.move, .int .i64 s.lim, .int .i64 s.pause, .int .i64 s.ext, .int .i64 s.mx, .int .i64 s.coll, .int .i64 s.wid, .int .i64 s.self, .int .i64 s.slots, .int .i64 s.lev, .int .i64 s.short]⟩, (⟨b, 27, #[.slice x.A x.l.length x.c, .slice x.B x.t.length x.d, .int .i64 x.ix, .int .i64 x.f1, .int .i64 x.f2, .int .i64 x.f3, .int .i64 x.h1, .int .i64 x.h2]⟩ : Blk)] A n c (numsB (dn ++ (symN s).take j))) (fun _ i _ => 16 - (intOf i).toNat)
      case atStart => exact ⟨0, A, n, c, rfl, rfl, Nat.zero_le _, by simpa using S5⟩
      case round =>
        clear S S5 cA sb
        obtain ⟨j, A, n, c, rfl, rfl, hj, S⟩ := hrel
        by_cases hj1 : j < 16
        · have hjn : j < (symN s).length := by omega
          have htk : (symN s).take (j + 1) = (symN s).take j ++ [(symN s)[j]] := List.take_succ_eq_append_getElem hjn
          have hnj := hso _ (List.getElem_mem hjn)
          have hcs : (#[.int .i64 s.grid, .int .i64 s.ref, .int .i64 s.stat, .int .i64 s.dyn, .int .i64 s.win, .int .i64 s.move, .int .i64 s.lim, .int .i64 s.pause, .int .i64 s.ext, .int .i64 s.mx, .int .i64 s.coll, .int .i64 s.wid, .int .i64 s.self, .int .i64 s.slots, .int .i64 s.lev, .int .i64 s.short] : Array Value)[j]? = _ := (symN_get s j hj1).2
          generalize (symN s)[j] = m at *
          have hbl : n ≤ 100000 := by
            have := numsB_len (hdp.app (hso.take j))
            rw [List.length_append, List.length_take] at this
            have := S.hn
            omega
          have sB1 := (S.kept ⟨sB, 77, #[.int .i64 s.grid, .int .i64 s.ref, .int .i64 s.stat, .int .i64 s.dyn, .int .i64 s.win, .int .i64 s.move, .int .i64 s.lim, .int .i64 s.pause, .int .i64 s.ext, .int .i64 s.mx, .int .i64 s.coll, .int .i64 s.wid, .int .i64 s.self, .int .i64 s.slots, .int .i64 s.lev, .int .i64 s.short]⟩ (by simp)).lt
          simp only at sB1
          have hQ := (S.kept ⟨sB, 77, #[.int .i64 s.grid, .int .i64 s.ref, .int .i64 s.stat, .int .i64 s.dyn, .int .i64 s.win, .int .i64 s.move, .int .i64 s.lim, .int .i64 s.pause, .int .i64 s.ext, .int .i64 s.mx, .int .i64 s.coll, .int .i64 s.wid, .int .i64 s.self, .int .i64 s.slots, .int .i64 s.lev, .int .i64 s.short]⟩ (by simp)).cell j
          rw [hcs] at hQ
          simp only at hQ
          have eum : IntKind.u64.wrap m = m := u64_id hnj
          have HTK := Lib.hid htk
          clear htk hcs
          go_wp2_with fail
          refine (rnumI_c m hnj _).mono ?_
          rintro e v9 ⟨hv9, u9, rfl, O9⟩
          obtain ⟨B9, d9, rfl, R9, _⟩ := O9
          have T9 := S.extR hv9
          have m9 := numB_len64 (n := (m).toNat) (by omega)
          go_wp2_with (at_builtin; refine wpList_rowcat rfl _ _ 37 5 1 1 (.int .u8 0) rfl Try.underlying37 u8Info rfl (by decide) _ A n c (bc (numsB (dn ++ (symN s).take j))) rfl T9.row _ _ d9 (bc (numB (m).toNat)) rfl R9.src (bc_one _) (by unfold maxLen; omega) (by omega) ?_)
          intro A9 c9 w9 Q9 C9 f9
          have S9 := T9.cat Q9 C9 f9
          clear Q9 C9 f9 T9 R9 hv9
          go_wp2_with fail
          go_roundw
          case rel => exact ⟨j + 1, A9, _, c9, by go_num, rfl, by omega, by rw [HTK.out, ← List.append_assoc, numsB_app, numsB_one]; exact S9⟩
          case measure => simp [intOf]; omega
        · obtain rfl : j = 16 := by omega
          rw [List.take_of_length_le (by rw [hsl]; exact Nat.le_refl _)] at S
          have S8 := S.less (M := [(⟨b, 27, #[.slice x.A x.l.length x.c, .slice x.B x.t.length x.d, .int .i64 x.ix, .int .i64 x.f1, .int .i64 x.f2, .int .i64 x.f3, .int .i64 x.h1, .int .i64 x.h2]⟩ : Blk)]) (fun q hq => List.mem_cons_of_mem _ hq)
          have HFT := Lib.hid hft
          clear S hft
          go_wp2_with fail
          rw [← hA]
          clear hA
          go_roundw
          case rel => exact ⟨k + 1, A, n, c, by go_num, rfl, by omega, by rw [HFT.out, ← List.append_assoc, HDN.out]; exact S8⟩
          case measure => simp [intOf]; omega
    · obtain rfl : k = x.l.length := by omega
      rw [List.take_length] at S
      have cB : wr.cell? ⟨b, 1, none⟩ = some (.slice x.B x.t.length x.d) := (S.kept ⟨b, 27, #[.slice x.A x.l.length x.c, .slice x.B x.t.length x.d, .int .i64 x.ix, .int .i64 x.f1, .int .i64 x.f2, .int .i64 x.f3, .int .i64 x.h1, .int .i64 x.h2]⟩ (by simp)).cell 1
      have hbl : n ≤ 10000 := by
        have h1 := numsB_len PL
        rw [List.length_append, flat_lenY symN 16 (fun _ => rfl)] at h1
        simp only [List.length_cons, List.length_nil] at h1
        have h2 := S.hn
        omega
      go_wp2_with fail
      refine (rnum_c x.t.length (by omega) _).mono ?_
      rintro e v5 ⟨hv5, u5, rfl, O5⟩
      obtain ⟨B5, d5, rfl, R5, _⟩ := O5
      have T5 := S.extR hv5
      have m5 := numB_len64 (n := x.t.length) (by omega)
      go_wp2_with (at_builtin; refine wpList_rowcat rfl _ _ 37 5 1 1 (.int .u8 0) rfl Try.underlying37 u8Info rfl (by decide) _ A n c (bc (numsB ([(x.l.length : Int)] ++ x.l.flatMap symN))) rfl T5.row _ _ d5 (bc (numB x.t.length)) rfl R5.src (bc_one _) (by unfold maxLen; omega) (by omega) ?_)
      intro A5 c5 w5 Q5 C5 f5
      have S5 := T5.cat Q5 C5 f5
      clear Q5 C5 f5 T5 R5 hv5
      rw [← numsB_nat, ← numsB_app] at S5
      have P1 : Put ([(x.l.length : Int)] ++ x.l.flatMap symN ++ [(x.t.length : Int)]) := PL.app (put_one (by omega))
      have d1l : ([(x.l.length : Int)] ++ x.l.flatMap symN ++ [(x.t.length : Int)]).length ≤ 130 := by
        rw [List.length_append, List.length_append, flat_lenY symN 16 (fun _ => rfl)]
        simp only [List.length_cons, List.length_nil]
        omega
      rw [numsB_nat] at S5
      generalize hd1 : [(x.l.length : Int)] ++ x.l.flatMap symN ++ [(x.t.length : Int)] = d1 at *
      have HD1 := Lib.hid hd1
      generalize hn5 : n + (numB x.t.length).length = n5 at S5 ⊢
      clear hd1 S hbl PL cB hn5 m5
      go_wp2_with fail
      go_loopw [6, 10] (fun s i wr => ∃ (k : Nat) (A : Option Addr) (n c : Nat), i = .int .i64 k ∧ s = .slice A n c ∧ k ≤ x.t.length ∧ OutS w1 wr [(⟨b, 27, #[.slice x.A x.l.length x.c, .slice x.B x.t.length x.d, .int .i64 x.ix, .int .i64 x.f1, .int .i64 x.f2, .int .i64 x.f3, .int .i64 x.h1, .int .i64 x.h2]⟩ : Blk)] A n c (numsB (d1 ++ (x.t.take k).flatMap rowN))) (fun _ i _ => x.t.length - (intOf i).toNat)
      case atStart => exact ⟨0, A5, n5, c5, rfl, rfl, Nat.zero_le _, by simpa using S5⟩
      case round =>
        clear S5
        obtain ⟨k, A, n, c, rfl, rfl, hk, S⟩ := hrel
        have cB : wr.cell? ⟨b, 1, none⟩ = some (.slice x.B x.t.length x.d) := (S.kept ⟨b, 27, #[.slice x.A x.l.length x.c, .slice x.B x.t.length x.d, .int .i64 x.ix, .int .i64 x.f1, .int .i64 x.f2, .int .i64 x.f3, .int .i64 x.h1, .int .i64 x.h2]⟩ (by simp)).cell 1
        have sb := (S.kept ⟨b, 27, #[.slice x.A x.l.length x.c, .slice x.B x.t.length x.d, .int .i64 x.ix, .int .i64 x.f1, .int .i64 x.f2, .int .i64 x.f3, .int .i64 x.h1, .int .i64 x.h2]⟩ (by simp)).lt
        simp only at sb
        have htl : ((x.t.take k).flatMap rowN).length ≤ 40 := by rw [flat_lenY rowN 2 (fun _ => rfl), List.length_take]; omega
        have PT : Put (d1 ++ (x.t.take k).flatMap rowN) := P1.app (put_flat fun r hr => put_row (hR.rows r (List.mem_of_mem_take hr)))
        have hbl : n ≤ 10000 := by
          have h1 := numsB_len PT
          rw [List.length_append] at h1
          have h2 := S.hn
          omega
        by_cases hk1 : k < x.t.length
        · obtain ⟨b0, off, hB, hbw, q0, q1⟩ := ((h.rows.ext x1).ext S.ext).rowAt k hk1
          obtain ⟨b0', off', hB', hbw', q0', q1'⟩ := (h.rows.ext x1).rowAt k hk1
          have hft := flat_take rowN hk1
          have hro := hR.rows _ (List.getElem_mem hk1)
          have hll : x.t.length ≤ 9223372036854775807 := by omega
          generalize x.t[k] = r at *
          obtain ⟨rfl, rfl⟩ : b0 = b0' ∧ off = off' := by rw [hB] at hB'; simpa using hB'
          have eu1 : IntKind.u64.wrap r.tick = r.tick := u64_id (by omega)
          have eu2 : IntKind.u64.wrap r.ph = r.ph := u64_id (by omega)
          have HFT := Lib.hid hft
          clear hft hB'
          go_wp2_with fail
          refine (rnumI_c r.tick (by omega) _).mono ?_
          rintro e v7 ⟨hv7, u7, rfl, O7⟩
          obtain ⟨B7, d7, rfl, R7, _⟩ := O7
          have T7 := S.extR hv7
          have m7 := numB_len64 (n := (r.tick).toNat) (by omega)
          go_wp2_with (at_builtin; refine wpList_rowcat rfl _ _ 37 5 1 1 (.int .u8 0) rfl Try.underlying37 u8Info rfl (by decide) _ A n c (bc (numsB (d1 ++ (x.t.take k).flatMap rowN))) rfl T7.row _ _ d7 (bc (numB (r.tick).toNat)) rfl R7.src (bc_one _) (by unfold maxLen; omega) (by omega) ?_)
          intro A7 c7 w7 Q7 C7 f7
          have S7 := T7.cat Q7 C7 f7
          clear Q7 C7 f7 T7 R7 hv7
          have cB7 : w7.cell? ⟨b, 1, none⟩ = some (.slice x.B x.t.length x.d) := (S7.kept ⟨b, 27, #[.slice x.A x.l.length x.c, .slice x.B x.t.length x.d, .int .i64 x.ix, .int .i64 x.f1, .int .i64 x.f2, .int .i64 x.f3, .int .i64 x.h1, .int .i64 x.h2]⟩ (by simp)).cell 1
          have sb7 := (S7.kept ⟨b, 27, #[.slice x.A x.l.length x.c, .slice x.B x.t.length x.d, .int .i64 x.ix, .int .i64 x.f1, .int .i64 x.f2, .int .i64 x.f3, .int .i64 x.h1, .int .i64 x.h2]⟩ (by simp)).lt
          simp only at sb7
          have q17 : w7.cell? ⟨b0, off + k * 2 + 1, none⟩ = some (.int .i64 r.ph) := (S7.ext.facts.1 _ _ hbw').trans q1'
          have hbw7 := Nat.lt_of_lt_of_le hbw' S7.ext.size
          go_wp2_with fail
          refine (rnumI_c r.ph (by omega) _).mono ?_
          rintro e v8 ⟨hv8, u8, rfl, O8⟩
          obtain ⟨B8, d8, rfl, R8, _⟩ := O8
          have T8 := S7.extR hv8
          have m8 := numB_len64 (n := (r.ph).toNat) (by omega)
          go_wp2_with (at_builtin; refine wpList_rowcat rfl _ _ 37 5 1 1 (.int .u8 0) rfl Try.underlying37 u8Info rfl (by decide) _ A7 _ c7 (bc (numsB (d1 ++ (x.t.take k).flatMap rowN) ++ numB r.tick.toNat)) rfl T8.row _ _ d8 (bc (numB (r.ph).toNat)) rfl R8.src (bc_one _) (by unfold maxLen; omega) (by omega) ?_)
          intro A8 c8 w8 Q8 C8 f8
          have S8 := T8.cat Q8 C8 f8
          clear Q8 C8 f8 T8 R8 hv8
          go_wp2_with fail
          rw [← hB]
          clear hB
          go_roundw
          case rel => exact ⟨k + 1, A8, _, c8, by go_num, rfl, by omega, by rw [HFT.out, ← List.append_assoc, numsB_app, show numsB (rowN r) = numB r.tick.toNat ++ numB r.ph.toNat by simp [numsB, rowN], ← List.append_assoc]; exact S8⟩
          case measure => simp [intOf]; omega
        · obtain rfl : k = x.t.length := by omega
          rw [List.take_length] at S PT htl
          have hre := hR.rest
          have b0 := hre x.ix (by simp [restN])
          have b4 := hre x.h1 (by simp [restN])
          have b5 := hre x.h2 (by simp [restN])
          have eu0 : IntKind.u64.wrap x.ix = x.ix := u64_id b0
          have eu4 : IntKind.u64.wrap x.h1 = x.h1 := u64_id b4
          have eu5 : IntKind.u64.wrap x.h2 = x.h2 := u64_id b5
          have k2 : wr.cell? ⟨b, 2, none⟩ = some (.int .i64 x.ix) := (S.kept ⟨b, 27, #[.slice x.A x.l.length x.c, .slice x.B x.t.length x.d, .int .i64 x.ix, .int .i64 x.f1, .int .i64 x.f2, .int .i64 x.f3, .int .i64 x.h1, .int .i64 x.h2]⟩ (by simp)).cell 2
          go_wp2_with fail
          refine (rnumI_c x.ix b0 _).mono ?_
          rintro e v6 ⟨hv6, u6, rfl, O6⟩
          obtain ⟨B6, d6, rfl, R6, _⟩ := O6
          have T6 := S.extR hv6
          have m6 := numB_len64 (n := (x.ix).toNat) (by omega)
          go_wp2_with (at_builtin; refine wpList_rowcat rfl _ _ 37 5 1 1 (.int .u8 0) rfl Try.underlying37 u8Info rfl (by decide) _ A n c (bc (numsB (d1 ++ x.t.flatMap rowN))) rfl T6.row _ _ d6 (bc (numB (x.ix).toNat)) rfl R6.src (bc_one _) (by unfold maxLen; omega) (by omega) ?_)
          intro A6 c6 w6 Q6 C6 f6
          have S6 := T6.cat Q6 C6 f6
          clear Q6 C6 f6 T6 R6 hv6
          rw [← numsB_one, ← numsB_app] at S6
          rw [numsB_one] at S6
          have PI : Put (d1 ++ x.t.flatMap rowN ++ [x.ix]) := PT.app (put_one b0)
          have dil : (d1 ++ x.t.flatMap rowN ++ [x.ix]).length ≤ 180 := by rw [List.length_append, List.length_append]; simp only [List.length_cons, List.length_nil]; omega
          generalize hd2 : d1 ++ x.t.flatMap rowN ++ [x.ix] = d2 at *
          have HD2 := Lib.hid hd2
          generalize n + (numB x.ix.toNat).length = n6 at S6 ⊢
          clear hd2 S hbl k2 m6 cB sb
          obtain ⟨fl, hfl⟩ : ∃ fl, fl = [x.f1, x.f2, x.f3] := ⟨_, rfl⟩
          have hflp : Put fl := by rw [hfl]; exact fun n hn => hre n (by simp only [List.mem_cons, List.not_mem_nil, or_false] at hn; rcases hn with rfl | rfl | rfl <;> simp [restN])
          have hfll : fl.length = 3 := by rw [hfl]; rfl
          have hflc : ∀ j (hj : j < fl.length), (#[.slice x.A x.l.length x.c, .slice x.B x.t.length x.d, .int .i64 x.ix, .int .i64 x.f1, .int .i64 x.f2, .int .i64 x.f3, .int .i64 x.h1, .int .i64 x.h2] : Array Value)[3 + j]? = some (.int .i64 fl[j]) := by
            intro j hj
            subst hfl
            have hj3 : j < 3 := hj
            have : j = 0 ∨ j = 1 ∨ j = 2 := by omega
            rcases this with rfl | rfl | rfl <;> rfl
          have HFL := Lib.hid hfl
          clear hfl
          go_wp2_with fail
          go_loopw [6, 11] (fun o i wz => ∃ (j : Nat) (A : Option Addr) (n c : Nat), i = .int .i64 j ∧ o = .slice A n c ∧ j ≤ 3 ∧ OutS w1 wz [(⟨b, 27, #[.slice x.A x.l.length x.c, .slice x.B x.t.length x.d, .int .i64 x.ix, .int .i64 x.f1, .int .i64 x.f2, .int .i64 x.f3, .int .i64 x.h1, .int .i64 x.h2]⟩ : Blk)] A n c (numsB (d2 ++ fl.take j))) (fun _ i _ => 3 - (intOf i).toNat)
          case atStart => exact ⟨0, A6, n6, c6, rfl, rfl, Nat.zero_le _, by simpa using S6⟩
          case round =>
            clear S6
            obtain ⟨j, A, n, c, rfl, rfl, hj, S⟩ := hrel
            have hbl : n ≤ 10000 := by
              have h1 := numsB_len (PI.app (hflp.take j))
              rw [List.length_append, List.length_take] at h1
              have h2 := S.hn
              omega
            have sb := (S.kept ⟨b, 27, #[.slice x.A x.l.length x.c, .slice x.B x.t.length x.d, .int .i64 x.ix, .int .i64 x.f1, .int .i64 x.f2, .int .i64 x.f3, .int .i64 x.h1, .int .i64 x.h2]⟩ (by simp)).lt
            simp only at sb
            by_cases hj1 : j < 3
            · have hjn : j < fl.length := by omega
              have htk : fl.take (j + 1) = fl.take j ++ [fl[j]] := List.take_succ_eq_append_getElem hjn
              have hnj := hflp _ (List.getElem_mem hjn)
              have hQ := (S.kept ⟨b, 27, #[.slice x.A x.l.length x.c, .slice x.B x.t.length x.d, .int .i64 x.ix, .int .i64 x.f1, .int .i64 x.f2, .int .i64 x.f3, .int .i64 x.h1, .int .i64 x.h2]⟩ (by simp)).cell (3 + j)
              rw [hflc j hjn] at hQ
              simp only at hQ
              generalize fl[j] = m at *
              have eum : IntKind.u64.wrap m = m := u64_id hnj
              have HTK := Lib.hid htk
              clear htk
              go_wp2_with fail
              refine (rnumI_c m hnj _).mono ?_
              rintro e v9 ⟨hv9, u9, rfl, O9⟩
              obtain ⟨B9, d9, rfl, R9, _⟩ := O9
              have T9 := S.extR hv9
              have m9 := numB_len64 (n := (m).toNat) (by omega)
              go_wp2_with (at_builtin; refine wpList_rowcat rfl _ _ 37 5 1 1 (.int .u8 0) rfl Try.underlying37 u8Info rfl (by decide) _ A n c (bc (numsB (d2 ++ fl.take j))) rfl T9.row _ _ d9 (bc (numB (m).toNat)) rfl R9.src (bc_one _) (by unfold maxLen; omega) (by omega) ?_)
              intro A9 c9 w9 Q9 C9 f9
              have S9 := T9.cat Q9 C9 f9
              clear Q9 C9 f9 T9 R9 hv9
              go_wp2_with fail
              go_roundw
              case rel => exact ⟨j + 1, A9, _, c9, by go_num, rfl, by omega, by rw [HTK.out, ← List.append_assoc, numsB_app, numsB_one]; exact S9⟩
              case measure => simp [intOf]; omega
            · obtain rfl : j = 3 := by omega
              rw [List.take_of_length_le (by rw [hfll]; exact Nat.le_refl _)] at S
              have k6 : wr.cell? ⟨b, 6, none⟩ = some (.int .i64 x.h1) := (S.kept ⟨b, 27, #[.slice x.A x.l.length x.c, .slice x.B x.t.length x.d, .int .i64 x.ix, .int .i64 x.f1, .int .i64 x.f2, .int .i64 x.f3, .int .i64 x.h1, .int .i64 x.h2]⟩ (by simp)).cell 6
              go_wp2_with fail
              refine (rnumI_c x.h1 b4 _).mono ?_
              rintro e v7 ⟨hv7, u7, rfl, O7⟩
              obtain ⟨B7, d7, rfl, R7, _⟩ := O7
              have T7 := S.extR hv7
              have m7 := numB_len64 (n := (x.h1).toNat) (by omega)
              go_wp2_with (at_builtin; refine wpList_rowcat rfl _ _ 37 5 1 1 (.int .u8 0) rfl Try.underlying37 u8Info rfl (by decide) _ A n c (bc (numsB (d2 ++ fl))) rfl T7.row _ _ d7 (bc (numB (x.h1).toNat)) rfl R7.src (bc_one _) (by unfold maxLen; omega) (by omega) ?_)
              intro A7 c7 w7 Q7 C7 f7
              have S7 := T7.cat Q7 C7 f7
              clear Q7 C7 f7 T7 R7 hv7
              have k7 : w7.cell? ⟨b, 7, none⟩ = some (.int .i64 x.h2) := (S7.kept ⟨b, 27, #[.slice x.A x.l.length x.c, .slice x.B x.t.length x.d, .int .i64 x.ix, .int .i64 x.f1, .int .i64 x.f2, .int .i64 x.f3, .int .i64 x.h1, .int .i64 x.h2]⟩ (by simp)).cell 7
              have sb7 := (S7.kept ⟨b, 27, #[.slice x.A x.l.length x.c, .slice x.B x.t.length x.d, .int .i64 x.ix, .int .i64 x.f1, .int .i64 x.f2, .int .i64 x.f3, .int .i64 x.h1, .int .i64 x.h2]⟩ (by simp)).lt
              simp only at sb7
              go_wp2_with fail
              refine (rnumI_c x.h2 b5 _).mono ?_
              rintro e v8 ⟨hv8, u8, rfl, O8⟩
              obtain ⟨B8, d8, rfl, R8, _⟩ := O8
              have T8 := S7.extR hv8
              have m8 := numB_len64 (n := (x.h2).toNat) (by omega)
              go_wp2_with (at_builtin; refine wpList_rowcat rfl _ _ 37 5 1 1 (.int .u8 0) rfl Try.underlying37 u8Info rfl (by decide) _ A7 _ c7 (bc (numsB (d2 ++ fl) ++ numB x.h1.toNat)) rfl T8.row _ _ d8 (bc (numB (x.h2).toNat)) rfl R8.src (bc_one _) (by unfold maxLen; omega) (by omega) ?_)
              intro A8 c8 w8 Q8 C8 f8
              have S8 := T8.cat Q8 C8 f8
              clear Q8 C8 f8 T8 R8 hv8
              go_wp2_with fail
              first | refine fin_ret rfl (fun K hK => ?_) | refine fin_norm rfl (fun K hK => ?_)
              simp [results, Try.results16, go_sem, rsat]
              try go_simp
              refine hK _ ?_
              clear hK K
              have hfin : numsB (d2 ++ fl) ++ numB x.h1.toNat ++ numB x.h2.toNat = numsB (cfgN x) := by
                rw [← HD2.out, ← HD1.out, HFL.out]
                unfold cfgN restN
                simp [numsB]
              rw [hfin] at S8
              have h8 := S8.hn
              have h9 := S8.row
              have s1' := x1.size
              rw [h8] at h9 ⊢
              exact ⟨x1.trans S8.ext, _, rfl, A8, c8, rfl, h9, fun k hk => ⟨by have := (S8.new k hk).1; omega, (S8.new k hk).2.1⟩⟩
theorem rencode_no (x : Cfg) (w : World) (h : x.At w) (h0 : (checkI x).1 ≠ 0) : Calls Try.prog 16 #[.agg #[.slice x.A x.l.length x.c, .slice x.B x.t.length x.d, .int .i64 x.ix, .int .i64 x.f1, .int .i64 x.f2, .int .i64 x.f3, .int .i64 x.h1, .int .i64 x.h2]] w fun e w' => e = .returned (.tuple #[.slice none 0 0, .int .i64 (checkI x).1]) ∧ Ext w w' := by
  have C1 := fun W (hx : Ext w W) => rcheck_c x W (h.ext hx)
  have hb : ((checkI x).1 != 0) = true := bne_iff_ne.2 h0
  generalize (checkI x).1 = f at *
  generalize (checkI x).2 = n at *
  have HC1 := Lib.hid C1
  clear C1 h0
  go_enter Try.func16, Try.ntmps16
  go_wp2_with fail
  refine (HC1.out _ (by repeat (first | (with_reducible exact Ext.refl _) | (with_reducible assumption) | (with_reducible refine Ext.alloc ?_ _) | (with_reducible refine Ext.drew ?_) | (with_reducible refine Ext.drewN ?_ _) | (with_reducible refine Ext.setCell ?_ (by simp; try omega) _) | (with_reducible refine Ext.setRow ?_ (by simp; try omega) _)))).mono ?_
  rintro e w1 ⟨rfl, hx1⟩
  have x1 : Ext w w1 := Ext.trans (by repeat (first | (with_reducible exact Ext.refl _) | (with_reducible assumption) | (with_reducible refine Ext.alloc ?_ _) | (with_reducible refine Ext.drew ?_) | (with_reducible refine Ext.drewN ?_ _) | (with_reducible refine Ext.setCell ?_ (by simp; try omega) _) | (with_reducible refine Ext.setRow ?_ (by simp; try omega) _))) hx1
  go_wp2_with fail
  first | refine fin_ret rfl (fun K hK => ?_) | refine fin_norm rfl (fun K hK => ?_)
  simp [results, Try.results16, go_sem, rsat]
  try go_simp
  refine hK _ ?_
  clear hK K
  exact ⟨rfl, x1⟩
end Go.Proofs.Ytfbpmngdamaobaa
