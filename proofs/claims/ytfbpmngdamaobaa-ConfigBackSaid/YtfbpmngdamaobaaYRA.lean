/- Configurations (layer 7) are read, 1 to 3: the readers of numbers, of both sides. Condition: at most 10^9 bytes. Partly printed by geny9.py. -/
import Derived.Test.YtfbpmngdamaobaaY1
import Derived.Test.YtfbpmngdamaobaaO7
import Derived.Test.YtfbpmngdamaobaaPs6
/- Configurations (layer 7) are read, 1: the reader of numbers, a cell is set. Condition: at most 10^9 bytes. -/
namespace Go.Proofs.Ytfbpmngdamaobaa
open Go.RowKit
attribute [local go_sem] Later.cell QUpon_value QUpon_enter MUpon_value
/-- What is left of the bytes, the fault, whether a number was too great. -/
structure RS where
  bs : List Int
  f : Int
  g : Bool
/-- A number is read; one that is too great is noted. -/
def numS (s : RS) : Int × RS :=
  if 4611686018427387904 < (numR s.bs s.f).1 then (0, ⟨(numR s.bs s.f).2.1, (numR s.bs s.f).2.2, true⟩)
  else (((numR s.bs s.f).1 : Nat), ⟨(numR s.bs s.f).2.1, (numR s.bs s.f).2.2, s.g⟩)
/-- How many there are. -/
def cntS (s : RS) : Nat × RS := ((numR s.bs s.f).1, ⟨(numR s.bs s.f).2.1, (numR s.bs s.f).2.2, s.g⟩)
structure CRd (w : World) (g q : Nat) (A : Option Addr) (s : RS) : Prop where
  own : At w g 85 #[.pointer (some ⟨q, 0, none⟩), .bool s.g]
  rd : Rdr w q A s.bs s.f
  ne : g ≠ q
  alt : ∀ k ∈ ablk A, k ≠ g
structure CReads (w : World) (g q : Nat) (A : Option Addr) (s : RS) (w' : World) (A' : Option Addr) : Prop where
  rd : CRd w' g q A' s
  blk : ablk A' = ablk A
  chg : Chg w w' [g, q]
theorem CRd.ext {w w' : World} {g q : Nat} {A : Option Addr} {s : RS} (h : CRd w g q A s) (hx : Ext w w') : CRd w' g q A s := ⟨h.own.ext hx, h.rd.ext hx, h.ne, h.alt⟩
theorem CRd.lt {w : World} {g q : Nat} {A : Option Addr} {s : RS} (h : CRd w g q A s) : g < w.heap.size ∧ q < w.heap.size := ⟨h.own.lt, let ⟨_, hA, _⟩ := h.rd.ex; hA.lt⟩
theorem CRd.chg {w w' : World} {g q : Nat} {A : Option Addr} {s : RS} {m : List Nat} (h : CRd w g q A s) (hx : Chg w w' m) (hg : g ∉ m) (hq : q ∉ m) (hA : ∀ k ∈ ablk A, k ∉ m) : CRd w' g q A s := ⟨hx.at h.own hg, h.rd.chg hx hq hA, h.ne, h.alt⟩
theorem CReads.refl {w : World} {g q : Nat} {A : Option Addr} {s : RS} (h : CRd w g q A s) : CReads w g q A s w A := ⟨h, rfl, Chg.refl _ _⟩
theorem CReads.trans {w w1 w2 : World} {g q : Nat} {A A1 A2 : Option Addr} {s t : RS} (h : CReads w g q A s w1 A1) (m : CReads w1 g q A1 t w2 A2) : CReads w g q A t w2 A2 := ⟨m.rd, m.blk.trans h.blk, h.chg.trans m.chg⟩
set_option maxHeartbeats 1000000 in
theorem cnum_c (g q : Nat) (A : Option Addr) (s : RS) (w : World) (h : CRd w g q A s) :
    Calls Try.prog 51 #[.pointer (some ⟨g, 0, none⟩)] w fun e w' => e = .returned (.int .i64 (numS s).1) ∧ ∃ A', CReads w g q A (numS s).2 w' A' := by
  obtain ⟨hO, hR, hne, hal⟩ := h
  have c0 : w.cell? ⟨g, 0, none⟩ = some (.pointer (some ⟨q, 0, none⟩)) := hO.cell 0
  have C := rdnum_c q A s.bs s.f w hR
  unfold numS
  generalize numR s.bs s.f = r at C ⊢
  obtain ⟨n, cs, k⟩ := r
  simp only at C ⊢
  have HC := Lib.hid C
  clear C
  by_cases hn : 4611686018427387904 < n
  · rw [if_pos hn]
    have hd : (4611686018427387904 : Int) < (n : Int) := by omega
    go_enter Try.func51, Try.ntmps51
    go_wp2_with fail
    refine HC.out.mono ?_
    rintro e w1 ⟨rfl, A1, R1⟩
    have O1 := R1.chg.at hO (by simpa using hne)
    have b0 : w1.cell? ⟨g, 0, none⟩ = some (.pointer (some ⟨q, 0, none⟩)) := O1.cell 0
    have b1 : w1.cell? ⟨g, 1, none⟩ = some (.bool s.g) := O1.cell 1
    have f1 := O1.frozen 1
    have s1 := O1.lt
    go_wp2_with fail
    first | refine fin_ret rfl (fun K hK => ?_) | refine fin_norm rfl (fun K hK => ?_)
    simp [results, Try.results51, go_sem, rsat]
    try go_simp
    refine hK _ ?_
    clear hK K
    have hC1 : Chg w1 (w1.setCell ⟨g, 1, none⟩ (.bool true)) [g] := (Chg.refl w1 [g]).set (.inl (by simp)) _
    refine ⟨rfl, A1, ⟨O1.set 1 _, R1.rd.chg hC1 (by simpa using hne.symm) (fun k hk => ?_), hne, fun k hk => ?_⟩, R1.blk, ((R1.chg.mono (fun k _ hk => ?_)).set (.inl (by simp)) _)⟩
    · rw [R1.blk] at hk
      simpa using hal k hk
    · rw [R1.blk] at hk
      exact hal k hk
    · simp at hk ⊢
      exact .inr hk
  · rw [if_neg hn]
    have hd : ¬ (4611686018427387904 : Int) < (n : Int) := by omega
    have hw : IntKind.i64.wrap (n : Int) = (n : Int) := by rw [IntWalk.i64_left, wrap64_in ⟨by omega, by omega⟩]
    go_enter Try.func51, Try.ntmps51
    go_wp2_with fail
    refine HC.out.mono ?_
    rintro e w1 ⟨rfl, A1, R1⟩
    have O1 := R1.chg.at hO (by simpa using hne)
    go_wp2_with fail
    first | refine fin_ret rfl (fun K hK => ?_) | refine fin_norm rfl (fun K hK => ?_)
    simp [results, Try.results51, go_sem, rsat]
    try go_simp
    refine hK _ ?_
    clear hK K
    refine ⟨rfl, A1, ⟨O1, R1.rd, hne, fun k hk => ?_⟩, R1.blk, (R1.chg.mono (fun k _ hk => ?_))⟩
    · rw [R1.blk] at hk
      exact hal k hk
    · simp at hk ⊢
      exact .inr hk
set_option maxHeartbeats 1000000 in
theorem ccount_c (g q : Nat) (A : Option Addr) (s : RS) (m : Nat) (hm : m ≤ 20) (w : World) (h : CRd w g q A s) :
    Calls Try.prog 52 #[.pointer (some ⟨g, 0, none⟩), .int .u64 m] w fun e w' => e = .returned (.tuple #[.int .i64 (min (cntS s).1 m : Nat), .bool (decide ((cntS s).1 ≤ m))]) ∧ ∃ A', CReads w g q A (cntS s).2 w' A' := by
  obtain ⟨hO, hR, hne, hal⟩ := h
  have c0 : w.cell? ⟨g, 0, none⟩ = some (.pointer (some ⟨q, 0, none⟩)) := hO.cell 0
  have C := rdnum_c q A s.bs s.f w hR
  unfold cntS
  generalize numR s.bs s.f = r at C ⊢
  obtain ⟨n, cs, k⟩ := r
  simp only at C ⊢
  have HC := Lib.hid C
  clear C
  have hend : ∀ (w1 : World) (A1 : Option Addr), Reads w q A cs k w1 A1 → CReads w g q A ⟨cs, k, s.g⟩ w1 A1 := fun w1 A1 R1 => by
    have O1 := R1.chg.at hO (by simpa using hne)
    refine ⟨⟨O1, R1.rd, hne, fun k hk => ?_⟩, R1.blk, (R1.chg.mono (fun k _ hk => ?_))⟩
    · rw [R1.blk] at hk
      exact hal k hk
    · simp at hk ⊢
      exact .inr hk
  by_cases hn : n ≤ m
  · have hd : ((n : Int) ≤ (m : Int)) := by omega
    have hw : IntKind.i64.wrap (n : Int) = (n : Int) := by rw [IntWalk.i64_left, wrap64_in ⟨by omega, by omega⟩]
    rw [decide_eq_true hn, Nat.min_eq_left hn]
    go_enter Try.func52, Try.ntmps52
    go_wp2_with fail
    refine HC.out.mono ?_
    rintro e w1 ⟨rfl, A1, R1⟩
    have H := Lib.hid (hend w1 A1 R1)
    go_wp2_with fail
    all_goals first | (exfalso; omega) | skip
    first | refine fin_ret rfl (fun K hK => ?_) | refine fin_norm rfl (fun K hK => ?_)
    simp [results, Try.results52, go_sem, rsat]
    try go_simp
    refine hK _ ?_
    clear hK K
    exact ⟨rfl, A1, H.out⟩
  · have hd : ¬ ((n : Int) ≤ (m : Int)) := by omega
    have hw : IntKind.i64.wrap (m : Int) = (m : Int) := by rw [IntWalk.i64_left, wrap64_in ⟨by omega, by omega⟩]
    rw [decide_eq_false hn, Nat.min_eq_right (by omega)]
    go_enter Try.func52, Try.ntmps52
    go_wp2_with fail
    refine HC.out.mono ?_
    rintro e w1 ⟨rfl, A1, R1⟩
    have H := Lib.hid (hend w1 A1 R1)
    go_wp2_with fail
    all_goals first | (exfalso; omega) | skip
    first | refine fin_ret rfl (fun K hK => ?_) | refine fin_norm rfl (fun K hK => ?_)
    simp [results, Try.results52, go_sem, rsat]
    try go_simp
    refine hK _ ?_
    clear hK K
    exact ⟨rfl, A1, H.out⟩
theorem set_c (u v : Value) (g k : Nat) (n : Int) (t : TypeId) (cs : Array Value) (w : World) (h : ClAt u v g k) (hk : k < cs.size) (hA : At w g t cs) :
    Calls Try.prog 53 #[.agg #[u, v], .int .i64 n] w fun e w' => e = .returned (.tuple #[]) ∧ At w' g t (cs.setIfInBounds k (.int .i64 n)) ∧ Chg w w' [g] := by
  have hc : w.cell? ⟨g, k, none⟩ = some cs[k] := (hA.cell k).trans (Array.getElem?_eq_getElem hk)
  have hf := hA.frozen k
  have hg := hA.lt
  rcases h.is with ⟨rfl, rfl⟩ | ⟨rfl, rfl⟩
  ·
    go_enter Try.func53, Try.ntmps53
    go_wp2_with fail
    first | refine fin_ret rfl (fun K hK => ?_) | refine fin_norm rfl (fun K hK => ?_)
    simp [results, Try.results53, go_sem, rsat]
    try go_simp
    refine hK _ ?_
    clear hK K
    exact ⟨rfl, (hA.set k _).alloc _, ((Chg.refl w [g]).set (p := ⟨g, k, none⟩) (.inl (by simp)) _).alloc _⟩
  ·
    go_enter Try.func53, Try.ntmps53
    go_wp2_with fail
    first | refine fin_ret rfl (fun K hK => ?_) | refine fin_norm rfl (fun K hK => ?_)
    simp [results, Try.results53, go_sem, rsat]
    try go_simp
    refine hK _ ?_
    clear hK K
    exact ⟨rfl, (hA.set k _).alloc _, ((Chg.refl w [g]).set (p := ⟨g, k, none⟩) (.inl (by simp)) _).alloc _⟩
end Go.Proofs.Ytfbpmngdamaobaa
/- Configurations (layer 7) are read, 2: the document's reader of numbers. Condition: at most 10^9 bytes. Printed by geny9.py. -/
namespace Go.Proofs.Ytfbpmngdamaobaa
open Go.RowKit
attribute [local go_sem] Later.cell QUpon_value QUpon_enter MUpon_value run_eql_slice_nil
attribute [local go_sem ↓ high] loadPrt_is storePrt_is
attribute [local go_sem] run_loadPrt run_loadPrt_at run_storePrt one_int one_bool one_slice one_ptr one_str setRow_new setRow_past cell_ca frozen_ca cellsAt_alloc_at cellsAt_alloc_past cellsAt_drew cellsAt_later cellsAt_setCell cellsAt_set_same cellsAt_setRow_same cellsAt_setRow_far subAt_alloc subAt_drew subAt_later subAt_setCell subAt_setRow ltn_2 ltn_3 ltn_4 ltn_5
/-- What ReadNum tells, and what is left. -/
def numQ7 (bs : List Int) (f : Int) : Nat × List Int × Int := if f ≠ 0 then (0, bs, f) else if (numG 10 0 0 bs).2.2 = 0 then numG 10 0 0 bs else (0, bs, (numG 10 0 0 bs).2.2)
theorem numQ7_zz (bs : List Int) : ∃ k : Nat, k ≤ bs.length ∧ numP bs = ((numQ7 bs 0).1, (k : Int), (numQ7 bs 0).2.2) ∧ (numQ7 bs 0).2.1 = bs.drop k := by
  unfold numQ7
  rw [if_neg (by simp)]
  obtain ⟨⟨z, hz, hd⟩, _⟩ := numG_is6 10 0 0 bs
  generalize hq : numG 10 0 0 bs = q at hd ⊢
  obtain ⟨n, cs, g⟩ := q
  simp only at hd ⊢
  by_cases h : g = 0
  · rw [if_pos h]
    subst h
    refine ⟨z, hz, ?_, hd⟩
    rw [numP_ok hq, hd, List.length_drop]
    simp only
    rw [show (bs.length : Int) - ((bs.length - z : Nat) : Int) = (z : Int) by omega]
  · rw [if_neg h]
    exact ⟨0, Nat.zero_le _, numP_bad hq h, rfl⟩
/-- A number is read, as the document says. -/
def numT (s : RS) : Int × RS :=
  if 4611686018427387904 < (numQ7 s.bs s.f).1 then (0, ⟨(numQ7 s.bs s.f).2.1, (numQ7 s.bs s.f).2.2, true⟩)
  else (((numQ7 s.bs s.f).1 : Nat), ⟨(numQ7 s.bs s.f).2.1, (numQ7 s.bs s.f).2.2, s.g⟩)
/-- The document's reader: its block, the bytes that are left (of the call's argument), its fault, its note. -/
structure RT (w W : World) (g : Nat) (s : RS) : Prop where
  ext : Ext w W
  gw : w.heap.size ≤ g
  by_ : Byt s.bs
  ln : s.bs.length ≤ 1000000000
  ex : ∃ (A : Option Addr) (c : Nat), At W g 92 #[.slice A s.bs.length c, .int .i64 s.f, .bool s.g] ∧ s.bs.length ≤ c ∧ c ≤ 9223372036854775807 ∧ ∀ W, Ext w W → Src W 1 A s.bs.length (bc s.bs)
theorem RT.chg {w W W' : World} {g : Nat} {s : RS} {m : List Nat} (h : RT w W g s) (hx : Chg W W' m) (hm : ∀ k ∈ m, w.heap.size ≤ k) (hg : g ∉ m) : RT w W' g s :=
  ⟨(Chg.step (Chg.of_ext h.ext []) hx (fun i hi => .inr (hm i hi))).ext (by simp), h.gw, h.by_, h.ln, let ⟨A, c, hA, h1, h2, h3⟩ := h.ex; ⟨A, c, hx.at hA hg, h1, h2, h3⟩⟩
theorem RT.extR {w W W' : World} {g : Nat} {s : RS} (h : RT w W g s) (hx : Ext W W') : RT w W' g s :=
  ⟨h.ext.trans hx, h.gw, h.by_, h.ln, let ⟨A, c, hA, h1, h2, h3⟩ := h.ex; ⟨A, c, hA.ext hx, h1, h2, h3⟩⟩
theorem RT.lt {w W : World} {g : Nat} {s : RS} (h : RT w W g s) : g < W.heap.size := let ⟨_, _, hA, _⟩ := h.ex; hA.lt
set_option maxHeartbeats 4000000 in
set_option maxRecDepth 100000 in
theorem tnum_c (w W : World) (g : Nat) (s : RS) (h : RT w W g s) :
    Calls Try.prog 57 #[.pointer (some ⟨g, 0, none⟩)] W fun e W' => e = .returned (.int .i64 (numT s).1) ∧ RT w W' g (numT s).2 ∧ Chg W W' [g] := by
  obtain ⟨bs, f, gr⟩ := s
  by_cases hf : f = 0
  · subst hf
    obtain ⟨hx, hgw, hby, hln, A, c, hA, hc, hm, hS⟩ := h
    simp only at hby hln hA hc hm hS
    have CU := readnum_c A c bs hby hln W (hS W hx)
    obtain ⟨size, hs, hu, hd⟩ := numQ7_zz bs
    rw [hu] at CU
    simp only at CU
    unfold numT
    simp only
    rw [hd]
    generalize numQ7 bs 0 = r at CU hu ⊢
    obtain ⟨n, s0, fp⟩ := r
    simp only at CU ⊢
    have HCU := Lib.hid CU
    have c0 : W.cell? ⟨g, 0, none⟩ = some (.slice A bs.length c) := hA.cell 0
    have c1 : W.cell? ⟨g, 1, none⟩ = some (.int .i64 0) := hA.cell 1
    have f0 := hA.frozen 0
    have f1 := hA.frozen 1
    have sg := hA.lt
    have HS := Lib.hid hS
    have HB := Lib.hid hby
    clear hS hby CU hd hu
    have dl : (bs.drop size).length = bs.length - size := List.length_drop
    by_cases hcn : c - size = 0
    ·
      go_enter Try.func57, Try.ntmps57
      go_wp2_with fail
      refine HCU.out.mono ?_
      rintro e w1 ⟨rfl, hx1⟩
      have A1 := hA.ext hx1
      have c0 : w1.cell? ⟨g, 0, none⟩ = some (.slice A bs.length c) := A1.cell 0
      have c1 : w1.cell? ⟨g, 1, none⟩ = some (.int .i64 0) := A1.cell 1
      have f0 := A1.frozen 0
      have f1 := A1.frozen 1
      have sg1 := A1.lt
      go_wp2_with fail
      refine gen_world (fun W2 => Chg w1 W2 [g] ∧ At W2 g 92 #[.slice A bs.length c, .int .i64 fp, .bool gr] ∧ At W2 w1.heap.size 105 #[.int .u64 n, .int .i64 0, .slice none 0 0, .int .i64 size, .int .i64 fp]) ⟨((Chg.refl w1 [g]).set (.inl (by simp)) _).alloc _, (A1.set 1 _).alloc _, (by repeat (first | (with_reducible exact At.new _ _ _) | ((with_reducible refine At.new' _ _ _ _ ?_); simp; done) | (with_reducible assumption) | (with_reducible refine At.drew ?_) | (with_reducible refine At.alloc ?_ _) | (with_reducible apply At.upd) | (with_reducible apply At.setRow) | (with_reducible refine At.rowFar ?_ (by first | (simp; done) | (simp; omega) | omega) _) | ((with_reducible refine At.far ?_ (by first | (simp; done) | (simp; omega) | omega) _)) | (with_reducible rfl) | (simp; done)))⟩ (fun w2 h2 => ?_)
      obtain ⟨g2, a2, p2⟩ := h2
      have hgp : g < w1.heap.size := sg1
      generalize w1.heap.size = gp at *
      have n1 : gp ≠ g := by omega
      clear c0 c1 f0 f1 A1 sg1
      have c0 : w2.cell? ⟨g, 0, none⟩ = some (.slice A bs.length c) := a2.cell 0
      have ep := cellsAt_at p2
      have sp := p2.lt
      have sa := a2.lt
      refine wp_region_x 10 [0, 0, 0, 0, 1, 0, 1, 0, 0, 0] (by kernel_rfl) (by kernel_rfl) (by kernel_rfl) ?_
      simp only [List.take_succ_cons, List.take_zero, List.drop_succ_cons, List.drop_zero]
      refine hl_pure (fun K hK => ?_)
      go_simp
      refine hK _ ?_
      clear hK K
      refine hl_pure (fun K hK => ?_)
      go_simp
      refine hK _ ?_
      clear hK K
      refine hl_pure (fun K hK => ?_)
      go_simp
      refine hK _ ?_
      clear hK K
      refine hl_pure (fun K hK => ?_)
      go_simp
      refine hK _ ?_
      clear hK K
      refine hl_quiet (fun K hK => ?_)
      go_simp
      refine hK _ ?_
      clear hK K
      refine hl_pure (fun K hK => ?_)
      go_simp
      refine hK _ ?_
      clear hK K
      refine hl_quiet (fun K hK => ?_)
      go_simp
      refine hK _ ?_
      clear hK K
      refine hl_pure (fun K hK => ?_)
      go_simp
      refine hK _ ?_
      clear hK K
      refine hl_pure (fun K hK => ?_)
      go_simp
      refine hK _ ?_
      clear hK K
      refine hl_pure (fun K hK => ?_)
      go_simp
      refine hK _ ?_
      clear hK K
      refine hl_nil ?_
      intro w3 hx3 K hK
      have a3 := a2.ext hx3
      have p3 := p2.ext hx3
      have g3 := g2.extR hx3
      clear c0 ep sp sa a2 p2 g2
      have f3 := a3.frozen 0
      have f4 := a3.frozen 2
      have c3 : w3.cell? ⟨g, 0, none⟩ = some (.slice A bs.length c) := a3.cell 0
      have c4 : w3.cell? ⟨g, 2, none⟩ = some (.bool gr) := a3.cell 2
      have sa := a3.lt
      have e3 := cellsAt_at p3
      have s3 := p3.lt
      by_cases hn : 4611686018427387904 < n
      · have hd : (4611686018427387904 : Int) < (n : Int) := by omega
        go_wp2_with fail
        first | refine fin_ret rfl (fun K hK => ?_) | refine fin_norm rfl (fun K hK => ?_)
        simp [results, Try.results57, go_sem, rsat]
        try go_simp
        refine hK _ ?_
        clear hK K
        have g5 := (Chg.of_ext hx1 [g]).trans ((g3.set (p := ⟨g, 0, none⟩) (.inl (by simp)) (.slice A (bs.length - size) 0)).set (p := ⟨g, 2, none⟩) (.inl (by simp)) (.bool true))
        refine ⟨rfl, ⟨(Chg.step (Chg.of_ext hx []) g5 (fun i hi => by simp at hi; right; omega)).ext (by simp), hgw, fun x hx => HB.out x (List.mem_of_mem_drop hx), by simp only; omega, A, 0, ?_, by simp only; omega, by omega, fun W hW => ?_⟩, g5⟩
        · simp only; rw [dl]; exact (a3.set 0 _).set 2 _
        · simp only; rw [dl]; exact (HS.out W hW).drop5 hs _ (by intro; omega)
      · have hd : ¬ (4611686018427387904 : Int) < (n : Int) := by omega
        have hw : IntKind.i64.wrap (n : Int) = (n : Int) := by rw [IntWalk.i64_left, wrap64_in ⟨by omega, by omega⟩]
        go_wp2_with fail
        first | refine fin_ret rfl (fun K hK => ?_) | refine fin_norm rfl (fun K hK => ?_)
        simp [results, Try.results57, go_sem, rsat]
        try go_simp
        refine hK _ ?_
        clear hK K
        have g5 := (Chg.of_ext hx1 [g]).trans (g3.set (p := ⟨g, 0, none⟩) (.inl (by simp)) (.slice A (bs.length - size) 0))
        refine ⟨rfl, ⟨(Chg.step (Chg.of_ext hx []) g5 (fun i hi => by simp at hi; right; omega)).ext (by simp), hgw, fun x hx => HB.out x (List.mem_of_mem_drop hx), by simp only; omega, A, 0, ?_, by simp only; omega, by omega, fun W hW => ?_⟩, g5⟩
        · simp only; rw [dl]; exact a3.set 0 _
        · simp only; rw [dl]; exact (HS.out W hW).drop5 hs _ (by intro; omega)
    ·
      go_enter Try.func57, Try.ntmps57
      go_wp2_with fail
      refine HCU.out.mono ?_
      rintro e w1 ⟨rfl, hx1⟩
      have A1 := hA.ext hx1
      have c0 : w1.cell? ⟨g, 0, none⟩ = some (.slice A bs.length c) := A1.cell 0
      have c1 : w1.cell? ⟨g, 1, none⟩ = some (.int .i64 0) := A1.cell 1
      have f0 := A1.frozen 0
      have f1 := A1.frozen 1
      have sg1 := A1.lt
      go_wp2_with fail
      refine gen_world (fun W2 => Chg w1 W2 [g] ∧ At W2 g 92 #[.slice A bs.length c, .int .i64 fp, .bool gr] ∧ At W2 w1.heap.size 105 #[.int .u64 n, .int .i64 0, .slice none 0 0, .int .i64 size, .int .i64 fp]) ⟨((Chg.refl w1 [g]).set (.inl (by simp)) _).alloc _, (A1.set 1 _).alloc _, (by repeat (first | (with_reducible exact At.new _ _ _) | ((with_reducible refine At.new' _ _ _ _ ?_); simp; done) | (with_reducible assumption) | (with_reducible refine At.drew ?_) | (with_reducible refine At.alloc ?_ _) | (with_reducible apply At.upd) | (with_reducible apply At.setRow) | (with_reducible refine At.rowFar ?_ (by first | (simp; done) | (simp; omega) | omega) _) | ((with_reducible refine At.far ?_ (by first | (simp; done) | (simp; omega) | omega) _)) | (with_reducible rfl) | (simp; done)))⟩ (fun w2 h2 => ?_)
      obtain ⟨g2, a2, p2⟩ := h2
      have hgp : g < w1.heap.size := sg1
      generalize w1.heap.size = gp at *
      have n1 : gp ≠ g := by omega
      clear c0 c1 f0 f1 A1 sg1
      have c0 : w2.cell? ⟨g, 0, none⟩ = some (.slice A bs.length c) := a2.cell 0
      have ep := cellsAt_at p2
      have sp := p2.lt
      have sa := a2.lt
      refine wp_region_x 10 [0, 0, 0, 0, 1, 0, 1, 0, 0, 0] (by kernel_rfl) (by kernel_rfl) (by kernel_rfl) ?_
      simp only [List.take_succ_cons, List.take_zero, List.drop_succ_cons, List.drop_zero]
      refine hl_pure (fun K hK => ?_)
      go_simp
      refine hK _ ?_
      clear hK K
      refine hl_pure (fun K hK => ?_)
      go_simp
      refine hK _ ?_
      clear hK K
      refine hl_pure (fun K hK => ?_)
      go_simp
      refine hK _ ?_
      clear hK K
      refine hl_pure (fun K hK => ?_)
      go_simp
      refine hK _ ?_
      clear hK K
      refine hl_quiet (fun K hK => ?_)
      go_simp
      refine hK _ ?_
      clear hK K
      refine hl_pure (fun K hK => ?_)
      go_simp
      refine hK _ ?_
      clear hK K
      refine hl_quiet (fun K hK => ?_)
      go_simp
      refine hK _ ?_
      clear hK K
      refine hl_pure (fun K hK => ?_)
      go_simp
      refine hK _ ?_
      clear hK K
      refine hl_pure (fun K hK => ?_)
      go_simp
      refine hK _ ?_
      clear hK K
      refine hl_pure (fun K hK => ?_)
      go_simp
      refine hK _ ?_
      clear hK K
      refine hl_nil ?_
      intro w3 hx3 K hK
      have a3 := a2.ext hx3
      have p3 := p2.ext hx3
      have g3 := g2.extR hx3
      clear c0 ep sp sa a2 p2 g2
      have f3 := a3.frozen 0
      have f4 := a3.frozen 2
      have c3 : w3.cell? ⟨g, 0, none⟩ = some (.slice A bs.length c) := a3.cell 0
      have c4 : w3.cell? ⟨g, 2, none⟩ = some (.bool gr) := a3.cell 2
      have sa := a3.lt
      have e3 := cellsAt_at p3
      have s3 := p3.lt
      by_cases hn : 4611686018427387904 < n
      · have hd : (4611686018427387904 : Int) < (n : Int) := by omega
        go_wp2_with fail
        first | refine fin_ret rfl (fun K hK => ?_) | refine fin_norm rfl (fun K hK => ?_)
        simp [results, Try.results57, go_sem, rsat]
        try go_simp
        refine hK _ ?_
        clear hK K
        have g5 := (Chg.of_ext hx1 [g]).trans ((g3.set (p := ⟨g, 0, none⟩) (.inl (by simp)) (.slice (A.map (fun x => x.add size)) (bs.length - size) (c - size))).set (p := ⟨g, 2, none⟩) (.inl (by simp)) (.bool true))
        refine ⟨rfl, ⟨(Chg.step (Chg.of_ext hx []) g5 (fun i hi => by simp at hi; right; omega)).ext (by simp), hgw, fun x hx => HB.out x (List.mem_of_mem_drop hx), by simp only; omega, (A.map (fun x => x.add size)), (c - size), ?_, by simp only; omega, by omega, fun W hW => ?_⟩, g5⟩
        · simp only; rw [dl]; exact (a3.set 0 _).set 2 _
        · simp only; rw [dl]; exact (HS.out W hW).drop5 hs _ (by intro _; rfl)
      · have hd : ¬ (4611686018427387904 : Int) < (n : Int) := by omega
        have hw : IntKind.i64.wrap (n : Int) = (n : Int) := by rw [IntWalk.i64_left, wrap64_in ⟨by omega, by omega⟩]
        go_wp2_with fail
        first | refine fin_ret rfl (fun K hK => ?_) | refine fin_norm rfl (fun K hK => ?_)
        simp [results, Try.results57, go_sem, rsat]
        try go_simp
        refine hK _ ?_
        clear hK K
        have g5 := (Chg.of_ext hx1 [g]).trans (g3.set (p := ⟨g, 0, none⟩) (.inl (by simp)) (.slice (A.map (fun x => x.add size)) (bs.length - size) (c - size)))
        refine ⟨rfl, ⟨(Chg.step (Chg.of_ext hx []) g5 (fun i hi => by simp at hi; right; omega)).ext (by simp), hgw, fun x hx => HB.out x (List.mem_of_mem_drop hx), by simp only; omega, (A.map (fun x => x.add size)), (c - size), ?_, by simp only; omega, by omega, fun W hW => ?_⟩, g5⟩
        · simp only; rw [dl]; exact a3.set 0 _
        · simp only; rw [dl]; exact (HS.out W hW).drop5 hs _ (by intro _; rfl)
  · have hr : numQ7 bs f = (0, bs, f) := if_pos hf
    have e1 : (f != 0) = true := bne_iff_ne.2 hf
    unfold numT
    simp only
    rw [hr]
    have H := Lib.hid h
    obtain ⟨_, _, _, _, A, c, hA, _⟩ := h
    have c1 : W.cell? ⟨g, 1, none⟩ = some (.int .i64 f) := hA.cell 1
    have sg := hA.lt
    clear hA
    go_enter Try.func57, Try.ntmps57
    go_wp2_with fail
    first | refine fin_ret rfl (fun K hK => ?_) | refine fin_norm rfl (fun K hK => ?_)
    simp [results, Try.results57, go_sem, rsat]
    try go_simp
    refine hK _ ?_
    clear hK K
    exact ⟨rfl, H.out, Chg.refl _ _⟩
end Go.Proofs.Ytfbpmngdamaobaa
/- Configurations (layer 7) are read, 3: the document's count and rows. Condition: at most 10^9 bytes. -/
namespace Go.Proofs.Ytfbpmngdamaobaa
open Go.RowKit
attribute [local go_sem] Later.cell QUpon_value QUpon_enter MUpon_value
def cntT (m : Int) (s : RS) : Int × RS := if (numT s).2.f = 0 ∧ ((numT s).2.g = true ∨ m < (numT s).1) then (0, ⟨(numT s).2.bs, 4, (numT s).2.g⟩) else numT s
def rowsT (s : RS) : Int × RS := ((cntT 20 ⟨s.bs, s.f, false⟩).1, ⟨(cntT 20 ⟨s.bs, s.f, false⟩).2.bs, (cntT 20 ⟨s.bs, s.f, false⟩).2.f, (cntT 20 ⟨s.bs, s.f, false⟩).2.g || s.g⟩)
theorem RT.fault {w W : World} {g : Nat} {s : RS} (h : RT w W g s) (k : Int) : RT w (W.setCell ⟨g, 1, none⟩ (.int .i64 k)) g ⟨s.bs, k, s.g⟩ ∧ Chg W (W.setCell ⟨g, 1, none⟩ (.int .i64 k)) [g] := by
  have hC : Chg W (W.setCell ⟨g, 1, none⟩ (.int .i64 k)) [g] := (Chg.refl W [g]).set (.inl (by simp)) _
  refine ⟨⟨(Chg.step (Chg.of_ext h.ext []) hC (fun i hi => by have := h.gw; simp at hi; right; omega)).ext (by simp), h.gw, h.by_, h.ln, ?_⟩, hC⟩
  obtain ⟨A, c, hA, h1, h2, h3⟩ := h.ex
  exact ⟨A, c, hA.set 1 _, h1, h2, h3⟩
theorem RT.note {w W : World} {g : Nat} {s : RS} (h : RT w W g s) (b : Bool) : RT w (W.setCell ⟨g, 2, none⟩ (.bool b)) g ⟨s.bs, s.f, b⟩ ∧ Chg W (W.setCell ⟨g, 2, none⟩ (.bool b)) [g] := by
  have hC : Chg W (W.setCell ⟨g, 2, none⟩ (.bool b)) [g] := (Chg.refl W [g]).set (.inl (by simp)) _
  refine ⟨⟨(Chg.step (Chg.of_ext h.ext []) hC (fun i hi => by have := h.gw; simp at hi; right; omega)).ext (by simp), h.gw, h.by_, h.ln, ?_⟩, hC⟩
  obtain ⟨A, c, hA, h1, h2, h3⟩ := h.ex
  exact ⟨A, c, hA.set 2 _, h1, h2, h3⟩
set_option maxHeartbeats 2000000 in
theorem tcount_c (w W : World) (g : Nat) (s : RS) (m : Int) (h : RT w W g s) :
    Calls Try.prog 56 #[.pointer (some ⟨g, 0, none⟩), .int .i64 m] W fun e W' => e = .returned (.int .i64 (cntT m s).1) ∧ RT w W' g (cntT m s).2 ∧ Chg W W' [g] := by
  have C := tnum_c w W g s h
  unfold cntT
  generalize numT s = r at C ⊢
  obtain ⟨n, t⟩ := r
  simp only at C ⊢
  obtain ⟨cs, f, b⟩ := t
  simp only at C ⊢
  have HC := Lib.hid C
  clear C
  by_cases hf : f = 0
  · subst hf
    cases b with
    | true =>
      rw [if_pos ⟨rfl, .inl rfl⟩]
      go_enter Try.func56, Try.ntmps56
      go_wp2_with fail
      refine HC.out.mono ?_
      rintro e w1 ⟨rfl, R1, hc1⟩
      have HR := Lib.hid R1
      obtain ⟨A, c, hA, _⟩ := R1.ex
      have c1 : w1.cell? ⟨g, 1, none⟩ = some (.int .i64 0) := hA.cell 1
      have c2 : w1.cell? ⟨g, 2, none⟩ = some (.bool true) := hA.cell 2
      have f1 := hA.frozen 1
      have sg := hA.lt
      clear R1 hA
      go_wp2_with fail
      first | refine fin_ret rfl (fun K hK => ?_) | refine fin_norm rfl (fun K hK => ?_)
      simp [results, Try.results56, go_sem, rsat]
      try go_simp
      refine hK _ ?_
      clear hK K
      exact ⟨rfl, (HR.out.fault 4).1, hc1.trans (HR.out.fault 4).2⟩
    | false =>
      by_cases hn : m < n
      · rw [if_pos ⟨rfl, .inr hn⟩]
        go_enter Try.func56, Try.ntmps56
        go_wp2_with fail
        refine HC.out.mono ?_
        rintro e w1 ⟨rfl, R1, hc1⟩
        have HR := Lib.hid R1
        obtain ⟨A, c, hA, _⟩ := R1.ex
        have c1 : w1.cell? ⟨g, 1, none⟩ = some (.int .i64 0) := hA.cell 1
        have c2 : w1.cell? ⟨g, 2, none⟩ = some (.bool false) := hA.cell 2
        have f1 := hA.frozen 1
        have sg := hA.lt
        clear R1 hA
        go_wp2_with fail
        first | refine fin_ret rfl (fun K hK => ?_) | refine fin_norm rfl (fun K hK => ?_)
        simp [results, Try.results56, go_sem, rsat]
        try go_simp
        refine hK _ ?_
        clear hK K
        exact ⟨rfl, (HR.out.fault 4).1, hc1.trans (HR.out.fault 4).2⟩
      · rw [if_neg (fun h => by rcases h.2 with h1 | h1; cases h1; exact hn h1)]
        go_enter Try.func56, Try.ntmps56
        go_wp2_with fail
        refine HC.out.mono ?_
        rintro e w1 ⟨rfl, R1, hc1⟩
        have HR := Lib.hid R1
        obtain ⟨A, c, hA, _⟩ := R1.ex
        have c1 : w1.cell? ⟨g, 1, none⟩ = some (.int .i64 0) := hA.cell 1
        have c2 : w1.cell? ⟨g, 2, none⟩ = some (.bool false) := hA.cell 2
        have sg := hA.lt
        clear R1 hA
        go_wp2_with fail
        first | refine fin_ret rfl (fun K hK => ?_) | refine fin_norm rfl (fun K hK => ?_)
        simp [results, Try.results56, go_sem, rsat]
        try go_simp
        refine hK _ ?_
        clear hK K
        exact ⟨rfl, HR.out, hc1⟩
  · rw [if_neg (fun h => hf h.1)]
    have e1 : (f == 0) = false := by simpa using hf
    go_enter Try.func56, Try.ntmps56
    go_wp2_with fail
    refine HC.out.mono ?_
    rintro e w1 ⟨rfl, R1, hc1⟩
    have HR := Lib.hid R1
    obtain ⟨A, c, hA, _⟩ := R1.ex
    have c1 : w1.cell? ⟨g, 1, none⟩ = some (.int .i64 f) := hA.cell 1
    have sg := hA.lt
    clear R1 hA
    go_wp2_with fail
    first | refine fin_ret rfl (fun K hK => ?_) | refine fin_norm rfl (fun K hK => ?_)
    simp [results, Try.results56, go_sem, rsat]
    try go_simp
    refine hK _ ?_
    clear hK K
    exact ⟨rfl, HR.out, hc1⟩
set_option maxHeartbeats 2000000 in
theorem trows_c (w W : World) (g : Nat) (s : RS) (h : RT w W g s) :
    Calls Try.prog 59 #[.pointer (some ⟨g, 0, none⟩)] W fun e W' => e = .returned (.int .i64 (rowsT s).1) ∧ RT w W' g (rowsT s).2 ∧ Chg W W' [g] := by
  have N0 := h.note false
  have C := tcount_c w _ g _ 20 N0.1
  obtain ⟨A, c, hA, _⟩ := h.ex
  have c2 : W.cell? ⟨g, 2, none⟩ = some (.bool s.g) := hA.cell 2
  have f2 := hA.frozen 2
  have sg := hA.lt
  obtain ⟨bs, f, b⟩ := s
  unfold rowsT
  simp only at C c2 ⊢
  generalize cntT 20 ⟨bs, f, false⟩ = r at C ⊢
  obtain ⟨n, t⟩ := r
  obtain ⟨cs, f', b'⟩ := t
  simp only at C ⊢
  have HC := Lib.hid C
  have HN := Lib.hid N0
  clear C N0 hA
  go_enter Try.func59, Try.ntmps59
  go_wp2_with fail
  refine HC.out.mono ?_
  rintro e w1 ⟨rfl, R1, hc1⟩
  have HR := Lib.hid R1
  obtain ⟨A, c, hA, _⟩ := R1.ex
  have d2 : w1.cell? ⟨g, 2, none⟩ = some (.bool b') := hA.cell 2
  have e2 := hA.frozen 2
  have s1 := hA.lt
  clear R1 hA
  cases b' with
  | true =>
    go_wp2_with fail
    first | refine fin_ret rfl (fun K hK => ?_) | refine fin_norm rfl (fun K hK => ?_)
    simp [results, Try.results59, go_sem, rsat]
    try go_simp
    refine hK _ ?_
    clear hK K
    exact ⟨rfl, (HR.out.note true).1, (HN.out.2.trans hc1).trans (HR.out.note true).2⟩
  | false =>
    go_wp2_with fail
    first | refine fin_ret rfl (fun K hK => ?_) | refine fin_norm rfl (fun K hK => ?_)
    simp [results, Try.results59, go_sem, rsat]
    try go_simp
    refine hK _ ?_
    clear hK K
    exact ⟨rfl, (HR.out.note b).1, (HN.out.2.trans hc1).trans (HR.out.note b).2⟩
end Go.Proofs.Ytfbpmngdamaobaa
