/- What a reader reads (octets). Condition: at most 10^9 bytes. -/
import Derived.Test.YtndcmjpacailjaaO4
namespace Go.Proofs.Ytndcmjpacailjaa
open Go.RowKit
attribute [local go_sem] Later.cell QUpon_value QUpon_enter MUpon_value run_eql_slice_nil
/-- A reader: its block, the bytes that are left, its fault. -/
structure Rdr (w : World) (g : Nat) (A : Option Addr) (bs : List Int) (f : Int) : Prop where
  by_ : Byt bs
  alt : ∀ k ∈ ablk A, k < w.heap.size ∧ k ≠ g
  ex : ∃ c, At w g 82 #[.slice A bs.length c, .int .i64 f] ∧ Row w 5 1 A bs.length c (bc bs)
theorem Rdr.ext {w w' : World} {g : Nat} {A : Option Addr} {bs : List Int} {f : Int} (h : Rdr w g A bs f) (hx : Ext w w') : Rdr w' g A bs f :=
  ⟨h.by_, fun k hk => ⟨Nat.lt_of_lt_of_le (h.alt k hk).1 hx.size, (h.alt k hk).2⟩, let ⟨c, hA, hR⟩ := h.ex; ⟨c, hA.ext hx, hR.ext hx⟩⟩
theorem Rdr.chg {w w' : World} {g : Nat} {A : Option Addr} {bs : List Int} {f : Int} {m : List Nat} (h : Rdr w g A bs f) (hx : Chg w w' m) (hg : g ∉ m) (hA : ∀ k ∈ ablk A, k ∉ m) : Rdr w' g A bs f :=
  ⟨h.by_, fun k hk => ⟨Nat.lt_of_lt_of_le (h.alt k hk).1 hx.size, (h.alt k hk).2⟩, let ⟨c, hA1, hR⟩ := h.ex; ⟨c, hx.at hA1 hg, hR.chg hx hA⟩⟩
/-- What a reading leaves. -/
structure Reads (w : World) (g : Nat) (A : Option Addr) (bs : List Int) (f : Int) (w' : World) (A' : Option Addr) : Prop where
  rd : Rdr w' g A' bs f
  blk : ablk A' = ablk A
  chg : Chg w w' [g]
theorem Reads.refl {w : World} {g : Nat} {A : Option Addr} {bs : List Int} {f : Int} (h : Rdr w g A bs f) : Reads w g A bs f w A := ⟨h, rfl, Chg.refl _ _⟩
theorem Reads.trans {w w1 w2 : World} {g : Nat} {A A1 A2 : Option Addr} {bs cs : List Int} {f k : Int} (h : Reads w g A bs f w1 A1) (m : Reads w1 g A1 cs k w2 A2) : Reads w g A cs k w2 A2 :=
  ⟨m.rd, m.blk.trans h.blk, h.chg.trans m.chg⟩
theorem Reads.extR {w w1 w2 : World} {g : Nat} {A A1 : Option Addr} {bs : List Int} {f : Int} (h : Reads w g A bs f w1 A1) (hx : Ext w1 w2) : Reads w g A bs f w2 A1 :=
  ⟨h.rd.ext hx, h.blk, h.chg.extR hx⟩
theorem newreader_c (B : Option Addr) (xs : List Int) (cb : Nat) (w : World) (hS : Src w 1 B xs.length (bc xs)) (hx : Byt xs) (hl : xs.length ≤ 1000000000) :
    Calls Try.prog 28 #[.slice B xs.length cb] w fun e w' => Ext w w' ∧ ∃ g A, e = .returned (.pointer (some ⟨g, 0, none⟩)) ∧ Rdr w' g A xs 0 ∧ w.heap.size ≤ g ∧ ∀ k ∈ ablk A, w.heap.size ≤ k := by
  go_enter Try.func28, Try.ntmps28
  go_wp2_with fail
  refine (clone_c B xs.length cb xs _ hS hl).mono ?_
  rintro e w1 ⟨hx1, v, rfl, A', c', rfl, hR', hf⟩
  go_wp2_with fail
  first | refine fin_ret rfl (fun K hK => ?_) | refine fin_norm rfl (fun K hK => ?_)
  simp [results, Try.results28, go_sem, rsat]
  try go_simp
  refine hK _ ?_
  clear hK K
  exact ⟨hx1.alloc _, w1.heap.size, A', rfl, ⟨hx, fun k hk => ⟨by have := (hf k hk).2; simp; omega, fun e => by have := (hf k hk).2; omega⟩, c', At.new _ _ _, hR'.alloc _⟩, hx1.size, fun k hk => (hf k hk).1⟩
theorem fault_c (g : Nat) (A : Option Addr) (bs : List Int) (f : Int) (w : World) (h : Rdr w g A bs f) :
    Calls Try.prog 33 #[.pointer (some ⟨g, 0, none⟩)] w fun e w' => e = .returned (.int .i64 f) ∧ Ext w w' := by
  obtain ⟨_, _, c, hA, _⟩ := h
  have c0 : w.cell? ⟨g, 1, none⟩ = some (.int .i64 f) := hA.cell 1
  clear hA
  go_enter Try.func33, Try.ntmps33
  go_wp2_with fail
  first | refine fin_ret rfl (fun K hK => ?_) | refine fin_norm rfl (fun K hK => ?_)
  simp [results, Try.results33, go_sem, rsat]
  try go_simp
  refine hK _ ?_
  clear hK K
  exact ⟨rfl, (by repeat (first | (with_reducible exact Ext.refl _) | (with_reducible assumption) | (with_reducible refine Ext.alloc ?_ _) | (with_reducible refine Ext.drew ?_) | (with_reducible refine Ext.drewN ?_ _) | (with_reducible refine Ext.setCell ?_ (by simp; try omega) _) | (with_reducible refine Ext.setRow ?_ (by simp; try omega) _)))⟩
theorem fault_nil (w : World) : Calls Try.prog 33 #[.pointer none] w fun e w' => e = .returned (.int .i64 3) ∧ Ext w w' := by
  go_enter Try.func33, Try.ntmps33
  go_wp2_with fail
  first | refine fin_ret rfl (fun K hK => ?_) | refine fin_norm rfl (fun K hK => ?_)
  simp [results, Try.results33, go_sem, rsat]
  try go_simp
  refine hK _ ?_
  clear hK K
  exact ⟨rfl, (by repeat (first | (with_reducible exact Ext.refl _) | (with_reducible assumption) | (with_reducible refine Ext.alloc ?_ _) | (with_reducible refine Ext.drew ?_) | (with_reducible refine Ext.drewN ?_ _) | (with_reducible refine Ext.setCell ?_ (by simp; try omega) _) | (with_reducible refine Ext.setRow ?_ (by simp; try omega) _)))⟩
theorem left_c (g : Nat) (A : Option Addr) (bs : List Int) (f : Int) (w : World) (h : Rdr w g A bs f) :
    Calls Try.prog 34 #[.pointer (some ⟨g, 0, none⟩)] w fun e w' => e = .returned (.int .i64 (bs.length : Nat)) ∧ Ext w w' := by
  obtain ⟨_, _, c, hA, _⟩ := h
  have c0 : w.cell? ⟨g, 0, none⟩ = some (.slice A bs.length c) := hA.cell 0
  clear hA
  go_enter Try.func34, Try.ntmps34
  go_wp2_with fail
  first | refine fin_ret rfl (fun K hK => ?_) | refine fin_norm rfl (fun K hK => ?_)
  simp [results, Try.results34, go_sem, rsat]
  try go_simp
  refine hK _ ?_
  clear hK K
  exact ⟨rfl, (by repeat (first | (with_reducible exact Ext.refl _) | (with_reducible assumption) | (with_reducible refine Ext.alloc ?_ _) | (with_reducible refine Ext.drew ?_) | (with_reducible refine Ext.drewN ?_ _) | (with_reducible refine Ext.setCell ?_ (by simp; try omega) _) | (with_reducible refine Ext.setRow ?_ (by simp; try omega) _)))⟩
theorem left_nil (w : World) : Calls Try.prog 34 #[.pointer none] w fun e w' => e = .returned (.int .i64 0) ∧ Ext w w' := by
  go_enter Try.func34, Try.ntmps34
  go_wp2_with fail
  first | refine fin_ret rfl (fun K hK => ?_) | refine fin_norm rfl (fun K hK => ?_)
  simp [results, Try.results34, go_sem, rsat]
  try go_simp
  refine hK _ ?_
  clear hK K
  exact ⟨rfl, (by repeat (first | (with_reducible exact Ext.refl _) | (with_reducible assumption) | (with_reducible refine Ext.alloc ?_ _) | (with_reducible refine Ext.drew ?_) | (with_reducible refine Ext.drewN ?_ _) | (with_reducible refine Ext.setCell ?_ (by simp; try omega) _) | (with_reducible refine Ext.setRow ?_ (by simp; try omega) _)))⟩
theorem bad_c (g : Nat) (A : Option Addr) (bs : List Int) (f : Int) (w : World) (h : Rdr w g A bs f) :
    Calls Try.prog 48 #[.pointer (some ⟨g, 0, none⟩)] w fun e w' => e = .returned (.int .u64 0) ∧ Reads w g A bs 4 w' A := by
  obtain ⟨hb, halt, c, hA, hR⟩ := h
  have c0 : w.cell? ⟨g, 1, none⟩ = some (.int .i64 f) := hA.cell 1
  have f0 := hA.frozen 1
  have sg := hA.lt
  go_enter Try.func48, Try.ntmps48
  go_wp2_with fail
  first | refine fin_ret rfl (fun K hK => ?_) | refine fin_norm rfl (fun K hK => ?_)
  simp [results, Try.results48, go_sem, rsat]
  try go_simp
  refine hK _ ?_
  clear hK K
  exact ⟨rfl, ⟨hb, fun k hk => ⟨by simpa using (halt k hk).1, (halt k hk).2⟩, c, hA.set 1 _, hR.set (fun h => (halt g h).2 rfl) _⟩, rfl, (Chg.refl _ _).set (.inl (by simp)) _⟩
theorem take_nil (n : Int) (w : World) : Calls Try.prog 47 #[.pointer none, .int .i64 n] w fun e w' => e = .returned (.tuple #[.slice none 0 0, .bool false]) ∧ Ext w w' := by
  go_enter Try.func47, Try.ntmps47
  go_wp2_with fail
  first | refine fin_ret rfl (fun K hK => ?_) | refine fin_norm rfl (fun K hK => ?_)
  simp [results, Try.results47, go_sem, rsat]
  try go_simp
  refine hK _ ?_
  clear hK K
  exact ⟨rfl, (by repeat (first | (with_reducible exact Ext.refl _) | (with_reducible assumption) | (with_reducible refine Ext.alloc ?_ _) | (with_reducible refine Ext.drew ?_) | (with_reducible refine Ext.drewN ?_ _) | (with_reducible refine Ext.setCell ?_ (by simp; try omega) _) | (with_reducible refine Ext.setRow ?_ (by simp; try omega) _)))⟩
theorem take_bad (g : Nat) (A : Option Addr) (bs : List Int) (f : Int) (hf : f ≠ 0) (n : Int) (w : World) (h : Rdr w g A bs f) :
    Calls Try.prog 47 #[.pointer (some ⟨g, 0, none⟩), .int .i64 n] w fun e w' => e = .returned (.tuple #[.slice none 0 0, .bool false]) ∧ Ext w w' := by
  obtain ⟨_, _, c, hA, _⟩ := h
  have c0 : w.cell? ⟨g, 1, none⟩ = some (.int .i64 f) := hA.cell 1
  have e1 : (f != 0) = true := bne_iff_ne.2 hf
  clear hA
  go_enter Try.func47, Try.ntmps47
  go_wp2_with fail
  first | refine fin_ret rfl (fun K hK => ?_) | refine fin_norm rfl (fun K hK => ?_)
  simp [results, Try.results47, go_sem, rsat]
  try go_simp
  refine hK _ ?_
  clear hK K
  exact ⟨rfl, (by repeat (first | (with_reducible exact Ext.refl _) | (with_reducible assumption) | (with_reducible refine Ext.alloc ?_ _) | (with_reducible refine Ext.drew ?_) | (with_reducible refine Ext.drewN ?_ _) | (with_reducible refine Ext.setCell ?_ (by simp; try omega) _) | (with_reducible refine Ext.setRow ?_ (by simp; try omega) _)))⟩
theorem take_short (g : Nat) (A : Option Addr) (bs : List Int) (n : Nat) (hn : bs.length < n) (w : World) (h : Rdr w g A bs 0) :
    Calls Try.prog 47 #[.pointer (some ⟨g, 0, none⟩), .int .i64 n] w fun e w' => e = .returned (.tuple #[.slice none 0 0, .bool false]) ∧ Reads w g A bs 3 w' A := by
  obtain ⟨hb, halt, c, hA, hR⟩ := h
  have c1 : w.cell? ⟨g, 1, none⟩ = some (.int .i64 0) := hA.cell 1
  have c0 : w.cell? ⟨g, 0, none⟩ = some (.slice A bs.length c) := hA.cell 0
  have f0 := hA.frozen 1
  have sg := hA.lt
  go_enter Try.func47, Try.ntmps47
  go_wp2_with fail
  first | refine fin_ret rfl (fun K hK => ?_) | refine fin_norm rfl (fun K hK => ?_)
  simp [results, Try.results47, go_sem, rsat]
  try go_simp
  refine hK _ ?_
  clear hK K
  exact ⟨rfl, ⟨hb, fun k hk => ⟨by simpa using (halt k hk).1, (halt k hk).2⟩, c, hA.set 1 _, hR.set (fun h => (halt g h).2 rfl) _⟩, rfl, (Chg.refl _ _).set (.inl (by simp)) _⟩
theorem take_ok (g : Nat) (A : Option Addr) (bs : List Int) (n : Nat) (hn : n ≤ bs.length) (w : World) (h : Rdr w g A bs 0) :
    Calls Try.prog 47 #[.pointer (some ⟨g, 0, none⟩), .int .i64 n] w fun e w' => ∃ c, e = .returned (.tuple #[.slice A n c, .bool true]) ∧ (∃ A', Reads w g A (bs.drop n) 0 w' A') ∧ Row w' 5 1 A n c (bc (bs.take n)) := by
  obtain ⟨hb, halt, c, hA, hR⟩ := h
  have c1 : w.cell? ⟨g, 1, none⟩ = some (.int .i64 0) := hA.cell 1
  have c0 : w.cell? ⟨g, 0, none⟩ = some (.slice A bs.length c) := hA.cell 0
  have f0 := hA.frozen 0
  have sg := hA.lt
  have hle := hR.le
  have hmx := hR.max
  unfold maxLen at hmx
  have hd := hR.dropN hn
  have ht := hR.takeN hn
  rw [Nat.mul_one] at hd ht
  have hcut := ablk_cut A c n 1
  have hgA : g ∉ ablk A := fun h => (halt g h).2 rfl
  by_cases hcn : c - n = 0
  · have ec : cutA A c n 1 = A := if_pos hcn
    rw [ec, hcn] at hd
    clear ec
    go_enter Try.func47, Try.ntmps47
    go_wp2_with fail
    all_goals first | (exfalso; omega) | skip
    first | refine fin_ret rfl (fun K hK => ?_) | refine fin_norm rfl (fun K hK => ?_)
    simp [results, Try.results47, go_sem, rsat]
    try go_simp
    refine hK _ ?_
    clear hK K
    have hlt : (bc bs).take n = bc (bs.take n) := List.map_take.symm
    have hld : (bc bs).drop n = bc (bs.drop n) := List.map_drop.symm
    have hll : bs.length - n = (bs.drop n).length := List.length_drop.symm
    rw [hld, hll] at hd
    rw [hlt] at ht
    refine ⟨c, rfl, ⟨A, ⟨fun x hx => hb x (List.mem_of_mem_drop hx), fun k hk => ⟨by simpa using (halt k hk).1, (halt k hk).2⟩, 0, ?_, hd.set hgA _⟩, rfl, (Chg.refl _ _).set (.inl (by simp)) _⟩, ht.set hgA _⟩
    rw [← hll]
    exact hA.set 0 _
  · have ec : cutA A c n 1 = A.map (fun x => x.add n) := by unfold cutA; rw [if_neg hcn, Nat.mul_one]
    rw [ec] at hd hcut
    clear ec
    go_enter Try.func47, Try.ntmps47
    go_wp2_with fail
    all_goals first | (exfalso; omega) | skip
    first | refine fin_ret rfl (fun K hK => ?_) | refine fin_norm rfl (fun K hK => ?_)
    simp [results, Try.results47, go_sem, rsat]
    try go_simp
    refine hK _ ?_
    clear hK K
    have hlt : (bc bs).take n = bc (bs.take n) := List.map_take.symm
    have hld : (bc bs).drop n = bc (bs.drop n) := List.map_drop.symm
    have hll : bs.length - n = (bs.drop n).length := List.length_drop.symm
    rw [hld, hll] at hd
    rw [hlt] at ht
    refine ⟨c, rfl, ⟨A.map (fun x => x.add n), ⟨fun x hx => hb x (List.mem_of_mem_drop hx), fun k hk => ⟨by rw [hcut] at hk; simpa using (halt k hk).1, by rw [hcut] at hk; exact (halt k hk).2⟩, c - n, ?_, hd.set (by rw [hcut]; exact hgA) _⟩, hcut, (Chg.refl _ _).set (.inl (by simp)) _⟩, ht.set hgA _⟩
    rw [← hll]
    exact hA.set 0 _
end Go.Proofs.Ytndcmjpacailjaa
