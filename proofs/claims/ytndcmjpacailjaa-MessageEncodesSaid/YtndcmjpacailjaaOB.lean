/- Bytes (layer 3): numbers by the document; the reader. No condition. -/
import Derived.Test.YtndcmjpacailjaaOA
/- The document's bytes (ref03): Num, Uint, Int, Same. No condition. -/
namespace Go.Proofs.Ytndcmjpacailjaa
open Go.RowKit
attribute [local go_sem] Later.cell QUpon_value QUpon_enter MUpon_value run_eql_slice_nil
set_option maxHeartbeats 2000000 in
set_option maxRecDepth 100000 in
theorem rnum_c (n : Nat) (hn : n < 18446744073709551616) (w : World) : Calls Try.prog 45 #[.int .u64 n] w fun e w' => Ext w w' ∧ ∃ v, e = .returned v ∧ Own w w' v (numB n) := by
  go_enter Try.func45, Try.ntmps45
  go_wp2_with fail
  go_loopw [0, 3] (fun i v wr => ∃ (m : Nat) (ds : List Int), i = .int .u64 m ∧ m ≤ n ∧ numB n = ds ++ numB m ∧ ds.length + (numB m).length ≤ 10 ∧ Ext w wr ∧ Own w wr v ds) (fun i _ _ => (intOf i).toNat)
  case atStart => exact ⟨n, [], rfl, Nat.le_refl _, rfl, by have := numB_len64 hn; simpa using this, Ext.refl _, Own.nil _ _⟩
  case round =>
    obtain ⟨m, ds, rfl, hm, hds, hdl, hx, A, c, rfl, hR, hf⟩ := hrel
    by_cases hs : m < 128
    · have ew : IntKind.u8.wrap (m : Int) = (m : Int) := by rw [u8_wrap, Nat.mod_eq_of_lt (by omega)]
      rw [numB_small hs] at hds hdl
      go_wp2_with (at_builtin; refine wpList_rowapp rfl _ _ 24 5 1 1 (.int .u8 0) rfl Try.underlying24 u8Info rfl (by decide) _ A ds.length c (bc ds) rfl hR [.int .u8 (m : Int)] rfl rfl rfl (by simp at hdl; unfold maxLen; omega) (by simp at hdl; omega) ?_)
      intro A' c' w2 hR2 hC2 hf2
      obtain ⟨o2, x2⟩ := Own.app (ns := [(m : Int)]) hx hf ((Ext.refl wr).alloc _) hC2 hR2 hf2
      go_wp2_with fail
      first | refine fin_ret rfl (fun K hK => ?_) | refine fin_norm rfl (fun K hK => ?_)
      simp [results, Try.results45, go_sem, rsat]
      try go_simp
      refine hK _ ?_
      clear hK K
      refine ⟨x2, _, rfl, ?_⟩
      rw [hds]
      exact o2
    · obtain ⟨b, hb⟩ : ∃ b : Int, b = ((m % 128 + 128 : Nat) : Int) := ⟨_, rfl⟩
      have eo : IntKind.u8.wrap ((m : Int) % 128 + 128) = b := by rw [show ((m : Int) % 128 + 128) = ((m % 128 + 128 : Nat) : Int) by omega, u8_wrap, hb, Nat.mod_eq_of_lt (by omega)]
      rw [numB_big hs, ← hb] at hds hdl
      have hb0 : 0 ≤ b ∧ b < 256 := by omega
      have HB := Lib.hid hb
      clear hb
      go_wp2_with (at_builtin; refine wpList_rowapp rfl _ _ 24 5 1 1 (.int .u8 0) rfl Try.underlying24 u8Info rfl (by decide) _ A ds.length c (bc ds) rfl hR [.int .u8 b] rfl rfl rfl (by simp at hdl; unfold maxLen; omega) (by simp at hdl; omega) ?_)
      intro A' c' w2 hR2 hC2 hf2
      obtain ⟨o2, x2⟩ := Own.app (ns := [b]) hx hf ((Ext.refl wr).alloc _) hC2 hR2 hf2
      go_wp2_with fail
      go_roundw
      case rel => exact ⟨m / 128, ds ++ [b], by go_num, by omega, by rw [hds]; simp, by simp at hdl ⊢; omega, x2, o2⟩
      case measure => simp [intOf]; omega
theorem uintB_step (n i : Nat) : uintB n (i + 1) = ((n / 256 ^ i % 256 : Nat) : Int) :: uintB n i := rfl
set_option maxHeartbeats 2000000 in
set_option maxRecDepth 100000 in
theorem ruint_c (n size : Nat) (hn : n < 18446744073709551616) (hs : 1 ≤ size ∧ size ≤ 8) (w : World) : Calls Try.prog 49 #[.int .u64 n, .int .i64 size] w fun e w' => Ext w w' ∧ ∃ v, e = .returned v ∧ Own w w' v (uintB n size) := by
  go_enter Try.func49, Try.ntmps49
  go_wp2_with fail
  go_loopw [0, 5, 6] (fun m v i wr => ∃ k : Nat, i = .int .i64 k ∧ k ≤ size ∧ m = .int .u64 ((n / 256 ^ k : Nat) : Int) ∧ Ext w wr ∧ Own w wr v (uintB n k)) (fun _ _ i _ => size - (intOf i).toNat)
  case atStart => exact ⟨0, rfl, by omega, by simp, Ext.refl _, Own.nil _ _⟩
  case round =>
    obtain ⟨k, rfl, hk, rfl, hx, A, c, rfl, hR, hf⟩ := hrel
    simp only [uintB_len] at hR ⊢
    by_cases h : k < size
    · obtain ⟨m, hm⟩ : ∃ m, m = n / 256 ^ k := ⟨_, rfl⟩
      have hm2 : n / 256 ^ (k + 1) = m / 256 := by rw [hm, Nat.pow_succ, Nat.div_div_eq_div_mul]
      have hu := uintB_step n k
      rw [← hm] at hu ⊢
      have hm3 : m < 18446744073709551616 := by rw [hm]; exact Nat.lt_of_le_of_lt (Nat.div_le_self _ _) hn
      clear hm
      obtain ⟨b, hb⟩ : ∃ b : Int, b = ((m % 256 : Nat) : Int) := ⟨_, rfl⟩
      have eo : IntKind.u8.wrap ((m : Int) % 256) = b := by rw [show ((m : Int) % 256) = ((m % 256 : Nat) : Int) by omega, u8_wrap, hb, Nat.mod_eq_of_lt (by omega)]
      have eo' : (m : Int) % 256 % 256 = b := by omega
      have eo'' : (m : Int) % 256 = b := by omega
      rw [← hb] at hu
      have HB := Lib.hid hb
      clear hb
      go_wp2_with (at_builtin; refine wpList_rowcat rfl _ _ 24 5 1 1 (.int .u8 0) rfl Try.underlying24 u8Info rfl (by decide) _ _ 1 1 [.int .u8 b] rfl (Row.newRow wr 5 1 1 [.int .u8 b] rfl (by decide)) _ _ _ _ rfl ((hR.src).ext ((Ext.refl wr).alloc _)) (bc_one _) (by unfold maxLen; omega) (by omega) ?_)
      intro A' c' w2 hR2 hC2 hf2
      obtain ⟨o2, x2⟩ := Own.app (bs := [b]) (ns := uintB n k) (hx.alloc _) (fun j hj => by simp [ablk] at hj; have := hx.size; subst hj; simp; omega) (Ext.refl (wr.alloc _)) hC2 (by rw [uintB_len]; exact hR2) (fun j hj => by rw [World.size_alloc]; exact hf2 j hj)
      rw [uintB_len] at o2
      go_wp2_with fail
      go_roundw
      case rel => exact ⟨k + 1, by go_num, by omega, by rw [hm2]; go_num, x2, by rw [hu]; exact o2⟩
      case measure => simp [intOf]; omega
    · obtain rfl : k = size := by omega
      go_wp2_with fail
      first | refine fin_ret rfl (fun K hK => ?_) | refine fin_norm rfl (fun K hK => ?_)
      simp [results, Try.results49, go_sem, rsat]
      try go_simp
      refine hK _ ?_
      clear hK K
      exact ⟨hx, _, rfl, A, c, by rw [uintB_len], by rw [uintB_len]; exact hR, hf⟩
theorem turned_c (s : Int) (h : I64 s) (w : World) : Calls Try.prog 53 #[.int .i64 s] w fun e w' => e = .returned (.int .u64 (turnN s : Nat)) ∧ Ext w w' := by
  unfold turnN
  unfold I64 at h
  by_cases h0 : 0 ≤ s
  · have e1 : IntKind.u64.wrap s = s := by rw [IntKind.wrap_u64]; omega
    rw [if_pos h0]
    go_enter Try.func53, Try.ntmps53
    go_wp2_with fail
    first | refine fin_ret rfl (fun K hK => ?_) | refine fin_norm rfl (fun K hK => ?_)
    simp [results, Try.results53, go_sem, rsat]
    try go_simp
    refine hK _ ?_
    clear hK K
    exact ⟨by congr 2; omega, (by repeat (first | (with_reducible exact Ext.refl _) | (with_reducible assumption) | (with_reducible refine Ext.alloc ?_ _) | (with_reducible refine Ext.drew ?_) | (with_reducible refine Ext.drewN ?_ _) | (with_reducible refine Ext.setCell ?_ (by simp; try omega) _) | (with_reducible refine Ext.setRow ?_ (by simp; try omega) _)))⟩
  · have e1 : IntKind.u64.wrap (-(s + 1)) = -(s + 1) := by rw [IntKind.wrap_u64]; omega
    rw [if_neg h0]
    go_enter Try.func53, Try.ntmps53
    go_wp2_with fail
    first | refine fin_ret rfl (fun K hK => ?_) | refine fin_norm rfl (fun K hK => ?_)
    simp [results, Try.results53, go_sem, rsat]
    try go_simp
    refine hK _ ?_
    clear hK K
    exact ⟨by congr 2; omega, (by repeat (first | (with_reducible exact Ext.refl _) | (with_reducible assumption) | (with_reducible refine Ext.alloc ?_ _) | (with_reducible refine Ext.drew ?_) | (with_reducible refine Ext.drewN ?_ _) | (with_reducible refine Ext.setCell ?_ (by simp; try omega) _) | (with_reducible refine Ext.setRow ?_ (by simp; try omega) _)))⟩
theorem rint_c (s : Int) (h : I64 s) (w : World) : Calls Try.prog 46 #[.int .i64 s] w fun e w' => Ext w w' ∧ ∃ v, e = .returned v ∧ Own w w' v (intB s) := by
  go_enter Try.func46, Try.ntmps46
  go_wp2_with fail
  refine (turned_c s h _).mono ?_
  rintro e w1 ⟨rfl, hxw1⟩
  have xw1 : Ext w w1 := Ext.trans (by repeat (first | (with_reducible exact Ext.refl _) | (with_reducible assumption) | (with_reducible refine Ext.alloc ?_ _) | (with_reducible refine Ext.drew ?_) | (with_reducible refine Ext.drewN ?_ _) | (with_reducible refine Ext.setCell ?_ (by simp; try omega) _) | (with_reducible refine Ext.setRow ?_ (by simp; try omega) _))) hxw1
  have lw1 := xw1.size
  go_wp2_with fail
  refine (ruint_c (turnN s) 8 (turnN_lt h) (by decide) _).mono ?_
  rintro e w2 ⟨hx, v, rfl, ho⟩
  go_wp2_with fail
  first | refine fin_ret rfl (fun K hK => ?_) | refine fin_norm rfl (fun K hK => ?_)
  simp [results, Try.results46, go_sem, rsat]
  try go_simp
  refine hK _ ?_
  clear hK K
  exact ⟨xw1.trans hx, v, rfl, ho.base xw1⟩
theorem ofNat_inj {a b : Int} (ha : 0 ≤ a ∧ a < 256) (hb : 0 ≤ b ∧ b < 256) (h : UInt8.ofNat a.toNat = UInt8.ofNat b.toNat) : a = b := by
  have h1 := congrArg UInt8.toNat h
  simp at h1
  omega
theorem str_inj {xs ys : List Int} (hx : Byt xs) (hy : Byt ys) : strOfNums xs = strOfNums ys ↔ xs = ys := by
  constructor
  · intro h
    have h1 : (strOfNums xs).data.toList = (strOfNums ys).data.toList := by rw [h]
    rw [strOfNums_data, strOfNums_data] at h1
    clear h
    induction xs generalizing ys with
    | nil => cases ys with
      | nil => rfl
      | cons y ys => simp at h1
    | cons x xs ih => cases ys with
      | nil => simp at h1
      | cons y ys =>
        simp only [List.map_cons, List.cons.injEq] at h1
        rw [ofNat_inj (hx x (by simp)) (hy y (by simp)) h1.1, ih (fun z hz => hx z (by simp [hz])) (fun z hz => hy z (by simp [hz])) h1.2]
  · rintro rfl; rfl
theorem loop_eq (bs : ByteArray) : ∀ (n i : Nat) (r : List UInt8), bs.size - i = n → ByteArray.toList.loop bs i r = r.reverse ++ bs.data.toList.drop i := by
  intro n
  induction n with
  | zero =>
    intro i r h
    rw [ByteArray.toList.loop, if_neg (by omega)]
    rw [List.drop_eq_nil_of_le (by have : bs.data.toList.length = bs.size := rfl; omega)]
    simp
  | succ n ih =>
    intro i r h
    rw [ByteArray.toList.loop, if_pos (by omega), ih (i + 1) _ (by omega)]
    have hlt : i < bs.data.toList.length := by have : bs.data.toList.length = bs.size := rfl; omega
    rw [List.drop_eq_getElem_cons hlt]
    have hlt' : i < bs.data.size := hlt
    simp [ByteArray.get!]
    exact getElem!_pos bs.data i hlt'
theorem toList_data (bs : ByteArray) : bs.toList = bs.data.toList := by
  unfold ByteArray.toList
  rw [loop_eq bs _ 0 [] rfl]
  simp
theorem str_beq {xs ys : List Int} (hx : Byt xs) (hy : Byt ys) : ((strOfNums xs).toList == (strOfNums ys).toList) = decide (xs = ys) := by
  rw [toList_data, toList_data, Bool.eq_iff_iff, beq_iff_eq, decide_eq_true_iff, ← str_inj hx hy]
  constructor
  · intro h
    have h1 : (strOfNums xs).data = (strOfNums ys).data := Array.toList_inj.1 h
    exact congrArg ByteArray.mk h1
  · intro h; rw [h]
theorem conv_str {w : World} {A : Option Addr} {n c : Nat} {xs : List Int} (h : Src w 1 A n (bc xs)) : (convert 24 9 (.slice A n c)).run Try.prog w = .ok (.string (strOfNums xs)) w := by
  have hl : xs.length = n := by have := h.len; simpa [bc] using this
  have key : ∀ ad : Addr, (∀ j u, (xs.map (Value.int .u8))[j]? = some u → w.cell? (ad.add j) = some u) → (convert 24 9 (.slice (some ad) n c)).run Try.prog w = .ok (.string (strOfNums xs)) w := by
    intro ad hj
    have h2 := run_loadCells_list (P := Try.prog) w ad (xs.map (Value.int .u8)) hj
    rw [List.length_map, hl] at h2
    rw [run_convert_bytes_string w _ _ _ _ n c Try.underlying24 Try.underlying5 Try.underlying9, run_bytesToString w _ n c xs h2, foldl_push_bytes]
    simp [strOfNums, ByteArray.empty, ByteArray.emptyWithCapacity]
    rfl
  rcases Nat.eq_zero_or_pos n with h0 | h0
  · have hx : xs = [] := List.eq_nil_of_length_eq_zero (by omega)
    cases A with
    | none =>
      subst hx
      exact run_convert_bytes_nil w 24 5 Try.underlying24 Try.underlying5 n c 9 Try.underlying9
    | some a => exact key a (by rw [hx]; simp)
  · obtain ⟨ad, rfl, hj⟩ := h.at_ h0
    exact key ad hj
theorem same_c (A B : Option Addr) (n m c d : Nat) (xs ys : List Int) (w : World) (hA : Src w 1 A n (bc xs)) (hB : Src w 1 B m (bc ys)) (hx : Byt xs) (hy : Byt ys) :
    Calls Try.prog 9 #[.slice A n c, .slice B m d] w fun e w' => e = .returned (.bool (decide (xs = ys))) ∧ Ext w w' := by
  have e1 := conv_str (c := c) hA
  have e2 := conv_str (c := d) hB
  have e3 := str_beq hx hy
  go_enter Try.func9, Try.ntmps9
  go_wp2_with fail
  first | refine fin_ret rfl (fun K hK => ?_) | refine fin_norm rfl (fun K hK => ?_)
  simp [results, Try.results9, go_sem, rsat]
  try go_simp
  refine hK _ ?_
  clear hK K
  exact ⟨rfl, (by repeat (first | (with_reducible exact Ext.refl _) | (with_reducible assumption) | (with_reducible refine Ext.alloc ?_ _) | (with_reducible refine Ext.drew ?_) | (with_reducible refine Ext.drewN ?_ _) | (with_reducible refine Ext.setCell ?_ (by simp; try omega) _) | (with_reducible refine Ext.setRow ?_ (by simp; try omega) _)))⟩
end Go.Proofs.Ytndcmjpacailjaa
/- What a reader reads (octets). Condition: at most 10^9 bytes. -/
namespace Go.Proofs.Ytndcmjpacailjaa
open Go.RowKit
attribute [local go_sem] Later.cell QUpon_value QUpon_enter MUpon_value run_eql_slice_nil
/-- A reader: its block, the bytes that are left, its fault. -/
structure Rdr (w : World) (g : Nat) (A : Option Addr) (bs : List Int) (f : Int) : Prop where
  by_ : Byt bs
  alt : ∀ k ∈ ablk A, k < w.heap.size ∧ k ≠ g
  ex : ∃ c, At w g 82 #[.slice A bs.length c, .int .i64 f] ∧ Row w 5 1 A bs.length c (bc bs)
theorem Rdr.ext {w w' : World} {g : Nat} {A : Option Addr} {bs : List Int} {f : Int} (h : Rdr w g A bs f) (hx : Ext w w') : Rdr w' g A bs f :=
  ⟨h.by_, fun k hk => ⟨Nat.lt_of_lt_of_le (h.alt k hk).1 hx.size, (h.alt k hk).2⟩, let ⟨c, hA, hR⟩ := h.ex; ⟨c, hA.ext hx, hR.ext hx⟩⟩
theorem Rdr.chg {w w' : World} {g : Nat} {A : Option Addr} {bs : List Int} {f : Int} {m : List Nat} (h : Rdr w g A bs f) (hx : Chg w w' m) (hg : g ∉ m) (hA : ∀ k ∈ ablk A, k ∉ m) : Rdr w' g A bs f :=
  ⟨h.by_, fun k hk => ⟨Nat.lt_of_lt_of_le (h.alt k hk).1 hx.size, (h.alt k hk).2⟩, let ⟨c, hA1, hR⟩ := h.ex; ⟨c, hx.at hA1 hg, hR.chg hx hA⟩⟩
/-- What a reading leaves. -/
structure Reads (w : World) (g : Nat) (A : Option Addr) (bs : List Int) (f : Int) (w' : World) (A' : Option Addr) : Prop where
  rd : Rdr w' g A' bs f
  blk : ablk A' = ablk A
  chg : Chg w w' [g]
theorem Reads.refl {w : World} {g : Nat} {A : Option Addr} {bs : List Int} {f : Int} (h : Rdr w g A bs f) : Reads w g A bs f w A := ⟨h, rfl, Chg.refl _ _⟩
theorem Reads.trans {w w1 w2 : World} {g : Nat} {A A1 A2 : Option Addr} {bs cs : List Int} {f k : Int} (h : Reads w g A bs f w1 A1) (m : Reads w1 g A1 cs k w2 A2) : Reads w g A cs k w2 A2 :=
  ⟨m.rd, m.blk.trans h.blk, h.chg.trans m.chg⟩
theorem Reads.extR {w w1 w2 : World} {g : Nat} {A A1 : Option Addr} {bs : List Int} {f : Int} (h : Reads w g A bs f w1 A1) (hx : Ext w1 w2) : Reads w g A bs f w2 A1 :=
  ⟨h.rd.ext hx, h.blk, h.chg.extR hx⟩
theorem newreader_c (B : Option Addr) (xs : List Int) (cb : Nat) (w : World) (hS : Src w 1 B xs.length (bc xs)) (hx : Byt xs) (hl : xs.length ≤ 1000000000) :
    Calls Try.prog 28 #[.slice B xs.length cb] w fun e w' => Ext w w' ∧ ∃ g A, e = .returned (.pointer (some ⟨g, 0, none⟩)) ∧ Rdr w' g A xs 0 ∧ w.heap.size ≤ g ∧ ∀ k ∈ ablk A, w.heap.size ≤ k := by
  go_enter Try.func28, Try.ntmps28
  go_wp2_with fail
  refine (clone_c B xs.length cb xs _ hS hl).mono ?_
  rintro e w1 ⟨hx1, v, rfl, A', c', rfl, hR', hf⟩
  go_wp2_with fail
  first | refine fin_ret rfl (fun K hK => ?_) | refine fin_norm rfl (fun K hK => ?_)
  simp [results, Try.results28, go_sem, rsat]
  try go_simp
  refine hK _ ?_
  clear hK K
  exact ⟨hx1.alloc _, w1.heap.size, A', rfl, ⟨hx, fun k hk => ⟨by have := (hf k hk).2; simp; omega, fun e => by have := (hf k hk).2; omega⟩, c', At.new _ _ _, hR'.alloc _⟩, hx1.size, fun k hk => (hf k hk).1⟩
theorem fault_c (g : Nat) (A : Option Addr) (bs : List Int) (f : Int) (w : World) (h : Rdr w g A bs f) :
    Calls Try.prog 33 #[.pointer (some ⟨g, 0, none⟩)] w fun e w' => e = .returned (.int .i64 f) ∧ Ext w w' := by
  obtain ⟨_, _, c, hA, _⟩ := h
  have c0 : w.cell? ⟨g, 1, none⟩ = some (.int .i64 f) := hA.cell 1
  clear hA
  go_enter Try.func33, Try.ntmps33
  go_wp2_with fail
  first | refine fin_ret rfl (fun K hK => ?_) | refine fin_norm rfl (fun K hK => ?_)
  simp [results, Try.results33, go_sem, rsat]
  try go_simp
  refine hK _ ?_
  clear hK K
  exact ⟨rfl, (by repeat (first | (with_reducible exact Ext.refl _) | (with_reducible assumption) | (with_reducible refine Ext.alloc ?_ _) | (with_reducible refine Ext.drew ?_) | (with_reducible refine Ext.drewN ?_ _) | (with_reducible refine Ext.setCell ?_ (by simp; try omega) _) | (with_reducible refine Ext.setRow ?_ (by simp; try omega) _)))⟩
theorem fault_nil (w : World) : Calls Try.prog 33 #[.pointer none] w fun e w' => e = .returned (.int .i64 3) ∧ Ext w w' := by
  go_enter Try.func33, Try.ntmps33
  go_wp2_with fail
  first | refine fin_ret rfl (fun K hK => ?_) | refine fin_norm rfl (fun K hK => ?_)
  simp [results, Try.results33, go_sem, rsat]
  try go_simp
  refine hK _ ?_
  clear hK K
  exact ⟨rfl, (by repeat (first | (with_reducible exact Ext.refl _) | (with_reducible assumption) | (with_reducible refine Ext.alloc ?_ _) | (with_reducible refine Ext.drew ?_) | (with_reducible refine Ext.drewN ?_ _) | (with_reducible refine Ext.setCell ?_ (by simp; try omega) _) | (with_reducible refine Ext.setRow ?_ (by simp; try omega) _)))⟩
theorem left_c (g : Nat) (A : Option Addr) (bs : List Int) (f : Int) (w : World) (h : Rdr w g A bs f) :
    Calls Try.prog 34 #[.pointer (some ⟨g, 0, none⟩)] w fun e w' => e = .returned (.int .i64 (bs.length : Nat)) ∧ Ext w w' := by
  obtain ⟨_, _, c, hA, _⟩ := h
  have c0 : w.cell? ⟨g, 0, none⟩ = some (.slice A bs.length c) := hA.cell 0
  clear hA
  go_enter Try.func34, Try.ntmps34
  go_wp2_with fail
  first | refine fin_ret rfl (fun K hK => ?_) | refine fin_norm rfl (fun K hK => ?_)
  simp [results, Try.results34, go_sem, rsat]
  try go_simp
  refine hK _ ?_
  clear hK K
  exact ⟨rfl, (by repeat (first | (with_reducible exact Ext.refl _) | (with_reducible assumption) | (with_reducible refine Ext.alloc ?_ _) | (with_reducible refine Ext.drew ?_) | (with_reducible refine Ext.drewN ?_ _) | (with_reducible refine Ext.setCell ?_ (by simp; try omega) _) | (with_reducible refine Ext.setRow ?_ (by simp; try omega) _)))⟩
theorem left_nil (w : World) : Calls Try.prog 34 #[.pointer none] w fun e w' => e = .returned (.int .i64 0) ∧ Ext w w' := by
  go_enter Try.func34, Try.ntmps34
  go_wp2_with fail
  first | refine fin_ret rfl (fun K hK => ?_) | refine fin_norm rfl (fun K hK => ?_)
  simp [results, Try.results34, go_sem, rsat]
  try go_simp
  refine hK _ ?_
  clear hK K
  exact ⟨rfl, (by repeat (first | (with_reducible exact Ext.refl _) | (with_reducible assumption) | (with_reducible refine Ext.alloc ?_ _) | (with_reducible refine Ext.drew ?_) | (with_reducible refine Ext.drewN ?_ _) | (with_reducible refine Ext.setCell ?_ (by simp; try omega) _) | (with_reducible refine Ext.setRow ?_ (by simp; try omega) _)))⟩
theorem bad_c (g : Nat) (A : Option Addr) (bs : List Int) (f : Int) (w : World) (h : Rdr w g A bs f) :
    Calls Try.prog 48 #[.pointer (some ⟨g, 0, none⟩)] w fun e w' => e = .returned (.int .u64 0) ∧ Reads w g A bs 4 w' A := by
  obtain ⟨hb, halt, c, hA, hR⟩ := h
  have c0 : w.cell? ⟨g, 1, none⟩ = some (.int .i64 f) := hA.cell 1
  have f0 := hA.frozen 1
  have sg := hA.lt
  go_enter Try.func48, Try.ntmps48
  go_wp2_with fail
  first | refine fin_ret rfl (fun K hK => ?_) | refine fin_norm rfl (fun K hK => ?_)
  simp [results, Try.results48, go_sem, rsat]
  try go_simp
  refine hK _ ?_
  clear hK K
  exact ⟨rfl, ⟨hb, fun k hk => ⟨by simpa using (halt k hk).1, (halt k hk).2⟩, c, hA.set 1 _, hR.set (fun h => (halt g h).2 rfl) _⟩, rfl, (Chg.refl _ _).set (.inl (by simp)) _⟩
theorem take_nil (n : Int) (w : World) : Calls Try.prog 47 #[.pointer none, .int .i64 n] w fun e w' => e = .returned (.tuple #[.slice none 0 0, .bool false]) ∧ Ext w w' := by
  go_enter Try.func47, Try.ntmps47
  go_wp2_with fail
  first | refine fin_ret rfl (fun K hK => ?_) | refine fin_norm rfl (fun K hK => ?_)
  simp [results, Try.results47, go_sem, rsat]
  try go_simp
  refine hK _ ?_
  clear hK K
  exact ⟨rfl, (by repeat (first | (with_reducible exact Ext.refl _) | (with_reducible assumption) | (with_reducible refine Ext.alloc ?_ _) | (with_reducible refine Ext.drew ?_) | (with_reducible refine Ext.drewN ?_ _) | (with_reducible refine Ext.setCell ?_ (by simp; try omega) _) | (with_reducible refine Ext.setRow ?_ (by simp; try omega) _)))⟩
theorem take_bad (g : Nat) (A : Option Addr) (bs : List Int) (f : Int) (hf : f ≠ 0) (n : Int) (w : World) (h : Rdr w g A bs f) :
    Calls Try.prog 47 #[.pointer (some ⟨g, 0, none⟩), .int .i64 n] w fun e w' => e = .returned (.tuple #[.slice none 0 0, .bool false]) ∧ Ext w w' := by
  obtain ⟨_, _, c, hA, _⟩ := h
  have c0 : w.cell? ⟨g, 1, none⟩ = some (.int .i64 f) := hA.cell 1
  have e1 : (f != 0) = true := bne_iff_ne.2 hf
  clear hA
  go_enter Try.func47, Try.ntmps47
  go_wp2_with fail
  first | refine fin_ret rfl (fun K hK => ?_) | refine fin_norm rfl (fun K hK => ?_)
  simp [results, Try.results47, go_sem, rsat]
  try go_simp
  refine hK _ ?_
  clear hK K
  exact ⟨rfl, (by repeat (first | (with_reducible exact Ext.refl _) | (with_reducible assumption) | (with_reducible refine Ext.alloc ?_ _) | (with_reducible refine Ext.drew ?_) | (with_reducible refine Ext.drewN ?_ _) | (with_reducible refine Ext.setCell ?_ (by simp; try omega) _) | (with_reducible refine Ext.setRow ?_ (by simp; try omega) _)))⟩
theorem take_short (g : Nat) (A : Option Addr) (bs : List Int) (n : Nat) (hn : bs.length < n) (w : World) (h : Rdr w g A bs 0) :
    Calls Try.prog 47 #[.pointer (some ⟨g, 0, none⟩), .int .i64 n] w fun e w' => e = .returned (.tuple #[.slice none 0 0, .bool false]) ∧ Reads w g A bs 3 w' A := by
  obtain ⟨hb, halt, c, hA, hR⟩ := h
  have c1 : w.cell? ⟨g, 1, none⟩ = some (.int .i64 0) := hA.cell 1
  have c0 : w.cell? ⟨g, 0, none⟩ = some (.slice A bs.length c) := hA.cell 0
  have f0 := hA.frozen 1
  have sg := hA.lt
  go_enter Try.func47, Try.ntmps47
  go_wp2_with fail
  first | refine fin_ret rfl (fun K hK => ?_) | refine fin_norm rfl (fun K hK => ?_)
  simp [results, Try.results47, go_sem, rsat]
  try go_simp
  refine hK _ ?_
  clear hK K
  exact ⟨rfl, ⟨hb, fun k hk => ⟨by simpa using (halt k hk).1, (halt k hk).2⟩, c, hA.set 1 _, hR.set (fun h => (halt g h).2 rfl) _⟩, rfl, (Chg.refl _ _).set (.inl (by simp)) _⟩
theorem take_ok (g : Nat) (A : Option Addr) (bs : List Int) (n : Nat) (hn : n ≤ bs.length) (w : World) (h : Rdr w g A bs 0) :
    Calls Try.prog 47 #[.pointer (some ⟨g, 0, none⟩), .int .i64 n] w fun e w' => ∃ c, e = .returned (.tuple #[.slice A n c, .bool true]) ∧ (∃ A', Reads w g A (bs.drop n) 0 w' A') ∧ Row w' 5 1 A n c (bc (bs.take n)) := by
  obtain ⟨hb, halt, c, hA, hR⟩ := h
  have c1 : w.cell? ⟨g, 1, none⟩ = some (.int .i64 0) := hA.cell 1
  have c0 : w.cell? ⟨g, 0, none⟩ = some (.slice A bs.length c) := hA.cell 0
  have f0 := hA.frozen 0
  have sg := hA.lt
  have hle := hR.le
  have hmx := hR.max
  unfold maxLen at hmx
  have hd := hR.dropN hn
  have ht := hR.takeN hn
  rw [Nat.mul_one] at hd ht
  have hcut := ablk_cut A c n 1
  have hgA : g ∉ ablk A := fun h => (halt g h).2 rfl
  by_cases hcn : c - n = 0
  · have ec : cutA A c n 1 = A := if_pos hcn
    rw [ec, hcn] at hd
    clear ec
    go_enter Try.func47, Try.ntmps47
    go_wp2_with fail
    all_goals first | (exfalso; omega) | skip
    first | refine fin_ret rfl (fun K hK => ?_) | refine fin_norm rfl (fun K hK => ?_)
    simp [results, Try.results47, go_sem, rsat]
    try go_simp
    refine hK _ ?_
    clear hK K
    have hlt : (bc bs).take n = bc (bs.take n) := List.map_take.symm
    have hld : (bc bs).drop n = bc (bs.drop n) := List.map_drop.symm
    have hll : bs.length - n = (bs.drop n).length := List.length_drop.symm
    rw [hld, hll] at hd
    rw [hlt] at ht
    refine ⟨c, rfl, ⟨A, ⟨fun x hx => hb x (List.mem_of_mem_drop hx), fun k hk => ⟨by simpa using (halt k hk).1, (halt k hk).2⟩, 0, ?_, hd.set hgA _⟩, rfl, (Chg.refl _ _).set (.inl (by simp)) _⟩, ht.set hgA _⟩
    rw [← hll]
    exact hA.set 0 _
  · have ec : cutA A c n 1 = A.map (fun x => x.add n) := by unfold cutA; rw [if_neg hcn, Nat.mul_one]
    rw [ec] at hd hcut
    clear ec
    go_enter Try.func47, Try.ntmps47
    go_wp2_with fail
    all_goals first | (exfalso; omega) | skip
    first | refine fin_ret rfl (fun K hK => ?_) | refine fin_norm rfl (fun K hK => ?_)
    simp [results, Try.results47, go_sem, rsat]
    try go_simp
    refine hK _ ?_
    clear hK K
    have hlt : (bc bs).take n = bc (bs.take n) := List.map_take.symm
    have hld : (bc bs).drop n = bc (bs.drop n) := List.map_drop.symm
    have hll : bs.length - n = (bs.drop n).length := List.length_drop.symm
    rw [hld, hll] at hd
    rw [hlt] at ht
    refine ⟨c, rfl, ⟨A.map (fun x => x.add n), ⟨fun x hx => hb x (List.mem_of_mem_drop hx), fun k hk => ⟨by rw [hcut] at hk; simpa using (halt k hk).1, by rw [hcut] at hk; exact (halt k hk).2⟩, c - n, ?_, hd.set (by rw [hcut]; exact hgA) _⟩, hcut, (Chg.refl _ _).set (.inl (by simp)) _⟩, ht.set hgA _⟩
    rw [← hll]
    exact hA.set 0 _
end Go.Proofs.Ytndcmjpacailjaa
