/- The document's bytes (ref03): Num, Uint, Int, Same. No condition. -/
import Derived.Test.YthhgkmdjplancaaO3
namespace Go.Proofs.Ythhgkmdjplancaa
open Go.RowKit
attribute [local go_sem] Later.cell QUpon_value QUpon_enter MUpon_value run_eql_slice_nil
theorem uintB_step (n i : Nat) : uintB n (i + 1) = ((n / 256 ^ i % 256 : Nat) : Int) :: uintB n i := rfl
set_option maxHeartbeats 2000000 in
set_option maxRecDepth 100000 in
theorem ruint_c (n size : Nat) (hn : n < 18446744073709551616) (hs : 1 ≤ size ∧ size ≤ 8) (w : World) : Calls Try.prog 22 #[.int .u64 n, .int .i64 size] w fun e w' => Ext w w' ∧ ∃ v, e = .returned v ∧ Own w w' v (uintB n size) := by
  go_enter Try.func22, Try.ntmps22
  go_wp2_with fail
  go_loopw [0, 5, 6] (fun m v i wr => ∃ k : Nat, i = .int .i64 k ∧ k ≤ size ∧ m = .int .u64 ((n / 256 ^ k : Nat) : Int) ∧ Ext w wr ∧ Own w wr v (uintB n k)) (fun _ _ i _ => size - (intOf i).toNat)
  case atStart => exact ⟨0, rfl, by omega, by simp, Ext.refl _, Own.nil _ _⟩
  case round =>
    obtain ⟨k, rfl, hk, rfl, hx, A, c, rfl, hR, hf⟩ := hrel
    simp only [uintB_len] at hR ⊢
    by_cases h : k < size
    · obtain ⟨m, hm⟩ : ∃ m, m = n / 256 ^ k := ⟨_, rfl⟩
      have hm2 : n / 256 ^ (k + 1) = m / 256 := by rw [hm, Nat.pow_succ, Nat.div_div_eq_div_mul]
      have hu := uintB_step n k
      rw [← hm] at hu ⊢
      have hm3 : m < 18446744073709551616 := by rw [hm]; exact Nat.lt_of_le_of_lt (Nat.div_le_self _ _) hn
      clear hm
      obtain ⟨b, hb⟩ : ∃ b : Int, b = ((m % 256 : Nat) : Int) := ⟨_, rfl⟩
      have eo : IntKind.u8.wrap ((m : Int) % 256) = b := by rw [show ((m : Int) % 256) = ((m % 256 : Nat) : Int) by omega, u8_wrap, hb, Nat.mod_eq_of_lt (by omega)]
      have eo' : (m : Int) % 256 % 256 = b := by omega
      have eo'' : (m : Int) % 256 = b := by omega
      rw [← hb] at hu
      have HB := Lib.hid hb
      clear hb
      go_wp2_with (at_builtin; refine wpList_rowcat rfl _ _ 22 5 1 1 (.int .u8 0) rfl Try.underlying22 u8Info rfl (by decide) _ _ 1 1 [.int .u8 b] rfl (Row.newRow wr 5 1 1 [.int .u8 b] rfl (by decide)) _ _ _ _ rfl ((hR.src).ext ((Ext.refl wr).alloc _)) (bc_one _) (by unfold maxLen; omega) (by omega) ?_)
      intro A' c' w2 hR2 hC2 hf2
      obtain ⟨o2, x2⟩ := Own.app (bs := [b]) (ns := uintB n k) (hx.alloc _) (fun j hj => by simp [ablk] at hj; have := hx.size; subst hj; simp; omega) (Ext.refl (wr.alloc _)) hC2 (by rw [uintB_len]; exact hR2) (fun j hj => by rw [World.size_alloc]; exact hf2 j hj)
      rw [uintB_len] at o2
      go_wp2_with fail
      go_roundw
      case rel => exact ⟨k + 1, by go_num, by omega, by rw [hm2]; go_num, x2, by rw [hu]; exact o2⟩
      case measure => simp [intOf]; omega
    · obtain rfl : k = size := by omega
      go_wp2_with fail
      first | refine fin_ret rfl (fun K hK => ?_) | refine fin_norm rfl (fun K hK => ?_)
      simp [results, Try.results22, go_sem, rsat]
      try go_simp
      refine hK _ ?_
      clear hK K
      exact ⟨hx, _, rfl, A, c, by rw [uintB_len], by rw [uintB_len]; exact hR, hf⟩
theorem ofNat_inj {a b : Int} (ha : 0 ≤ a ∧ a < 256) (hb : 0 ≤ b ∧ b < 256) (h : UInt8.ofNat a.toNat = UInt8.ofNat b.toNat) : a = b := by
  have h1 := congrArg UInt8.toNat h
  simp at h1
  omega
theorem str_inj {xs ys : List Int} (hx : Byt xs) (hy : Byt ys) : strOfNums xs = strOfNums ys ↔ xs = ys := by
  constructor
  · intro h
    have h1 : (strOfNums xs).data.toList = (strOfNums ys).data.toList := by rw [h]
    rw [strOfNums_data, strOfNums_data] at h1
    clear h
    induction xs generalizing ys with
    | nil => cases ys with
      | nil => rfl
      | cons y ys => simp at h1
    | cons x xs ih => cases ys with
      | nil => simp at h1
      | cons y ys =>
        simp only [List.map_cons, List.cons.injEq] at h1
        rw [ofNat_inj (hx x (by simp)) (hy y (by simp)) h1.1, ih (fun z hz => hx z (by simp [hz])) (fun z hz => hy z (by simp [hz])) h1.2]
  · rintro rfl; rfl
theorem loop_eq (bs : ByteArray) : ∀ (n i : Nat) (r : List UInt8), bs.size - i = n → ByteArray.toList.loop bs i r = r.reverse ++ bs.data.toList.drop i := by
  intro n
  induction n with
  | zero =>
    intro i r h
    rw [ByteArray.toList.loop, if_neg (by omega)]
    rw [List.drop_eq_nil_of_le (by have : bs.data.toList.length = bs.size := rfl; omega)]
    simp
  | succ n ih =>
    intro i r h
    rw [ByteArray.toList.loop, if_pos (by omega), ih (i + 1) _ (by omega)]
    have hlt : i < bs.data.toList.length := by have : bs.data.toList.length = bs.size := rfl; omega
    rw [List.drop_eq_getElem_cons hlt]
    have hlt' : i < bs.data.size := hlt
    simp [ByteArray.get!]
    exact getElem!_pos bs.data i hlt'
theorem toList_data (bs : ByteArray) : bs.toList = bs.data.toList := by
  unfold ByteArray.toList
  rw [loop_eq bs _ 0 [] rfl]
  simp
theorem str_beq {xs ys : List Int} (hx : Byt xs) (hy : Byt ys) : ((strOfNums xs).toList == (strOfNums ys).toList) = decide (xs = ys) := by
  rw [toList_data, toList_data, Bool.eq_iff_iff, beq_iff_eq, decide_eq_true_iff, ← str_inj hx hy]
  constructor
  · intro h
    have h1 : (strOfNums xs).data = (strOfNums ys).data := Array.toList_inj.1 h
    exact congrArg ByteArray.mk h1
  · intro h; rw [h]
theorem conv_str {w : World} {A : Option Addr} {n c : Nat} {xs : List Int} (h : Src w 1 A n (bc xs)) : (convert 22 9 (.slice A n c)).run Try.prog w = .ok (.string (strOfNums xs)) w := by
  have hl : xs.length = n := by have := h.len; simpa [bc] using this
  have key : ∀ ad : Addr, (∀ j u, (xs.map (Value.int .u8))[j]? = some u → w.cell? (ad.add j) = some u) → (convert 22 9 (.slice (some ad) n c)).run Try.prog w = .ok (.string (strOfNums xs)) w := by
    intro ad hj
    have h2 := run_loadCells_list (P := Try.prog) w ad (xs.map (Value.int .u8)) hj
    rw [List.length_map, hl] at h2
    rw [run_convert_bytes_string w _ _ _ _ n c Try.underlying22 Try.underlying5 Try.underlying9, run_bytesToString w _ n c xs h2, foldl_push_bytes]
    simp [strOfNums, ByteArray.empty, ByteArray.emptyWithCapacity]
    rfl
  rcases Nat.eq_zero_or_pos n with h0 | h0
  · have hx : xs = [] := List.eq_nil_of_length_eq_zero (by omega)
    cases A with
    | none =>
      subst hx
      exact run_convert_bytes_nil w 22 5 Try.underlying22 Try.underlying5 n c 9 Try.underlying9
    | some a => exact key a (by rw [hx]; simp)
  · obtain ⟨ad, rfl, hj⟩ := h.at_ h0
    exact key ad hj
theorem same_c (A B : Option Addr) (n m c d : Nat) (xs ys : List Int) (w : World) (hA : Src w 1 A n (bc xs)) (hB : Src w 1 B m (bc ys)) (hx : Byt xs) (hy : Byt ys) :
    Calls Try.prog 12 #[.slice A n c, .slice B m d] w fun e w' => e = .returned (.bool (decide (xs = ys))) ∧ Ext w w' := by
  have e1 := conv_str (c := c) hA
  have e2 := conv_str (c := d) hB
  have e3 := str_beq hx hy
  go_enter Try.func12, Try.ntmps12
  go_wp2_with fail
  first | refine fin_ret rfl (fun K hK => ?_) | refine fin_norm rfl (fun K hK => ?_)
  simp [results, Try.results12, go_sem, rsat]
  try go_simp
  refine hK _ ?_
  clear hK K
  exact ⟨rfl, (by repeat (first | (with_reducible exact Ext.refl _) | (with_reducible assumption) | (with_reducible refine Ext.alloc ?_ _) | (with_reducible refine Ext.drew ?_) | (with_reducible refine Ext.drewN ?_ _) | (with_reducible refine Ext.setCell ?_ (by simp; try omega) _) | (with_reducible refine Ext.setRow ?_ (by simp; try omega) _)))⟩
end Go.Proofs.Ythhgkmdjplancaa
