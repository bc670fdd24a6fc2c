/- What the document reads (ref03): Uint, Int, Raw. Condition: at most 10^9 bytes. -/
import Derived.Test.YtndcmjpacailjaaO6
import Derived.Test.YtndcmjpacailjaaFv
import Derived.Test.YtndcmjpacailjaaCa
namespace Go.Proofs.Ytndcmjpacailjaa
open Go.RowKit
/-- A value of ref03.Part, read and written whole: closed words. -/
def loadPrt (a : Addr) : Sem Value := loadVar 61 a
theorem loadPrt_is (a : Addr) : loadVar 61 a = loadPrt a := rfl
theorem run_loadPrt (w : World) (g : Nat) (h : (cellsAt w g).size = 5) : (loadPrt ⟨g, 0, none⟩).run Try.prog w = .ok (.agg (cellsAt w g)) w :=
  loadVar_ca 61 5 (fun _ => by kernel_rfl) (fun _ => by kernel_rfl) w g h
theorem run_loadPrt_at (w : World) (g off : Nat) (h : (subAt w g off 5).size = 5) : (loadPrt ⟨g, off, none⟩).run Try.prog w = .ok (.agg (subAt w g off 5)) w :=
  loadVar_sub 61 5 (fun _ => by kernel_rfl) (fun _ => by kernel_rfl) w g off h
def storePrt (a : Addr) (v : Value) : Sem Unit := storeVar 61 a v
theorem storePrt_is (a : Addr) (v : Value) : storeVar 61 a v = storePrt a v := rfl
theorem run_storePrt (w : World) (g : Nat) (cs : Array Value) (hc : cs.size = 5) (h : (cellsAt w g).size = 5) (h1 : cs.toList.all (·.oneCell') = true) : (storePrt ⟨g, 0, none⟩ (.agg cs)).run Try.prog w = .ok () (w.setRow g cs) :=
  storeVar_ca 61 5 (fun _ => by kernel_rfl) w g cs hc h h1 (by decide)
attribute [local go_sem] Later.cell QUpon_value QUpon_enter MUpon_value run_eql_slice_nil
attribute [local go_sem ↓ high] loadPrt_is storePrt_is
attribute [local go_sem] run_loadPrt run_loadPrt_at run_storePrt one_int one_bool one_slice one_ptr one_str setRow_new setRow_past cell_ca frozen_ca cellsAt_alloc_at cellsAt_alloc_past cellsAt_drew cellsAt_later cellsAt_setCell cellsAt_set_same cellsAt_setRow_same cellsAt_setRow_far subAt_alloc subAt_drew subAt_later subAt_setCell subAt_setRow ltn_2 ltn_3 ltn_4 ltn_5
/-- A Part's cells. -/
def prtC (n : Nat) (s : Int) (v : Value) (size f : Int) : Array Value := #[.int .u64 (n : Int), .int .i64 s, v, .int .i64 size, .int .i64 f]
def prtV (n : Nat) (s : Int) (v : Value) (size f : Int) : Value := .agg (prtC n s v size f)
def nilV : Value := .slice none 0 0
/-- What ReadUint tells: the number, the bytes, the fault. -/
def uintP (bs : List Int) (size : Nat) : Nat × Int × Int := if bs.length < size then (0, 0, 3) else (valN (bs.take size), size, 0)
theorem valN_bytes {l : List Int} (h : Byt l) (k : Nat) (hk : l.length ≤ k) : valN l < 256 ^ k := Nat.lt_of_lt_of_le (valN_lt h) (Nat.pow_le_pow_right (by decide) hk)
theorem readuint_out (v : Value) (size : Int) (hs : size < 1 ∨ 8 < size) (w : World) : Calls Try.prog 35 #[v, .int .i64 size] w fun e w' => e = .returned (.agg #[.int .u64 0, .int .i64 0, .slice none 0 0, .int .i64 0, .int .i64 0]) ∧ Ext w w' := by
  by_cases h : size < 1
  ·
    go_enter Try.func35, Try.ntmps35
    go_wp2_with fail
    first | refine fin_ret rfl (fun K hK => ?_) | refine fin_norm rfl (fun K hK => ?_)
    simp [results, Try.results35, go_sem, rsat]
    try go_simp
    refine hK _ ?_
    clear hK K
    exact ⟨rfl, (by repeat (first | (with_reducible exact Ext.refl _) | (with_reducible assumption) | (with_reducible refine Ext.alloc ?_ _) | (with_reducible refine Ext.drew ?_) | (with_reducible refine Ext.drewN ?_ _) | (with_reducible refine Ext.setCell ?_ (by simp; try omega) _) | (with_reducible refine Ext.setRow ?_ (by simp; try omega) _)))⟩
  · have h2 : 8 < size := by omega
    go_enter Try.func35, Try.ntmps35
    go_wp2_with fail
    first | refine fin_ret rfl (fun K hK => ?_) | refine fin_norm rfl (fun K hK => ?_)
    simp [results, Try.results35, go_sem, rsat]
    try go_simp
    refine hK _ ?_
    clear hK K
    exact ⟨rfl, (by repeat (first | (with_reducible exact Ext.refl _) | (with_reducible assumption) | (with_reducible refine Ext.alloc ?_ _) | (with_reducible refine Ext.drew ?_) | (with_reducible refine Ext.drewN ?_ _) | (with_reducible refine Ext.setCell ?_ (by simp; try omega) _) | (with_reducible refine Ext.setRow ?_ (by simp; try omega) _)))⟩
set_option maxHeartbeats 2000000 in
set_option maxRecDepth 100000 in
theorem readuint_c (A : Option Addr) (c : Nat) (bs : List Int) (size : Nat) (hs : 1 ≤ size ∧ size ≤ 8) (hb : Byt bs) (hl : bs.length ≤ 1000000000) (w : World) (hS : Src w 1 A bs.length (bc bs)) :
    Calls Try.prog 35 #[.slice A bs.length c, .int .i64 size] w fun e w' => e = .returned (.agg #[.int .u64 ((uintP bs size).1 : Nat), .int .i64 0, .slice none 0 0, .int .i64 (uintP bs size).2.1, .int .i64 (uintP bs size).2.2]) ∧ Ext w w' := by
  by_cases hn : bs.length < size
  · have e : uintP bs size = (0, 0, 3) := if_pos hn
    rw [e]
    clear e
    go_enter Try.func35, Try.ntmps35
    go_wp2_with fail
    first | refine fin_ret rfl (fun K hK => ?_) | refine fin_norm rfl (fun K hK => ?_)
    simp [results, Try.results35, go_sem, rsat]
    try go_simp
    refine hK _ ?_
    clear hK K
    exact ⟨rfl, (by repeat (first | (with_reducible exact Ext.refl _) | (with_reducible assumption) | (with_reducible refine Ext.alloc ?_ _) | (with_reducible refine Ext.drew ?_) | (with_reducible refine Ext.drewN ?_ _) | (with_reducible refine Ext.setCell ?_ (by simp; try omega) _) | (with_reducible refine Ext.setRow ?_ (by simp; try omega) _)))⟩
  · have e : uintP bs size = (valN (bs.take size), (size : Int), 0) := if_neg hn
    rw [e]
    clear e
    obtain ⟨b, off, rfl, hbw, hc⟩ := hS.lt (by omega) (by decide)
    have hbl : (bc bs).length = bs.length := bc_len bs
    go_enter Try.func35, Try.ntmps35
    go_wp2_with fail
    go_loopw [5, 6] (fun n i wr => ∃ k : Nat, i = .int .i64 k ∧ k ≤ size ∧ n = .int .u64 ((valN (bs.take k) : Nat) : Int) ∧ wr = w.alloc (.cells #[.int .u64 0, .int .i64 0, .slice none 0 0, .int .i64 0, .int .i64 0] 61)) (fun _ i _ => size - (intOf i).toNat)
    case atStart => exact ⟨0, rfl, by omega, rfl, rfl⟩
    case round =>
      obtain ⟨k, rfl, hk, rfl, rfl⟩ := hrel
      by_cases hlt : k < size
      · have hx0 : bs[k]? = some bs[k] := List.getElem?_eq_getElem (by omega)
        have e0 : w.cell? ⟨b, off + k, none⟩ = some (.int .u8 bs[k]) := by
          rw [hc k (by omega)]
          unfold bc
          rw [List.getElem?_map, hx0]
          rfl
        have hxb := hb bs[k] (List.getElem_mem _)
        have hts : valN (bs.take (k + 1)) = valN (bs.take k) * 256 + bs[k].toNat := by
          rw [List.take_add_one, hx0]
          exact valF_app _ _ _
        have hvl : valN (bs.take k) < 72057594037927936 := valN_bytes (fun x hx => hb x (List.mem_of_mem_take hx)) 7 (by rw [List.length_take]; omega)
        generalize bs[k] = x at e0 hxb hts
        generalize valN (bs.take k) = m at hts hvl ⊢
        clear hx0 hc hS
        have ex : IntKind.u64.wrap x = x := by rw [IntKind.wrap_u64]; omega
        go_wp2_with fail
        go_roundw
        case rel => exact ⟨k + 1, by go_num, by omega, by rw [hts]; go_num, by first | rfl | trivial⟩
        case measure => simp [intOf]; omega
      · obtain rfl : k = size := by omega
        clear hc hS
        go_wp2_with fail
        first | refine fin_ret rfl (fun K hK => ?_) | refine fin_norm rfl (fun K hK => ?_)
        simp [results, Try.results35, go_sem, rsat]
        try go_simp
        refine hK _ ?_
        clear hK K
        exact ⟨rfl, (by repeat (first | (with_reducible exact Ext.refl _) | (with_reducible assumption) | (with_reducible refine Ext.alloc ?_ _) | (with_reducible refine Ext.drew ?_) | (with_reducible refine Ext.drewN ?_ _) | (with_reducible refine Ext.setCell ?_ (by simp; try omega) _) | (with_reducible refine Ext.setRow ?_ (by simp; try omega) _)))⟩
end Go.Proofs.Ytndcmjpacailjaa
