/- The walk of Text of the reference of layer 1. -/
import Derived.Test.YtkboegmpfdaneaaC4
import Derived.Laws.IdiomStrings
namespace Go.Proofs.Ytkboegmpfdaneaa
open Go.RowKit
attribute [local go_sem] Later.cell QUpon_value QUpon_enter MUpon_value
attribute [local go_sem ↓ high] loadVar_is storeVar_is
attribute [local go_sem high] zero_bits
attribute [local go_sem] run_loadBits run_storeBits isArr_arr cellsAt_alloc_at cellsAt_alloc_past cellsAt_drew ltn_2 ltn_3 ltn_4 ltn_5 setRow_new setRow_past bitsOf cellsAt_later cellsAt_setRow_far

def digByte (d : Nat) : UInt8 := UInt8.ofNat (48 + d)
theorem digByte_nat (d : Nat) (h : d < 10) : (((digByte d).toNat : Nat) : Int) = 48 + (d : Int) := by
  unfold digByte; rw [UInt8.toNat_ofNat']; omega
theorem conv_dig (d : Nat) (h : d < 10) (W : World) : (convert 55 9 (.slice (some ⟨W.heap.size, 0, none⟩) 1 1)).run Try.prog (W.alloc (.cells #[.int .u8 (48 + (d : Int))] 5)) = .ok (.string ⟨[digByte d].toArray⟩) (W.alloc (.cells #[.int .u8 (48 + (d : Int))] 5)) := by
  refine run_convert_bytes_back (P := Try.prog) _ 55 9 5 ⟨W.heap.size, 0, none⟩ 1 [digByte d] Try.underlying55 Try.underlying5 Try.underlying9 (fun j hj => ?_)
  have : j = 0 := by simpa using hj
  subst this
  simp [Addr.add, digByte_nat d h]
def TxtAt (n : Nat) (w : World) (s : Value) (wr : World) : Prop := ∃ (m : Nat) (bs : List Nat), m < 340282366920938463463374607431768211456 ∧ Hid (bs ++ lsd m = lsd n) ∧ s = .string ⟨(bs.reverse.map digByte).toArray⟩ ∧ Ext w wr ∧ At wr w.heap.size 28 (arr fun j => m.testBit j)

set_option maxRecDepth 100000 in
set_option maxHeartbeats 1600000 in
theorem rtext_c (n : Nat) (hn : n < 340282366920938463463374607431768211456) (w : World) : Calls Try.prog 24 #[bitsOf n] w fun e w' => e = .returned (.string ⟨((lsd n).reverse.map fun d => UInt8.ofNat (48 + d)).toArray⟩) ∧ Ext w w' := by
  unfold bitsOf
  go_enter Try.func24, Try.ntmps24
  go_wp2
  go_loopw [3] (fun s wr => TxtAt n w s wr) (fun s _ => 40 - (match s with | .string b => b.size | _ => 0))
  case atStart => exact ⟨n, [], hn, Lib.hid rfl, rfl, (by repeat (first | exact Ext.refl _ | assumption | refine Ext.alloc ?_ _ | refine Ext.drew ?_ | refine Ext.drewN ?_ _ | refine Ext.setCell ?_ (by simp; try omega) _)), (by repeat (first | exact At.new _ _ _ | (refine At.new' _ _ _ _ ?_; simp; done) | assumption | refine At.drew ?_ | refine At.alloc ?_ _))⟩
  case round =>
    obtain ⟨m, bs, hm, hbs, rfl, hx, hA⟩ := hrel
    have e1 := cellsAt_at hA
    have s1 := hA.lt
    go_wp2_with fail
    refine (rdiv_c m 10 hm ⟨by decide, by decide⟩ (by decide) _).mono ?_
    rintro e w1 ⟨rfl, hxw1⟩
    have e10 : (10 : Int).toNat = 10 := rfl
    rw [e10]
    clear e10
    have hA1 := hA.ext hxw1
    have x1 := hx.trans hxw1
    clear hxw1 e1 s1
    have s1 := hA1.lt
    obtain ⟨d, hd⟩ : ∃ d, d = m % 10 := ⟨_, rfl⟩
    obtain ⟨q, hq⟩ : ∃ q, q = m / 10 := ⟨_, rfl⟩
    rw [← hd, ← hq]
    have hd10 : d < 10 := by omega
    have hql : q < 340282366920938463463374607431768211456 := by omega
    have HD := Lib.hid hd
    have HQ := Lib.hid hq
    clear hd hq
    go_wp2_with fail
    refine (rhalves_c d (by omega) _).mono ?_
    rintro e w2 ⟨rfl, hxw2⟩
    have hdd : ((d / 18446744073709551616 : Nat) : Int) = 0 ∧ ((d % 18446744073709551616 : Nat) : Int) = d := by omega
    rw [hdd.1, hdd.2]
    clear hdd
    have hA2 := At.ext (g := w.heap.size) (t := 28) (cs := arr fun j => m.testBit j) ((hA1.alloc _).alloc _) hxw2
    have hQ2 := At.ext (g := w1.heap.size) (t := 28) (cs := arr fun j => q.testBit j) (by repeat (first | exact At.new _ _ _ | (refine At.new' _ _ _ _ ?_; simp; done) | assumption | refine At.drew ?_ | refine At.alloc ?_ _)) hxw2
    have x2 : Ext w w2 := Ext.trans (by repeat (first | exact Ext.refl _ | assumption | refine Ext.alloc ?_ _ | refine Ext.drew ?_ | refine Ext.drewN ?_ _ | refine Ext.setCell ?_ (by simp; try omega) _)) hxw2
    clear hxw2 hA1 s1
    have s1 := hA2.lt
    have s2 := hQ2.lt
    have e1 := cellsAt_at hA2
    have e2 := cellsAt_at hQ2
    have hcv := conv_dig d hd10 w2
    have hbl : bs.length ≤ 39 := by
      have e := congrArg List.length hbs.out
      simp only [List.length_append] at e
      have := lsd_len 38 n (by omega)
      omega
    go_wp2_with fail
    refine (rlen_c q hql _).mono ?_
    rintro e w3 ⟨rfl, hxw3⟩
    have hA3 := (hA2.alloc (.cells #[.int .u8 (48 + (d : Int))] 5)).ext hxw3
    have hQ3 := (hQ2.alloc (.cells #[.int .u8 (48 + (d : Int))] 5)).ext hxw3
    have x3 : Ext w w3 := Ext.trans (x2.alloc _) hxw3
    clear hxw3 hA2 hQ2 s1 s2 e1 e2 hcv
    have s1 := hA3.lt
    have s2 := hQ3.lt
    have e1 := cellsAt_at hA3
    have e2 := cellsAt_at hQ3
    have hsn : ({ data := #[digByte d] } : ByteArray) ++ { data := (List.map digByte bs).reverse.toArray } = ⟨((bs ++ [d]).reverse.map digByte).toArray⟩ := by
      rw [ByteArray.mk_append_mk]; simp
    by_cases hq0 : q = 0
    · subst hq0
      have hl : (((lenN 0 : Nat) : Int) == 0) = true := by simp [lenN]
      have hfin : bs ++ [d] = lsd n := by
        rw [← hbs.out, lsd_end (by have := HQ.out; omega), HD.out]
      have HF := Lib.hid hfin
      have HS := Lib.hid hsn
      clear hfin hsn
      go_wp2_with fail
      refine fin_ret rfl (fun K hK => ?_)
      simp [results, Try.results24, go_sem, rsat]
      try go_simp
      refine hK _ ?_
      clear hK K
      rw [HS.out, HF.out]
      exact ⟨rfl, x3⟩
    · have hl : (((lenN q : Nat) : Int) == 0) = false := by
        rw [beq_eq_false_iff_ne]
        have := lenN_half q hq0
        omega
      have hnx : (bs ++ [d]) ++ lsd q = lsd n := by
        rw [← hbs.out, lsd_more (n := m) (by have := HQ.out; omega), HD.out, HQ.out]; simp
      have HF := Lib.hid hnx
      have HS := Lib.hid hsn
      clear hnx hsn
      go_wp2_with fail
      go_roundw
      case rel => exact ⟨q, bs ++ [d], hql, HF, by rw [HS.out], Ext.setRow x3 (Nat.le_refl _) _, hA3.setRow _⟩
      case measure => simp [HS.out, ByteArray.size]; omega
end Go.Proofs.Ytkboegmpfdaneaa
