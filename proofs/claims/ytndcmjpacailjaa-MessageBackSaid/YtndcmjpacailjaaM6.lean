/- Messages (layer 6): Decode, by the document. Condition: at most 10^9 bytes. -/
import Derived.Test.YtndcmjpacailjaaM5
import Derived.Test.YtndcmjpacailjaaPs6
namespace Go.Proofs.Ytndcmjpacailjaa
open Go.RowKit
attribute [local go_sem] Later.cell QUpon_value QUpon_enter MUpon_value run_eql_slice_nil Same.cell
attribute [local go_sem ↓ high] loadMsg_is storeMsg_is loadPrt_is storePrt_is
attribute [local go_sem] run_loadMsg run_loadMsg_at run_storeMsg run_loadPrt run_loadPrt_at run_storePrt one_int one_bool one_slice one_ptr one_str setRow_new setRow_past cell_ca frozen_ca cellsAt_alloc_at cellsAt_alloc_past cellsAt_drew cellsAt_later cellsAt_setCell cellsAt_set_same cellsAt_setRow_same cellsAt_setRow_far subAt_alloc subAt_drew subAt_later subAt_setCell subAt_setRow ltn_2 ltn_3 ltn_4 ltn_5
attribute [local go_sem ↓ high] storePrt_is
attribute [local go_sem] run_storePrt_put cell_putAt
theorem rightB_seq (m : Mg) (h : 4611686018427387904 < m.seq) : rightB m = false := by
  unfold rightB
  have : inB 0 4611686018427387904 m.seq = false := by unfold inB; simp; omega
  rw [this]
  simp
theorem rightB_tick (m : Mg) (h : 4611686018427387904 < m.tick) : rightB m = false := by
  unfold rightB
  have : inB 0 4611686018427387904 m.tick = false := by unfold inB; simp; omega
  rw [this]
  simp
/-- The parts behind k rounds. -/
def cellsM (va vb vc vd ve : Nat) (vi vj vp vq : Int) (z4 z5 : Nat) : Nat → Array Value
  | 0 => #[.int .u64 0, .int .i64 0, .slice none 0 0, .int .i64 0, .int .i64 0, .int .u64 0, .int .i64 0, .slice none 0 0, .int .i64 0, .int .i64 0, .int .u64 0, .int .i64 0, .slice none 0 0, .int .i64 0, .int .i64 0, .int .u64 0, .int .i64 0, .slice none 0 0, .int .i64 0, .int .i64 0, .int .u64 0, .int .i64 0, .slice none 0 0, .int .i64 0, .int .i64 0, .int .u64 0, .int .i64 0, .slice none 0 0, .int .i64 0, .int .i64 0, .int .u64 0, .int .i64 0, .slice none 0 0, .int .i64 0, .int .i64 0, .int .u64 0, .int .i64 0, .slice none 0 0, .int .i64 0, .int .i64 0, .int .u64 0, .int .i64 0, .slice none 0 0, .int .i64 0, .int .i64 0]
  | 1 => #[.int .u64 (va : Int), .int .i64 0, .slice none 0 0, .int .i64 1, .int .i64 0, .int .u64 0, .int .i64 0, .slice none 0 0, .int .i64 0, .int .i64 0, .int .u64 0, .int .i64 0, .slice none 0 0, .int .i64 0, .int .i64 0, .int .u64 0, .int .i64 0, .slice none 0 0, .int .i64 0, .int .i64 0, .int .u64 0, .int .i64 0, .slice none 0 0, .int .i64 0, .int .i64 0, .int .u64 0, .int .i64 0, .slice none 0 0, .int .i64 0, .int .i64 0, .int .u64 0, .int .i64 0, .slice none 0 0, .int .i64 0, .int .i64 0, .int .u64 0, .int .i64 0, .slice none 0 0, .int .i64 0, .int .i64 0, .int .u64 0, .int .i64 0, .slice none 0 0, .int .i64 0, .int .i64 0]
  | 2 => #[.int .u64 (va : Int), .int .i64 0, .slice none 0 0, .int .i64 1, .int .i64 0, .int .u64 (vb : Int), .int .i64 0, .slice none 0 0, .int .i64 1, .int .i64 0, .int .u64 0, .int .i64 0, .slice none 0 0, .int .i64 0, .int .i64 0, .int .u64 0, .int .i64 0, .slice none 0 0, .int .i64 0, .int .i64 0, .int .u64 0, .int .i64 0, .slice none 0 0, .int .i64 0, .int .i64 0, .int .u64 0, .int .i64 0, .slice none 0 0, .int .i64 0, .int .i64 0, .int .u64 0, .int .i64 0, .slice none 0 0, .int .i64 0, .int .i64 0, .int .u64 0, .int .i64 0, .slice none 0 0, .int .i64 0, .int .i64 0, .int .u64 0, .int .i64 0, .slice none 0 0, .int .i64 0, .int .i64 0]
  | 3 => #[.int .u64 (va : Int), .int .i64 0, .slice none 0 0, .int .i64 1, .int .i64 0, .int .u64 (vb : Int), .int .i64 0, .slice none 0 0, .int .i64 1, .int .i64 0, .int .u64 (vc : Int), .int .i64 0, .slice none 0 0, .int .i64 1, .int .i64 0, .int .u64 0, .int .i64 0, .slice none 0 0, .int .i64 0, .int .i64 0, .int .u64 0, .int .i64 0, .slice none 0 0, .int .i64 0, .int .i64 0, .int .u64 0, .int .i64 0, .slice none 0 0, .int .i64 0, .int .i64 0, .int .u64 0, .int .i64 0, .slice none 0 0, .int .i64 0, .int .i64 0, .int .u64 0, .int .i64 0, .slice none 0 0, .int .i64 0, .int .i64 0, .int .u64 0, .int .i64 0, .slice none 0 0, .int .i64 0, .int .i64 0]
  | 4 => #[.int .u64 (va : Int), .int .i64 0, .slice none 0 0, .int .i64 1, .int .i64 0, .int .u64 (vb : Int), .int .i64 0, .slice none 0 0, .int .i64 1, .int .i64 0, .int .u64 (vc : Int), .int .i64 0, .slice none 0 0, .int .i64 1, .int .i64 0, .int .u64 (vd : Int), .int .i64 0, .slice none 0 0, .int .i64 (z4 : Int), .int .i64 0, .int .u64 0, .int .i64 0, .slice none 0 0, .int .i64 0, .int .i64 0, .int .u64 0, .int .i64 0, .slice none 0 0, .int .i64 0, .int .i64 0, .int .u64 0, .int .i64 0, .slice none 0 0, .int .i64 0, .int .i64 0, .int .u64 0, .int .i64 0, .slice none 0 0, .int .i64 0, .int .i64 0, .int .u64 0, .int .i64 0, .slice none 0 0, .int .i64 0, .int .i64 0]
  | 5 => #[.int .u64 (va : Int), .int .i64 0, .slice none 0 0, .int .i64 1, .int .i64 0, .int .u64 (vb : Int), .int .i64 0, .slice none 0 0, .int .i64 1, .int .i64 0, .int .u64 (vc : Int), .int .i64 0, .slice none 0 0, .int .i64 1, .int .i64 0, .int .u64 (vd : Int), .int .i64 0, .slice none 0 0, .int .i64 (z4 : Int), .int .i64 0, .int .u64 (ve : Int), .int .i64 0, .slice none 0 0, .int .i64 (z5 : Int), .int .i64 0, .int .u64 0, .int .i64 0, .slice none 0 0, .int .i64 0, .int .i64 0, .int .u64 0, .int .i64 0, .slice none 0 0, .int .i64 0, .int .i64 0, .int .u64 0, .int .i64 0, .slice none 0 0, .int .i64 0, .int .i64 0, .int .u64 0, .int .i64 0, .slice none 0 0, .int .i64 0, .int .i64 0]
  | 6 => #[.int .u64 (va : Int), .int .i64 0, .slice none 0 0, .int .i64 1, .int .i64 0, .int .u64 (vb : Int), .int .i64 0, .slice none 0 0, .int .i64 1, .int .i64 0, .int .u64 (vc : Int), .int .i64 0, .slice none 0 0, .int .i64 1, .int .i64 0, .int .u64 (vd : Int), .int .i64 0, .slice none 0 0, .int .i64 (z4 : Int), .int .i64 0, .int .u64 (ve : Int), .int .i64 0, .slice none 0 0, .int .i64 (z5 : Int), .int .i64 0, .int .u64 0, .int .i64 vi, .slice none 0 0, .int .i64 8, .int .i64 0, .int .u64 0, .int .i64 0, .slice none 0 0, .int .i64 0, .int .i64 0, .int .u64 0, .int .i64 0, .slice none 0 0, .int .i64 0, .int .i64 0, .int .u64 0, .int .i64 0, .slice none 0 0, .int .i64 0, .int .i64 0]
  | 7 => #[.int .u64 (va : Int), .int .i64 0, .slice none 0 0, .int .i64 1, .int .i64 0, .int .u64 (vb : Int), .int .i64 0, .slice none 0 0, .int .i64 1, .int .i64 0, .int .u64 (vc : Int), .int .i64 0, .slice none 0 0, .int .i64 1, .int .i64 0, .int .u64 (vd : Int), .int .i64 0, .slice none 0 0, .int .i64 (z4 : Int), .int .i64 0, .int .u64 (ve : Int), .int .i64 0, .slice none 0 0, .int .i64 (z5 : Int), .int .i64 0, .int .u64 0, .int .i64 vi, .slice none 0 0, .int .i64 8, .int .i64 0, .int .u64 0, .int .i64 vj, .slice none 0 0, .int .i64 8, .int .i64 0, .int .u64 0, .int .i64 0, .slice none 0 0, .int .i64 0, .int .i64 0, .int .u64 0, .int .i64 0, .slice none 0 0, .int .i64 0, .int .i64 0]
  | 8 => #[.int .u64 (va : Int), .int .i64 0, .slice none 0 0, .int .i64 1, .int .i64 0, .int .u64 (vb : Int), .int .i64 0, .slice none 0 0, .int .i64 1, .int .i64 0, .int .u64 (vc : Int), .int .i64 0, .slice none 0 0, .int .i64 1, .int .i64 0, .int .u64 (vd : Int), .int .i64 0, .slice none 0 0, .int .i64 (z4 : Int), .int .i64 0, .int .u64 (ve : Int), .int .i64 0, .slice none 0 0, .int .i64 (z5 : Int), .int .i64 0, .int .u64 0, .int .i64 vi, .slice none 0 0, .int .i64 8, .int .i64 0, .int .u64 0, .int .i64 vj, .slice none 0 0, .int .i64 8, .int .i64 0, .int .u64 0, .int .i64 vp, .slice none 0 0, .int .i64 8, .int .i64 0, .int .u64 0, .int .i64 0, .slice none 0 0, .int .i64 0, .int .i64 0]
  | _ => #[.int .u64 (va : Int), .int .i64 0, .slice none 0 0, .int .i64 1, .int .i64 0, .int .u64 (vb : Int), .int .i64 0, .slice none 0 0, .int .i64 1, .int .i64 0, .int .u64 (vc : Int), .int .i64 0, .slice none 0 0, .int .i64 1, .int .i64 0, .int .u64 (vd : Int), .int .i64 0, .slice none 0 0, .int .i64 (z4 : Int), .int .i64 0, .int .u64 (ve : Int), .int .i64 0, .slice none 0 0, .int .i64 (z5 : Int), .int .i64 0, .int .u64 0, .int .i64 vi, .slice none 0 0, .int .i64 8, .int .i64 0, .int .u64 0, .int .i64 vj, .slice none 0 0, .int .i64 8, .int .i64 0, .int .u64 0, .int .i64 vp, .slice none 0 0, .int .i64 8, .int .i64 0, .int .u64 0, .int .i64 vq, .slice none 0 0, .int .i64 8, .int .i64 0]
/-- The bytes that are left behind k rounds. -/
def restM (bs s1 s2 s3 s4 s5 s6 s7 s8 s9 : List Int) : Nat → List Int
  | 0 => bs
  | 1 => s1
  | 2 => s2
  | 3 => s3
  | 4 => s4
  | 5 => s5
  | 6 => s6
  | 7 => s7
  | 8 => s8
  | _ => s9
def faultM (f1 f2 f3 f4 f5 f6 f7 f8 f9 : Int) : Nat → Int
  | 0 => 0
  | 1 => f1
  | 2 => f2
  | 3 => f3
  | 4 => f4
  | 5 => f5
  | 6 => f6
  | 7 => f7
  | 8 => f8
  | _ => f9
set_option maxHeartbeats 16000000 in
set_option maxRecDepth 100000 in
theorem rdecM_c (B : Option Addr) (cb : Nat) (bs : List Int) (hb : Byt bs) (hl : bs.length ≤ 1000000000) (hlc : bs.length ≤ cb) (hcm : cb ≤ 9223372036854775807) (w : World) (hS : Src w 1 B bs.length (bc bs)) (s1 s2 s3 s4 s5 s6 s7 s8 s9 : List Int) (f1 f2 f3 f4 f5 f6 f7 f8 f9 : Int) (va vb vc vd ve : Nat) (vi vj vp vq : Int) (e1 : uintR bs 0 1 = (va, s1, f1)) (e2 : uintR s1 f1 1 = (vb, s2, f2)) (e3 : uintR s2 f2 1 = (vc, s3, f3)) (e4 : numR s3 f3 = (vd, s4, f4)) (e5 : numR s4 f4 = (ve, s5, f5)) (e6 : (backN (uintR s5 f5 8).1, (uintR s5 f5 8).2) = (vi, s6, f6)) (e7 : (backN (uintR s6 f6 8).1, (uintR s6 f6 8).2) = (vj, s7, f7)) (e8 : (backN (uintR s7 f7 8).1, (uintR s7 f7 8).2) = (vp, s8, f8)) (e9 : (backN (uintR s8 f8 8).1, (uintR s8 f8 8).2) = (vq, s9, f9)) :
    Calls Try.prog 15 #[.slice B bs.length cb] w fun e w' => Ext w w' ∧ ∃ (m : Mg) (f : Int), e = .returned (.tuple #[.agg #[.int .i64 m.kind, .int .i64 m.sym, .int .i64 m.seq, .int .i64 m.tick, .int .i64 m.id, .int .i64 m.wth, .int .i64 m.price, .int .i64 m.qty, .int .i64 m.code], .int .i64 f]) ∧ (m, f) = finM ⟨(va : Int), (vb : Int), (min vd 4611686018427387905 : Nat), (min ve 4611686018427387905 : Nat), vi, vj, vp, vq, (vc : Int)⟩ s9 f9 := by
  have p2 : f1 ≠ 0 → f2 = f1 := fun h => uintR_stays e2 h
  have p3 : f2 ≠ 0 → f3 = f2 := fun h => uintR_stays e3 h
  have p4 : f3 ≠ 0 → f4 = f3 := fun h => numR_stays e4 h
  have p5 : f4 ≠ 0 → f5 = f4 := fun h => numR_stays e5 h
  have p6 : f5 ≠ 0 → f6 = f5 := fun h => intR_stays e6 h
  have p7 : f6 ≠ 0 → f7 = f6 := fun h => intR_stays e7 h
  have p8 : f7 ≠ 0 → f8 = f7 := fun h => intR_stays e8 h
  have p9 : f8 ≠ 0 → f9 = f8 := fun h => intR_stays e9 h
  have k1 := uintR_read (f0 := 0) e1 rfl
  have k2 := fun (h : f1 = 0) => uintR_read (f0 := f1) e2 h
  have k3 := fun (h : f2 = 0) => uintR_read (f0 := f2) e3 h
  have k4 := fun (h : f3 = 0) => numR_read (f0 := f3) e4 h
  have k5 := fun (h : f4 = 0) => numR_read (f0 := f4) e5 h
  have k6 := fun (h : f5 = 0) => intR_read (f0 := f5) e6 h
  have k7 := fun (h : f6 = 0) => intR_read (f0 := f6) e7 h
  have k8 := fun (h : f7 = 0) => intR_read (f0 := f7) e8 h
  have k9 := fun (h : f8 = 0) => intR_read (f0 := f8) e9 h
  obtain ⟨z4, hz4⟩ : ∃ z4 : Nat, z4 = s3.length - s4.length := ⟨_, rfl⟩
  obtain ⟨z5, hz5⟩ : ∃ z5 : Nat, z5 = s4.length - s5.length := ⟨_, rfl⟩
  have y1 : Byt s1 ∧ s1.length ≤ 1000000000 ∧ va < 256 := uintR_byt hb hl e1
  have y2 : Byt s2 ∧ s2.length ≤ 1000000000 ∧ vb < 256 := uintR_byt y1.1 y1.2.1 e2
  have y3 : Byt s3 ∧ s3.length ≤ 1000000000 ∧ vc < 256 := uintR_byt y2.1 y2.2.1 e3
  have y4 : Byt s4 ∧ s4.length ≤ 1000000000 := numR_byt y3.1 y3.2.1 e4
  have y5 : Byt s5 ∧ s5.length ≤ 1000000000 := numR_byt y4.1 y4.2 e5
  have y6 : Byt s6 ∧ s6.length ≤ 1000000000 := intR_byt y5.1 y5.2 e6
  have y7 : Byt s7 ∧ s7.length ≤ 1000000000 := intR_byt y6.1 y6.2 e7
  have y8 : Byt s8 ∧ s8.length ≤ 1000000000 := intR_byt y7.1 y7.2 e8
  have y9 : Byt s9 ∧ s9.length ≤ 1000000000 := intR_byt y8.1 y8.2 e9
  have HC : Hid (∀ W, Ext w W → Src W 1 B bs.length (bc bs)) := Lib.hid (fun W hx => hS.ext hx)
  have Hy0 := Lib.hid hb
  have Hy1 := Lib.hid y1.1
  have Hy2 := Lib.hid y2.1
  have Hy3 := Lib.hid y3.1
  have Hy4 := Lib.hid y4.1
  have Hy5 := Lib.hid y5.1
  have Hy6 := Lib.hid y6.1
  have Hy7 := Lib.hid y7.1
  have Hy8 := Lib.hid y8.1
  have l1 := y1.2.1
  have l2 := y2.2.1
  have l3 := y3.2.1
  have l4 := y4.2
  have l5 := y5.2
  have l6 := y6.2
  have l7 := y7.2
  have l8 := y8.2
  have l9 := y9.2
  have wa := y1.2.2
  have wb := y2.2.2
  have wc := y3.2.2
  have HK1 := Lib.hid k1
  have HK2 := Lib.hid k2
  have HK3 := Lib.hid k3
  have HK4 := Lib.hid k4
  have HK5 := Lib.hid k5
  have HK6 := Lib.hid k6
  have HK7 := Lib.hid k7
  have HK8 := Lib.hid k8
  have HK9 := Lib.hid k9
  have HP2 := Lib.hid p2
  have HP3 := Lib.hid p3
  have HP4 := Lib.hid p4
  have HP5 := Lib.hid p5
  have HP6 := Lib.hid p6
  have HP7 := Lib.hid p7
  have HP8 := Lib.hid p8
  have HP9 := Lib.hid p9
  clear k1 k2 k3 k4 k5 k6 k7 k8 k9 p2 p3 p4 p5 p6 p7 p8 p9 y1 y2 y3 y4 y5 y6 y7 y8 y9 e1 e2 e3 e4 e5 e6 e7 e8 e9 hb hS
  have HZ4 := Lib.hid hz4
  have HZ5 := Lib.hid hz5
  clear hz4 hz5
  go_enter Try.func15, Try.ntmps15
  go_wp2_with fail
  go_loopw [0, 5] (fun b i wr => ∃ (k : Nat) (A : Option Addr) (c : Nat), i = .int .i64 k ∧ k ≤ 9 ∧ b = .slice A (restM bs s1 s2 s3 s4 s5 s6 s7 s8 s9 k).length c ∧ (restM bs s1 s2 s3 s4 s5 s6 s7 s8 s9 k).length ≤ c ∧ c ≤ 9223372036854775807 ∧ Hid (∀ W, Ext w W → Src W 1 A (restM bs s1 s2 s3 s4 s5 s6 s7 s8 s9 k).length (bc (restM bs s1 s2 s3 s4 s5 s6 s7 s8 s9 k))) ∧ Hid (faultM f1 f2 f3 f4 f5 f6 f7 f8 f9 k = 0) ∧ Ext w wr ∧ At wr w.heap.size 23 #[.int .i64 0, .int .i64 0, .int .i64 0, .int .i64 0, .int .i64 0, .int .i64 0, .int .i64 0, .int .i64 0, .int .i64 0] ∧ At wr (w.heap.size + 1) 62 (cellsM va vb vc vd ve vi vj vp vq z4 z5 k)) (fun _ i _ => 9 - (intOf i).toNat)
  case atStart => exact ⟨0, B, cb, rfl, by omega, rfl, hlc, hcm, HC, Lib.hid rfl, (by repeat (first | (with_reducible exact Ext.refl _) | (with_reducible assumption) | (with_reducible refine Ext.alloc ?_ _) | (with_reducible refine Ext.drew ?_) | (with_reducible refine Ext.drewN ?_ _) | (with_reducible refine Ext.setCell ?_ (by simp; try omega) _) | (with_reducible refine Ext.setRow ?_ (by simp; try omega) _))), (by repeat (first | (with_reducible exact At.new _ _ _) | ((with_reducible refine At.new' _ _ _ _ ?_); simp; done) | (with_reducible assumption) | (with_reducible refine At.drew ?_) | (with_reducible refine At.alloc ?_ _) | (with_reducible apply At.upd) | (with_reducible apply At.setRow) | (with_reducible refine At.rowFar ?_ (by first | (simp; done) | (simp; omega) | omega) _) | ((with_reducible refine At.far ?_ (by first | (simp; done) | (simp; omega) | omega) _)) | (with_reducible rfl) | (simp; done))), by simp only [cellsM]; exact (by repeat (first | (with_reducible exact At.new _ _ _) | ((with_reducible refine At.new' _ _ _ _ ?_); simp; done) | (with_reducible assumption) | (with_reducible refine At.drew ?_) | (with_reducible refine At.alloc ?_ _) | (with_reducible apply At.upd) | (with_reducible apply At.setRow) | (with_reducible refine At.rowFar ?_ (by first | (simp; done) | (simp; omega) | omega) _) | ((with_reducible refine At.far ?_ (by first | (simp; done) | (simp; omega) | omega) _)) | (with_reducible rfl) | (simp; done)))⟩
  case round =>
    obtain ⟨k, A, c, rfl, hk, rfl, hac, hcx, HS, HF, hx, hM, hP⟩ := hrel
    have hgp : w.heap.size < w.heap.size + 1 := by omega
    generalize w.heap.size + 1 = gp at *
    have hkk : k = 0 ∨ k = 1 ∨ k = 2 ∨ k = 3 ∨ k = 4 ∨ k = 5 ∨ k = 6 ∨ k = 7 ∨ k = 8 ∨ k = 9 := by omega
    rcases hkk with rfl | rfl | rfl | rfl | rfl | rfl | rfl | rfl | rfl | rfl
    ·
      simp only [restM] at HS hac ⊢
      have HF0 : 0 = (0 : Int) := HF.out
      obtain ⟨okk, bad⟩ := HK1.out
      have CC := fun W (hW : Src W 1 A bs.length (bc bs)) => readuint_c A c bs 1 (by decide) Hy0.out (by omega) W hW
      have eM := cellsAt_at hM
      have sM := hM.lt
      have eP := cellsAt_at hP
      have sP := hP.lt
      simp only [cellsM] at eP hP
      by_cases hf : f1 = 0
      · obtain ⟨hv, hz, hd⟩ := okk hf
        simp only [hv] at CC
        have HCC := Lib.hid CC
        have HD := Lib.hid hd
        have HF1 := Lib.hid hf
        clear CC okk bad hv hd hf HF HF0
        go_wp2_with fail
        refine (HCC.out _ (HS.out _ hx)).mono ?_
        rintro e w1 ⟨rfl, hx1⟩
        have hM1 := hM.ext hx1
        have hP1 := hP.ext hx1
        have x1 := hx.trans hx1
        clear eM sM eP sP hM hP hx hx1
        have eM := cellsAt_at hM1
        have sM := hM1.lt
        have eP := cellsAt_at hP1
        have sP := hP1.lt
        by_cases hcut : c - 1 = 0
        · go_wp2_with fail
          all_goals first | (exfalso; omega) | skip
          go_roundw
          case rel => exact ⟨1, _, _, rfl, by omega, by simp only [restM]; rw [HD.out, List.length_drop], by simp only [restM]; rw [HD.out, List.length_drop]; omega, by omega, Lib.hid (fun W hW => by simp only [restM]; rw [HD.out, List.length_drop]; exact (HS.out W hW).drop5 (by omega) _ (by intro; omega)), HF1, putAt_ext x1 (by omega) _ _, hM1.putFar (by omega) _ _, hP1.putAt _ _⟩
          case measure => simp [intOf]
        · go_wp2_with fail
          all_goals first | (exfalso; omega) | skip
          go_roundw
          case rel => exact ⟨1, _, _, rfl, by omega, by simp only [restM]; rw [HD.out, List.length_drop], by simp only [restM]; rw [HD.out, List.length_drop]; omega, by omega, Lib.hid (fun W hW => by simp only [restM]; rw [HD.out, List.length_drop]; exact (HS.out W hW).drop5 (by omega) _ (by intro _; first | rfl | (rw [if_neg (by omega)]; rfl))), HF1, putAt_ext x1 (by omega) _ _, hM1.putFar (by omega) _ _, hP1.putAt _ _⟩
          case measure => simp [intOf]
      · have hz := bad hf
        simp only [hz] at CC
        have HCC := Lib.hid CC
        have hne : (f1 != 0) = true := bne_iff_ne.2 hf
        have hq1 : f1 = f1 := rfl
        have hq2 : f2 = f1 := (HP2.out (by rw [hq1]; exact hf)).trans hq1
        have hq3 : f3 = f1 := (HP3.out (by rw [hq2]; exact hf)).trans hq2
        have hq4 : f4 = f1 := (HP4.out (by rw [hq3]; exact hf)).trans hq3
        have hq5 : f5 = f1 := (HP5.out (by rw [hq4]; exact hf)).trans hq4
        have hq6 : f6 = f1 := (HP6.out (by rw [hq5]; exact hf)).trans hq5
        have hq7 : f7 = f1 := (HP7.out (by rw [hq6]; exact hf)).trans hq6
        have hq8 : f8 = f1 := (HP8.out (by rw [hq7]; exact hf)).trans hq7
        have hq9 : f9 = f1 := (HP9.out (by rw [hq8]; exact hf)).trans hq8
        have hfz : finM ⟨(va : Int), (vb : Int), (min vd 4611686018427387905 : Nat), (min ve 4611686018427387905 : Nat), vi, vj, vp, vq, (vc : Int)⟩ s9 f9 = (zeroM, f1) := by unfold finM; rw [if_pos (by rw [hq9]; exact hf), hq9]
        have HFIN := Lib.hid hfz
        clear hfz CC okk bad hz HF HF0 hf hq1 hq2 hq3 hq4 hq5 hq6 hq7 hq8 hq9
        go_wp2_with fail
        refine (HCC.out _ (HS.out _ hx)).mono ?_
        rintro e w1 ⟨rfl, hx1⟩
        have hM1 := hM.ext hx1
        have hP1 := hP.ext hx1
        have x1 := hx.trans hx1
        clear eM sM eP sP hM hP hx hx1
        have eM := cellsAt_at hM1
        have sM := hM1.lt
        have eP := cellsAt_at hP1
        have sP := hP1.lt
        go_wp2_with fail
        obtain ⟨w2, hw2⟩ : ∃ W : World, W = putAt w1 gp 0 #[.int .u64 0, .int .i64 0, .slice none 0 0, .int .i64 0, .int .i64 f1] := ⟨_, rfl⟩
        have x2 : Ext w w2 := by rw [hw2]; exact putAt_ext x1 (by omega) _ _
        have hM2 : At w2 w.heap.size 23 #[.int .i64 0, .int .i64 0, .int .i64 0, .int .i64 0, .int .i64 0, .int .i64 0, .int .i64 0, .int .i64 0, .int .i64 0] := by rw [hw2]; exact hM1.putFar (by omega) _ _
        have hc2 : w2.cell? ⟨gp, 4, none⟩ = some (.int .i64 f1) := by rw [hw2, cell_putAt _ _ _ _ _ rfl (by rw [eP]; rfl)]; rfl
        have hs2 : w2.heap.size = w1.heap.size := by rw [hw2]; simp [putAt]
        rw [← hw2]
        clear hw2 eM eP hM1 hP1
        have s2 : gp < w2.heap.size := by omega
        have sM2 := hM2.lt
        have eM2 := cellsAt_at hM2
        refine wp_region_s [0, 0, 0, 0, 0, 1, 0] (fun x => ∀ b ∈ [gp], x.heap[b]? = w2.heap[b]?) (by kernel_rfl) (by kernel_rfl) ?_
        refine hls_same (fun K hK => ?_)
        go_simp
        refine hK _ ?_
        clear hK K
        refine hls_same (fun K hK => ?_)
        go_simp
        refine hK _ ?_
        clear hK K
        refine hls_same (fun K hK => ?_)
        go_simp
        refine hK _ ?_
        clear hK K
        refine hls_same (fun K hK => ?_)
        go_simp
        refine hK _ ?_
        clear hK K
        refine hls_same (fun K hK => ?_)
        go_simp
        refine hK _ ?_
        clear hK K
        refine hls_skip (by decide) ?_
        refine hls_same (fun K hK => ?_)
        go_simp
        refine hK _ ?_
        clear hK K
        refine hls_nil ?_
        intro w3 hxw3 K hK
        have hM3 := hM2.ext hxw3
        have x3 := x2.trans hxw3
        have same3 : ∀ b ∈ [gp], w3.heap[b]? = w2.heap[b]? := fun b hb => by simp at hb; subst hb; exact hxw3.block _ s2
        have eM3 := cellsAt_at hM3
        have sM3 := hM3.lt
        refine ms_pass ?_
        refine ms_pass ?_
        refine ms_pass ?_
        refine ms_pass ?_
        refine ms_pass ?_
        refine ms_do (by decide) (same3) (fun K' hK' => ?_)
        go_wp2_with fail
        obtain ⟨w4, hw4⟩ : ∃ W : World, W = w3.setRow w.heap.size #[.int .i64 0, .int .i64 0, .int .i64 0, .int .i64 0, .int .i64 0, .int .i64 0, .int .i64 0, .int .i64 0, .int .i64 0] := ⟨_, rfl⟩
        have x4 : Ext w w4 := by rw [hw4]; exact x3.setRow (Nat.le_refl _) _
        have hM4 : At w4 w.heap.size 23 #[.int .i64 0, .int .i64 0, .int .i64 0, .int .i64 0, .int .i64 0, .int .i64 0, .int .i64 0, .int .i64 0, .int .i64 0] := by rw [hw4]; exact hM3.setRow _
        have same4 : ∀ b ∈ [gp], w4.heap[b]? = w2.heap[b]? := fun b hb => by have := same3 b hb; rw [hw4]; rw [← this]; simp at hb; subst hb; exact setRow_other _ _ _ _ (by omega)
        rw [← hw4]
        clear hw4 eM3
        refine ms_pass ?_
        refine ms_nil (same4) (hK _ _ ?_)
        have eM4 := cellsAt_at hM4
        have sM4 := hM4.lt
        go_wp2_with fail
        first | refine fin_ret rfl (fun K hK => ?_) | refine fin_norm rfl (fun K hK => ?_)
        simp [results, Try.results15, go_sem, rsat]
        try go_simp
        refine hK _ ?_
        clear hK K
        exact ⟨x4, zeroM, f1, rfl, by rw [HFIN.out]⟩
    ·
      simp only [restM] at HS hac ⊢
      have HF0 : f1 = (0 : Int) := HF.out
      obtain ⟨okk, bad⟩ := HK2.out HF0
      have CC := fun W (hW : Src W 1 A s1.length (bc s1)) => readuint_c A c s1 1 (by decide) Hy1.out (by omega) W hW
      have eM := cellsAt_at hM
      have sM := hM.lt
      have eP := cellsAt_at hP
      have sP := hP.lt
      simp only [cellsM] at eP hP
      by_cases hf : f2 = 0
      · obtain ⟨hv, hz, hd⟩ := okk hf
        simp only [hv] at CC
        have HCC := Lib.hid CC
        have HD := Lib.hid hd
        have HF1 := Lib.hid hf
        clear CC okk bad hv hd hf HF HF0
        go_wp2_with fail
        refine (HCC.out _ (HS.out _ hx)).mono ?_
        rintro e w1 ⟨rfl, hx1⟩
        have hM1 := hM.ext hx1
        have hP1 := hP.ext hx1
        have x1 := hx.trans hx1
        clear eM sM eP sP hM hP hx hx1
        have eM := cellsAt_at hM1
        have sM := hM1.lt
        have eP := cellsAt_at hP1
        have sP := hP1.lt
        by_cases hcut : c - 1 = 0
        · go_wp2_with fail
          all_goals first | (exfalso; omega) | skip
          go_roundw
          case rel => exact ⟨2, _, _, rfl, by omega, by simp only [restM]; rw [HD.out, List.length_drop], by simp only [restM]; rw [HD.out, List.length_drop]; omega, by omega, Lib.hid (fun W hW => by simp only [restM]; rw [HD.out, List.length_drop]; exact (HS.out W hW).drop5 (by omega) _ (by intro; omega)), HF1, putAt_ext x1 (by omega) _ _, hM1.putFar (by omega) _ _, hP1.putAt _ _⟩
          case measure => simp [intOf]
        · go_wp2_with fail
          all_goals first | (exfalso; omega) | skip
          go_roundw
          case rel => exact ⟨2, _, _, rfl, by omega, by simp only [restM]; rw [HD.out, List.length_drop], by simp only [restM]; rw [HD.out, List.length_drop]; omega, by omega, Lib.hid (fun W hW => by simp only [restM]; rw [HD.out, List.length_drop]; exact (HS.out W hW).drop5 (by omega) _ (by intro _; first | rfl | (rw [if_neg (by omega)]; rfl))), HF1, putAt_ext x1 (by omega) _ _, hM1.putFar (by omega) _ _, hP1.putAt _ _⟩
          case measure => simp [intOf]
      · have hz := bad hf
        simp only [hz] at CC
        have HCC := Lib.hid CC
        have hne : (f2 != 0) = true := bne_iff_ne.2 hf
        have hq2 : f2 = f2 := rfl
        have hq3 : f3 = f2 := (HP3.out (by rw [hq2]; exact hf)).trans hq2
        have hq4 : f4 = f2 := (HP4.out (by rw [hq3]; exact hf)).trans hq3
        have hq5 : f5 = f2 := (HP5.out (by rw [hq4]; exact hf)).trans hq4
        have hq6 : f6 = f2 := (HP6.out (by rw [hq5]; exact hf)).trans hq5
        have hq7 : f7 = f2 := (HP7.out (by rw [hq6]; exact hf)).trans hq6
        have hq8 : f8 = f2 := (HP8.out (by rw [hq7]; exact hf)).trans hq7
        have hq9 : f9 = f2 := (HP9.out (by rw [hq8]; exact hf)).trans hq8
        have hfz : finM ⟨(va : Int), (vb : Int), (min vd 4611686018427387905 : Nat), (min ve 4611686018427387905 : Nat), vi, vj, vp, vq, (vc : Int)⟩ s9 f9 = (zeroM, f2) := by unfold finM; rw [if_pos (by rw [hq9]; exact hf), hq9]
        have HFIN := Lib.hid hfz
        clear hfz CC okk bad hz HF HF0 hf hq2 hq3 hq4 hq5 hq6 hq7 hq8 hq9
        go_wp2_with fail
        refine (HCC.out _ (HS.out _ hx)).mono ?_
        rintro e w1 ⟨rfl, hx1⟩
        have hM1 := hM.ext hx1
        have hP1 := hP.ext hx1
        have x1 := hx.trans hx1
        clear eM sM eP sP hM hP hx hx1
        have eM := cellsAt_at hM1
        have sM := hM1.lt
        have eP := cellsAt_at hP1
        have sP := hP1.lt
        go_wp2_with fail
        obtain ⟨w2, hw2⟩ : ∃ W : World, W = putAt w1 gp 5 #[.int .u64 0, .int .i64 0, .slice none 0 0, .int .i64 0, .int .i64 f2] := ⟨_, rfl⟩
        have x2 : Ext w w2 := by rw [hw2]; exact putAt_ext x1 (by omega) _ _
        have hM2 : At w2 w.heap.size 23 #[.int .i64 0, .int .i64 0, .int .i64 0, .int .i64 0, .int .i64 0, .int .i64 0, .int .i64 0, .int .i64 0, .int .i64 0] := by rw [hw2]; exact hM1.putFar (by omega) _ _
        have hc2 : w2.cell? ⟨gp, 9, none⟩ = some (.int .i64 f2) := by rw [hw2, cell_putAt _ _ _ _ _ rfl (by rw [eP]; rfl)]; rfl
        have hs2 : w2.heap.size = w1.heap.size := by rw [hw2]; simp [putAt]
        rw [← hw2]
        clear hw2 eM eP hM1 hP1
        have s2 : gp < w2.heap.size := by omega
        have sM2 := hM2.lt
        have eM2 := cellsAt_at hM2
        refine wp_region_s [0, 0, 0, 0, 0, 1, 0] (fun x => ∀ b ∈ [gp], x.heap[b]? = w2.heap[b]?) (by kernel_rfl) (by kernel_rfl) ?_
        refine hls_same (fun K hK => ?_)
        go_simp
        refine hK _ ?_
        clear hK K
        refine hls_same (fun K hK => ?_)
        go_simp
        refine hK _ ?_
        clear hK K
        refine hls_same (fun K hK => ?_)
        go_simp
        refine hK _ ?_
        clear hK K
        refine hls_same (fun K hK => ?_)
        go_simp
        refine hK _ ?_
        clear hK K
        refine hls_same (fun K hK => ?_)
        go_simp
        refine hK _ ?_
        clear hK K
        refine hls_skip (by decide) ?_
        refine hls_same (fun K hK => ?_)
        go_simp
        refine hK _ ?_
        clear hK K
        refine hls_nil ?_
        intro w3 hxw3 K hK
        have hM3 := hM2.ext hxw3
        have x3 := x2.trans hxw3
        have same3 : ∀ b ∈ [gp], w3.heap[b]? = w2.heap[b]? := fun b hb => by simp at hb; subst hb; exact hxw3.block _ s2
        have eM3 := cellsAt_at hM3
        have sM3 := hM3.lt
        refine ms_pass ?_
        refine ms_pass ?_
        refine ms_pass ?_
        refine ms_pass ?_
        refine ms_pass ?_
        refine ms_do (by decide) (same3) (fun K' hK' => ?_)
        go_wp2_with fail
        obtain ⟨w4, hw4⟩ : ∃ W : World, W = w3.setRow w.heap.size #[.int .i64 0, .int .i64 0, .int .i64 0, .int .i64 0, .int .i64 0, .int .i64 0, .int .i64 0, .int .i64 0, .int .i64 0] := ⟨_, rfl⟩
        have x4 : Ext w w4 := by rw [hw4]; exact x3.setRow (Nat.le_refl _) _
        have hM4 : At w4 w.heap.size 23 #[.int .i64 0, .int .i64 0, .int .i64 0, .int .i64 0, .int .i64 0, .int .i64 0, .int .i64 0, .int .i64 0, .int .i64 0] := by rw [hw4]; exact hM3.setRow _
        have same4 : ∀ b ∈ [gp], w4.heap[b]? = w2.heap[b]? := fun b hb => by have := same3 b hb; rw [hw4]; rw [← this]; simp at hb; subst hb; exact setRow_other _ _ _ _ (by omega)
        rw [← hw4]
        clear hw4 eM3
        refine ms_pass ?_
        refine ms_nil (same4) (hK _ _ ?_)
        have eM4 := cellsAt_at hM4
        have sM4 := hM4.lt
        go_wp2_with fail
        first | refine fin_ret rfl (fun K hK => ?_) | refine fin_norm rfl (fun K hK => ?_)
        simp [results, Try.results15, go_sem, rsat]
        try go_simp
        refine hK _ ?_
        clear hK K
        exact ⟨x4, zeroM, f2, rfl, by rw [HFIN.out]⟩
    ·
      simp only [restM] at HS hac ⊢
      have HF0 : f2 = (0 : Int) := HF.out
      obtain ⟨okk, bad⟩ := HK3.out HF0
      have CC := fun W (hW : Src W 1 A s2.length (bc s2)) => readuint_c A c s2 1 (by decide) Hy2.out (by omega) W hW
      have eM := cellsAt_at hM
      have sM := hM.lt
      have eP := cellsAt_at hP
      have sP := hP.lt
      simp only [cellsM] at eP hP
      by_cases hf : f3 = 0
      · obtain ⟨hv, hz, hd⟩ := okk hf
        simp only [hv] at CC
        have HCC := Lib.hid CC
        have HD := Lib.hid hd
        have HF1 := Lib.hid hf
        clear CC okk bad hv hd hf HF HF0
        go_wp2_with fail
        refine (HCC.out _ (HS.out _ hx)).mono ?_
        rintro e w1 ⟨rfl, hx1⟩
        have hM1 := hM.ext hx1
        have hP1 := hP.ext hx1
        have x1 := hx.trans hx1
        clear eM sM eP sP hM hP hx hx1
        have eM := cellsAt_at hM1
        have sM := hM1.lt
        have eP := cellsAt_at hP1
        have sP := hP1.lt
        by_cases hcut : c - 1 = 0
        · go_wp2_with fail
          all_goals first | (exfalso; omega) | skip
          go_roundw
          case rel => exact ⟨3, _, _, rfl, by omega, by simp only [restM]; rw [HD.out, List.length_drop], by simp only [restM]; rw [HD.out, List.length_drop]; omega, by omega, Lib.hid (fun W hW => by simp only [restM]; rw [HD.out, List.length_drop]; exact (HS.out W hW).drop5 (by omega) _ (by intro; omega)), HF1, putAt_ext x1 (by omega) _ _, hM1.putFar (by omega) _ _, hP1.putAt _ _⟩
          case measure => simp [intOf]
        · go_wp2_with fail
          all_goals first | (exfalso; omega) | skip
          go_roundw
          case rel => exact ⟨3, _, _, rfl, by omega, by simp only [restM]; rw [HD.out, List.length_drop], by simp only [restM]; rw [HD.out, List.length_drop]; omega, by omega, Lib.hid (fun W hW => by simp only [restM]; rw [HD.out, List.length_drop]; exact (HS.out W hW).drop5 (by omega) _ (by intro _; first | rfl | (rw [if_neg (by omega)]; rfl))), HF1, putAt_ext x1 (by omega) _ _, hM1.putFar (by omega) _ _, hP1.putAt _ _⟩
          case measure => simp [intOf]
      · have hz := bad hf
        simp only [hz] at CC
        have HCC := Lib.hid CC
        have hne : (f3 != 0) = true := bne_iff_ne.2 hf
        have hq3 : f3 = f3 := rfl
        have hq4 : f4 = f3 := (HP4.out (by rw [hq3]; exact hf)).trans hq3
        have hq5 : f5 = f3 := (HP5.out (by rw [hq4]; exact hf)).trans hq4
        have hq6 : f6 = f3 := (HP6.out (by rw [hq5]; exact hf)).trans hq5
        have hq7 : f7 = f3 := (HP7.out (by rw [hq6]; exact hf)).trans hq6
        have hq8 : f8 = f3 := (HP8.out (by rw [hq7]; exact hf)).trans hq7
        have hq9 : f9 = f3 := (HP9.out (by rw [hq8]; exact hf)).trans hq8
        have hfz : finM ⟨(va : Int), (vb : Int), (min vd 4611686018427387905 : Nat), (min ve 4611686018427387905 : Nat), vi, vj, vp, vq, (vc : Int)⟩ s9 f9 = (zeroM, f3) := by unfold finM; rw [if_pos (by rw [hq9]; exact hf), hq9]
        have HFIN := Lib.hid hfz
        clear hfz CC okk bad hz HF HF0 hf hq3 hq4 hq5 hq6 hq7 hq8 hq9
        go_wp2_with fail
        refine (HCC.out _ (HS.out _ hx)).mono ?_
        rintro e w1 ⟨rfl, hx1⟩
        have hM1 := hM.ext hx1
        have hP1 := hP.ext hx1
        have x1 := hx.trans hx1
        clear eM sM eP sP hM hP hx hx1
        have eM := cellsAt_at hM1
        have sM := hM1.lt
        have eP := cellsAt_at hP1
        have sP := hP1.lt
        go_wp2_with fail
        obtain ⟨w2, hw2⟩ : ∃ W : World, W = putAt w1 gp 10 #[.int .u64 0, .int .i64 0, .slice none 0 0, .int .i64 0, .int .i64 f3] := ⟨_, rfl⟩
        have x2 : Ext w w2 := by rw [hw2]; exact putAt_ext x1 (by omega) _ _
        have hM2 : At w2 w.heap.size 23 #[.int .i64 0, .int .i64 0, .int .i64 0, .int .i64 0, .int .i64 0, .int .i64 0, .int .i64 0, .int .i64 0, .int .i64 0] := by rw [hw2]; exact hM1.putFar (by omega) _ _
        have hc2 : w2.cell? ⟨gp, 14, none⟩ = some (.int .i64 f3) := by rw [hw2, cell_putAt _ _ _ _ _ rfl (by rw [eP]; rfl)]; rfl
        have hs2 : w2.heap.size = w1.heap.size := by rw [hw2]; simp [putAt]
        rw [← hw2]
        clear hw2 eM eP hM1 hP1
        have s2 : gp < w2.heap.size := by omega
        have sM2 := hM2.lt
        have eM2 := cellsAt_at hM2
        refine wp_region_s [0, 0, 0, 0, 0, 1, 0] (fun x => ∀ b ∈ [gp], x.heap[b]? = w2.heap[b]?) (by kernel_rfl) (by kernel_rfl) ?_
        refine hls_same (fun K hK => ?_)
        go_simp
        refine hK _ ?_
        clear hK K
        refine hls_same (fun K hK => ?_)
        go_simp
        refine hK _ ?_
        clear hK K
        refine hls_same (fun K hK => ?_)
        go_simp
        refine hK _ ?_
        clear hK K
        refine hls_same (fun K hK => ?_)
        go_simp
        refine hK _ ?_
        clear hK K
        refine hls_same (fun K hK => ?_)
        go_simp
        refine hK _ ?_
        clear hK K
        refine hls_skip (by decide) ?_
        refine hls_same (fun K hK => ?_)
        go_simp
        refine hK _ ?_
        clear hK K
        refine hls_nil ?_
        intro w3 hxw3 K hK
        have hM3 := hM2.ext hxw3
        have x3 := x2.trans hxw3
        have same3 : ∀ b ∈ [gp], w3.heap[b]? = w2.heap[b]? := fun b hb => by simp at hb; subst hb; exact hxw3.block _ s2
        have eM3 := cellsAt_at hM3
        have sM3 := hM3.lt
        refine ms_pass ?_
        refine ms_pass ?_
        refine ms_pass ?_
        refine ms_pass ?_
        refine ms_pass ?_
        refine ms_do (by decide) (same3) (fun K' hK' => ?_)
        go_wp2_with fail
        obtain ⟨w4, hw4⟩ : ∃ W : World, W = w3.setRow w.heap.size #[.int .i64 0, .int .i64 0, .int .i64 0, .int .i64 0, .int .i64 0, .int .i64 0, .int .i64 0, .int .i64 0, .int .i64 0] := ⟨_, rfl⟩
        have x4 : Ext w w4 := by rw [hw4]; exact x3.setRow (Nat.le_refl _) _
        have hM4 : At w4 w.heap.size 23 #[.int .i64 0, .int .i64 0, .int .i64 0, .int .i64 0, .int .i64 0, .int .i64 0, .int .i64 0, .int .i64 0, .int .i64 0] := by rw [hw4]; exact hM3.setRow _
        have same4 : ∀ b ∈ [gp], w4.heap[b]? = w2.heap[b]? := fun b hb => by have := same3 b hb; rw [hw4]; rw [← this]; simp at hb; subst hb; exact setRow_other _ _ _ _ (by omega)
        rw [← hw4]
        clear hw4 eM3
        refine ms_pass ?_
        refine ms_nil (same4) (hK _ _ ?_)
        have eM4 := cellsAt_at hM4
        have sM4 := hM4.lt
        go_wp2_with fail
        first | refine fin_ret rfl (fun K hK => ?_) | refine fin_norm rfl (fun K hK => ?_)
        simp [results, Try.results15, go_sem, rsat]
        try go_simp
        refine hK _ ?_
        clear hK K
        exact ⟨x4, zeroM, f3, rfl, by rw [HFIN.out]⟩
    ·
      simp only [restM] at HS hac ⊢
      have HF0 : f3 = (0 : Int) := HF.out
      obtain ⟨okk, bad⟩ := HK4.out HF0
      have CC := fun W (hW : Src W 1 A s3.length (bc s3)) => readnum_c A c s3 Hy3.out (by omega) W hW
      have eM := cellsAt_at hM
      have sM := hM.lt
      have eP := cellsAt_at hP
      have sP := hP.lt
      simp only [cellsM] at eP hP
      by_cases hf : f4 = 0
      · obtain ⟨hv, hz, hd⟩ := okk hf
        have hzz : s3.length - s4.length = z4 := HZ4.out.symm
        rw [hzz] at hz hd hv
        simp only [hv] at CC
        have HCC := Lib.hid CC
        have HD := Lib.hid hd
        have HF1 := Lib.hid hf
        clear CC okk bad hv hd hf HF HF0
        go_wp2_with fail
        refine (HCC.out _ (HS.out _ hx)).mono ?_
        rintro e w1 ⟨rfl, hx1⟩
        have hM1 := hM.ext hx1
        have hP1 := hP.ext hx1
        have x1 := hx.trans hx1
        clear eM sM eP sP hM hP hx hx1
        have eM := cellsAt_at hM1
        have sM := hM1.lt
        have eP := cellsAt_at hP1
        have sP := hP1.lt
        by_cases hcut : c - z4 = 0
        · go_wp2_with fail
          all_goals first | (exfalso; omega) | skip
          go_roundw
          case rel => exact ⟨4, _, _, rfl, by omega, by simp only [restM]; rw [HD.out, List.length_drop], by simp only [restM]; rw [HD.out, List.length_drop]; omega, by omega, Lib.hid (fun W hW => by simp only [restM]; rw [HD.out, List.length_drop]; exact (HS.out W hW).drop5 (by omega) _ (by intro; omega)), HF1, putAt_ext x1 (by omega) _ _, hM1.putFar (by omega) _ _, hP1.putAt _ _⟩
          case measure => simp [intOf]
        · go_wp2_with fail
          all_goals first | (exfalso; omega) | skip
          go_roundw
          case rel => exact ⟨4, _, _, rfl, by omega, by simp only [restM]; rw [HD.out, List.length_drop], by simp only [restM]; rw [HD.out, List.length_drop]; omega, by omega, Lib.hid (fun W hW => by simp only [restM]; rw [HD.out, List.length_drop]; exact (HS.out W hW).drop5 (by omega) _ (by intro _; first | rfl | (rw [if_neg (by omega)]; rfl))), HF1, putAt_ext x1 (by omega) _ _, hM1.putFar (by omega) _ _, hP1.putAt _ _⟩
          case measure => simp [intOf]
      · have hz := bad hf
        simp only [hz] at CC
        have HCC := Lib.hid CC
        have hne : (f4 != 0) = true := bne_iff_ne.2 hf
        have hq4 : f4 = f4 := rfl
        have hq5 : f5 = f4 := (HP5.out (by rw [hq4]; exact hf)).trans hq4
        have hq6 : f6 = f4 := (HP6.out (by rw [hq5]; exact hf)).trans hq5
        have hq7 : f7 = f4 := (HP7.out (by rw [hq6]; exact hf)).trans hq6
        have hq8 : f8 = f4 := (HP8.out (by rw [hq7]; exact hf)).trans hq7
        have hq9 : f9 = f4 := (HP9.out (by rw [hq8]; exact hf)).trans hq8
        have hfz : finM ⟨(va : Int), (vb : Int), (min vd 4611686018427387905 : Nat), (min ve 4611686018427387905 : Nat), vi, vj, vp, vq, (vc : Int)⟩ s9 f9 = (zeroM, f4) := by unfold finM; rw [if_pos (by rw [hq9]; exact hf), hq9]
        have HFIN := Lib.hid hfz
        clear hfz CC okk bad hz HF HF0 hf hq4 hq5 hq6 hq7 hq8 hq9
        go_wp2_with fail
        refine (HCC.out _ (HS.out _ hx)).mono ?_
        rintro e w1 ⟨rfl, hx1⟩
        have hM1 := hM.ext hx1
        have hP1 := hP.ext hx1
        have x1 := hx.trans hx1
        clear eM sM eP sP hM hP hx hx1
        have eM := cellsAt_at hM1
        have sM := hM1.lt
        have eP := cellsAt_at hP1
        have sP := hP1.lt
        go_wp2_with fail
        obtain ⟨w2, hw2⟩ : ∃ W : World, W = putAt w1 gp 15 #[.int .u64 0, .int .i64 0, .slice none 0 0, .int .i64 0, .int .i64 f4] := ⟨_, rfl⟩
        have x2 : Ext w w2 := by rw [hw2]; exact putAt_ext x1 (by omega) _ _
        have hM2 : At w2 w.heap.size 23 #[.int .i64 0, .int .i64 0, .int .i64 0, .int .i64 0, .int .i64 0, .int .i64 0, .int .i64 0, .int .i64 0, .int .i64 0] := by rw [hw2]; exact hM1.putFar (by omega) _ _
        have hc2 : w2.cell? ⟨gp, 19, none⟩ = some (.int .i64 f4) := by rw [hw2, cell_putAt _ _ _ _ _ rfl (by rw [eP]; rfl)]; rfl
        have hs2 : w2.heap.size = w1.heap.size := by rw [hw2]; simp [putAt]
        rw [← hw2]
        clear hw2 eM eP hM1 hP1
        have s2 : gp < w2.heap.size := by omega
        have sM2 := hM2.lt
        have eM2 := cellsAt_at hM2
        refine wp_region_s [0, 0, 0, 0, 0, 1, 0] (fun x => ∀ b ∈ [gp], x.heap[b]? = w2.heap[b]?) (by kernel_rfl) (by kernel_rfl) ?_
        refine hls_same (fun K hK => ?_)
        go_simp
        refine hK _ ?_
        clear hK K
        refine hls_same (fun K hK => ?_)
        go_simp
        refine hK _ ?_
        clear hK K
        refine hls_same (fun K hK => ?_)
        go_simp
        refine hK _ ?_
        clear hK K
        refine hls_same (fun K hK => ?_)
        go_simp
        refine hK _ ?_
        clear hK K
        refine hls_same (fun K hK => ?_)
        go_simp
        refine hK _ ?_
        clear hK K
        refine hls_skip (by decide) ?_
        refine hls_same (fun K hK => ?_)
        go_simp
        refine hK _ ?_
        clear hK K
        refine hls_nil ?_
        intro w3 hxw3 K hK
        have hM3 := hM2.ext hxw3
        have x3 := x2.trans hxw3
        have same3 : ∀ b ∈ [gp], w3.heap[b]? = w2.heap[b]? := fun b hb => by simp at hb; subst hb; exact hxw3.block _ s2
        have eM3 := cellsAt_at hM3
        have sM3 := hM3.lt
        refine ms_pass ?_
        refine ms_pass ?_
        refine ms_pass ?_
        refine ms_pass ?_
        refine ms_pass ?_
        refine ms_do (by decide) (same3) (fun K' hK' => ?_)
        go_wp2_with fail
        obtain ⟨w4, hw4⟩ : ∃ W : World, W = w3.setRow w.heap.size #[.int .i64 0, .int .i64 0, .int .i64 0, .int .i64 0, .int .i64 0, .int .i64 0, .int .i64 0, .int .i64 0, .int .i64 0] := ⟨_, rfl⟩
        have x4 : Ext w w4 := by rw [hw4]; exact x3.setRow (Nat.le_refl _) _
        have hM4 : At w4 w.heap.size 23 #[.int .i64 0, .int .i64 0, .int .i64 0, .int .i64 0, .int .i64 0, .int .i64 0, .int .i64 0, .int .i64 0, .int .i64 0] := by rw [hw4]; exact hM3.setRow _
        have same4 : ∀ b ∈ [gp], w4.heap[b]? = w2.heap[b]? := fun b hb => by have := same3 b hb; rw [hw4]; rw [← this]; simp at hb; subst hb; exact setRow_other _ _ _ _ (by omega)
        rw [← hw4]
        clear hw4 eM3
        refine ms_pass ?_
        refine ms_nil (same4) (hK _ _ ?_)
        have eM4 := cellsAt_at hM4
        have sM4 := hM4.lt
        go_wp2_with fail
        first | refine fin_ret rfl (fun K hK => ?_) | refine fin_norm rfl (fun K hK => ?_)
        simp [results, Try.results15, go_sem, rsat]
        try go_simp
        refine hK _ ?_
        clear hK K
        exact ⟨x4, zeroM, f4, rfl, by rw [HFIN.out]⟩
    ·
      simp only [restM] at HS hac ⊢
      have HF0 : f4 = (0 : Int) := HF.out
      obtain ⟨okk, bad⟩ := HK5.out HF0
      have CC := fun W (hW : Src W 1 A s4.length (bc s4)) => readnum_c A c s4 Hy4.out (by omega) W hW
      have eM := cellsAt_at hM
      have sM := hM.lt
      have eP := cellsAt_at hP
      have sP := hP.lt
      simp only [cellsM] at eP hP
      by_cases hf : f5 = 0
      · obtain ⟨hv, hz, hd⟩ := okk hf
        have hzz : s4.length - s5.length = z5 := HZ5.out.symm
        rw [hzz] at hz hd hv
        simp only [hv] at CC
        have HCC := Lib.hid CC
        have HD := Lib.hid hd
        have HF1 := Lib.hid hf
        clear CC okk bad hv hd hf HF HF0
        go_wp2_with fail
        refine (HCC.out _ (HS.out _ hx)).mono ?_
        rintro e w1 ⟨rfl, hx1⟩
        have hM1 := hM.ext hx1
        have hP1 := hP.ext hx1
        have x1 := hx.trans hx1
        clear eM sM eP sP hM hP hx hx1
        have eM := cellsAt_at hM1
        have sM := hM1.lt
        have eP := cellsAt_at hP1
        have sP := hP1.lt
        by_cases hcut : c - z5 = 0
        · go_wp2_with fail
          all_goals first | (exfalso; omega) | skip
          go_roundw
          case rel => exact ⟨5, _, _, rfl, by omega, by simp only [restM]; rw [HD.out, List.length_drop], by simp only [restM]; rw [HD.out, List.length_drop]; omega, by omega, Lib.hid (fun W hW => by simp only [restM]; rw [HD.out, List.length_drop]; exact (HS.out W hW).drop5 (by omega) _ (by intro; omega)), HF1, putAt_ext x1 (by omega) _ _, hM1.putFar (by omega) _ _, hP1.putAt _ _⟩
          case measure => simp [intOf]
        · go_wp2_with fail
          all_goals first | (exfalso; omega) | skip
          go_roundw
          case rel => exact ⟨5, _, _, rfl, by omega, by simp only [restM]; rw [HD.out, List.length_drop], by simp only [restM]; rw [HD.out, List.length_drop]; omega, by omega, Lib.hid (fun W hW => by simp only [restM]; rw [HD.out, List.length_drop]; exact (HS.out W hW).drop5 (by omega) _ (by intro _; first | rfl | (rw [if_neg (by omega)]; rfl))), HF1, putAt_ext x1 (by omega) _ _, hM1.putFar (by omega) _ _, hP1.putAt _ _⟩
          case measure => simp [intOf]
      · have hz := bad hf
        simp only [hz] at CC
        have HCC := Lib.hid CC
        have hne : (f5 != 0) = true := bne_iff_ne.2 hf
        have hq5 : f5 = f5 := rfl
        have hq6 : f6 = f5 := (HP6.out (by rw [hq5]; exact hf)).trans hq5
        have hq7 : f7 = f5 := (HP7.out (by rw [hq6]; exact hf)).trans hq6
        have hq8 : f8 = f5 := (HP8.out (by rw [hq7]; exact hf)).trans hq7
        have hq9 : f9 = f5 := (HP9.out (by rw [hq8]; exact hf)).trans hq8
        have hfz : finM ⟨(va : Int), (vb : Int), (min vd 4611686018427387905 : Nat), (min ve 4611686018427387905 : Nat), vi, vj, vp, vq, (vc : Int)⟩ s9 f9 = (zeroM, f5) := by unfold finM; rw [if_pos (by rw [hq9]; exact hf), hq9]
        have HFIN := Lib.hid hfz
        clear hfz CC okk bad hz HF HF0 hf hq5 hq6 hq7 hq8 hq9
        go_wp2_with fail
        refine (HCC.out _ (HS.out _ hx)).mono ?_
        rintro e w1 ⟨rfl, hx1⟩
        have hM1 := hM.ext hx1
        have hP1 := hP.ext hx1
        have x1 := hx.trans hx1
        clear eM sM eP sP hM hP hx hx1
        have eM := cellsAt_at hM1
        have sM := hM1.lt
        have eP := cellsAt_at hP1
        have sP := hP1.lt
        go_wp2_with fail
        obtain ⟨w2, hw2⟩ : ∃ W : World, W = putAt w1 gp 20 #[.int .u64 0, .int .i64 0, .slice none 0 0, .int .i64 0, .int .i64 f5] := ⟨_, rfl⟩
        have x2 : Ext w w2 := by rw [hw2]; exact putAt_ext x1 (by omega) _ _
        have hM2 : At w2 w.heap.size 23 #[.int .i64 0, .int .i64 0, .int .i64 0, .int .i64 0, .int .i64 0, .int .i64 0, .int .i64 0, .int .i64 0, .int .i64 0] := by rw [hw2]; exact hM1.putFar (by omega) _ _
        have hc2 : w2.cell? ⟨gp, 24, none⟩ = some (.int .i64 f5) := by rw [hw2, cell_putAt _ _ _ _ _ rfl (by rw [eP]; rfl)]; rfl
        have hs2 : w2.heap.size = w1.heap.size := by rw [hw2]; simp [putAt]
        rw [← hw2]
        clear hw2 eM eP hM1 hP1
        have s2 : gp < w2.heap.size := by omega
        have sM2 := hM2.lt
        have eM2 := cellsAt_at hM2
        refine wp_region_s [0, 0, 0, 0, 0, 1, 0] (fun x => ∀ b ∈ [gp], x.heap[b]? = w2.heap[b]?) (by kernel_rfl) (by kernel_rfl) ?_
        refine hls_same (fun K hK => ?_)
        go_simp
        refine hK _ ?_
        clear hK K
        refine hls_same (fun K hK => ?_)
        go_simp
        refine hK _ ?_
        clear hK K
        refine hls_same (fun K hK => ?_)
        go_simp
        refine hK _ ?_
        clear hK K
        refine hls_same (fun K hK => ?_)
        go_simp
        refine hK _ ?_
        clear hK K
        refine hls_same (fun K hK => ?_)
        go_simp
        refine hK _ ?_
        clear hK K
        refine hls_skip (by decide) ?_
        refine hls_same (fun K hK => ?_)
        go_simp
        refine hK _ ?_
        clear hK K
        refine hls_nil ?_
        intro w3 hxw3 K hK
        have hM3 := hM2.ext hxw3
        have x3 := x2.trans hxw3
        have same3 : ∀ b ∈ [gp], w3.heap[b]? = w2.heap[b]? := fun b hb => by simp at hb; subst hb; exact hxw3.block _ s2
        have eM3 := cellsAt_at hM3
        have sM3 := hM3.lt
        refine ms_pass ?_
        refine ms_pass ?_
        refine ms_pass ?_
        refine ms_pass ?_
        refine ms_pass ?_
        refine ms_do (by decide) (same3) (fun K' hK' => ?_)
        go_wp2_with fail
        obtain ⟨w4, hw4⟩ : ∃ W : World, W = w3.setRow w.heap.size #[.int .i64 0, .int .i64 0, .int .i64 0, .int .i64 0, .int .i64 0, .int .i64 0, .int .i64 0, .int .i64 0, .int .i64 0] := ⟨_, rfl⟩
        have x4 : Ext w w4 := by rw [hw4]; exact x3.setRow (Nat.le_refl _) _
        have hM4 : At w4 w.heap.size 23 #[.int .i64 0, .int .i64 0, .int .i64 0, .int .i64 0, .int .i64 0, .int .i64 0, .int .i64 0, .int .i64 0, .int .i64 0] := by rw [hw4]; exact hM3.setRow _
        have same4 : ∀ b ∈ [gp], w4.heap[b]? = w2.heap[b]? := fun b hb => by have := same3 b hb; rw [hw4]; rw [← this]; simp at hb; subst hb; exact setRow_other _ _ _ _ (by omega)
        rw [← hw4]
        clear hw4 eM3
        refine ms_pass ?_
        refine ms_nil (same4) (hK _ _ ?_)
        have eM4 := cellsAt_at hM4
        have sM4 := hM4.lt
        go_wp2_with fail
        first | refine fin_ret rfl (fun K hK => ?_) | refine fin_norm rfl (fun K hK => ?_)
        simp [results, Try.results15, go_sem, rsat]
        try go_simp
        refine hK _ ?_
        clear hK K
        exact ⟨x4, zeroM, f5, rfl, by rw [HFIN.out]⟩
    ·
      simp only [restM] at HS hac ⊢
      have HF0 : f5 = (0 : Int) := HF.out
      obtain ⟨okk, bad⟩ := HK6.out HF0
      have CC := fun W (hW : Src W 1 A s5.length (bc s5)) => readint_c A c s5 Hy5.out (by omega) W hW
      have eM := cellsAt_at hM
      have sM := hM.lt
      have eP := cellsAt_at hP
      have sP := hP.lt
      simp only [cellsM] at eP hP
      by_cases hf : f6 = 0
      · obtain ⟨hv, hz, hd⟩ := okk hf
        have hv1 := (Prod.ext_iff.1 hv).1
        have hv2 := (Prod.ext_iff.1 hv).2
        simp only at hv1 hv2
        simp only [hv1, hv2] at CC
        clear hv1 hv2
        have HCC := Lib.hid CC
        have HD := Lib.hid hd
        have HF1 := Lib.hid hf
        clear CC okk bad hv hd hf HF HF0
        go_wp2_with fail
        refine (HCC.out _ (HS.out _ hx)).mono ?_
        rintro e w1 ⟨rfl, hx1⟩
        have hM1 := hM.ext hx1
        have hP1 := hP.ext hx1
        have x1 := hx.trans hx1
        clear eM sM eP sP hM hP hx hx1
        have eM := cellsAt_at hM1
        have sM := hM1.lt
        have eP := cellsAt_at hP1
        have sP := hP1.lt
        by_cases hcut : c - 8 = 0
        · go_wp2_with fail
          all_goals first | (exfalso; omega) | skip
          go_roundw
          case rel => exact ⟨6, _, _, rfl, by omega, by simp only [restM]; rw [HD.out, List.length_drop], by simp only [restM]; rw [HD.out, List.length_drop]; omega, by omega, Lib.hid (fun W hW => by simp only [restM]; rw [HD.out, List.length_drop]; exact (HS.out W hW).drop5 (by omega) _ (by intro; omega)), HF1, putAt_ext x1 (by omega) _ _, hM1.putFar (by omega) _ _, hP1.putAt _ _⟩
          case measure => simp [intOf]
        · go_wp2_with fail
          all_goals first | (exfalso; omega) | skip
          go_roundw
          case rel => exact ⟨6, _, _, rfl, by omega, by simp only [restM]; rw [HD.out, List.length_drop], by simp only [restM]; rw [HD.out, List.length_drop]; omega, by omega, Lib.hid (fun W hW => by simp only [restM]; rw [HD.out, List.length_drop]; exact (HS.out W hW).drop5 (by omega) _ (by intro _; first | rfl | (rw [if_neg (by omega)]; rfl))), HF1, putAt_ext x1 (by omega) _ _, hM1.putFar (by omega) _ _, hP1.putAt _ _⟩
          case measure => simp [intOf]
      · have hz := bad hf
        have hv1 := (Prod.ext_iff.1 hz).1
        have hv2 := (Prod.ext_iff.1 hz).2
        simp only at hv1 hv2
        simp only [hv1, hv2] at CC
        clear hv1 hv2
        have HCC := Lib.hid CC
        have hne : (f6 != 0) = true := bne_iff_ne.2 hf
        have hq6 : f6 = f6 := rfl
        have hq7 : f7 = f6 := (HP7.out (by rw [hq6]; exact hf)).trans hq6
        have hq8 : f8 = f6 := (HP8.out (by rw [hq7]; exact hf)).trans hq7
        have hq9 : f9 = f6 := (HP9.out (by rw [hq8]; exact hf)).trans hq8
        have hfz : finM ⟨(va : Int), (vb : Int), (min vd 4611686018427387905 : Nat), (min ve 4611686018427387905 : Nat), vi, vj, vp, vq, (vc : Int)⟩ s9 f9 = (zeroM, f6) := by unfold finM; rw [if_pos (by rw [hq9]; exact hf), hq9]
        have HFIN := Lib.hid hfz
        clear hfz CC okk bad hz HF HF0 hf hq6 hq7 hq8 hq9
        go_wp2_with fail
        refine (HCC.out _ (HS.out _ hx)).mono ?_
        rintro e w1 ⟨rfl, hx1⟩
        have hM1 := hM.ext hx1
        have hP1 := hP.ext hx1
        have x1 := hx.trans hx1
        clear eM sM eP sP hM hP hx hx1
        have eM := cellsAt_at hM1
        have sM := hM1.lt
        have eP := cellsAt_at hP1
        have sP := hP1.lt
        go_wp2_with fail
        obtain ⟨w2, hw2⟩ : ∃ W : World, W = putAt w1 gp 25 #[.int .u64 0, .int .i64 0, .slice none 0 0, .int .i64 0, .int .i64 f6] := ⟨_, rfl⟩
        have x2 : Ext w w2 := by rw [hw2]; exact putAt_ext x1 (by omega) _ _
        have hM2 : At w2 w.heap.size 23 #[.int .i64 0, .int .i64 0, .int .i64 0, .int .i64 0, .int .i64 0, .int .i64 0, .int .i64 0, .int .i64 0, .int .i64 0] := by rw [hw2]; exact hM1.putFar (by omega) _ _
        have hc2 : w2.cell? ⟨gp, 29, none⟩ = some (.int .i64 f6) := by rw [hw2, cell_putAt _ _ _ _ _ rfl (by rw [eP]; rfl)]; rfl
        have hs2 : w2.heap.size = w1.heap.size := by rw [hw2]; simp [putAt]
        rw [← hw2]
        clear hw2 eM eP hM1 hP1
        have s2 : gp < w2.heap.size := by omega
        have sM2 := hM2.lt
        have eM2 := cellsAt_at hM2
        refine wp_region_s [0, 0, 0, 0, 0, 1, 0] (fun x => ∀ b ∈ [gp], x.heap[b]? = w2.heap[b]?) (by kernel_rfl) (by kernel_rfl) ?_
        refine hls_same (fun K hK => ?_)
        go_simp
        refine hK _ ?_
        clear hK K
        refine hls_same (fun K hK => ?_)
        go_simp
        refine hK _ ?_
        clear hK K
        refine hls_same (fun K hK => ?_)
        go_simp
        refine hK _ ?_
        clear hK K
        refine hls_same (fun K hK => ?_)
        go_simp
        refine hK _ ?_
        clear hK K
        refine hls_same (fun K hK => ?_)
        go_simp
        refine hK _ ?_
        clear hK K
        refine hls_skip (by decide) ?_
        refine hls_same (fun K hK => ?_)
        go_simp
        refine hK _ ?_
        clear hK K
        refine hls_nil ?_
        intro w3 hxw3 K hK
        have hM3 := hM2.ext hxw3
        have x3 := x2.trans hxw3
        have same3 : ∀ b ∈ [gp], w3.heap[b]? = w2.heap[b]? := fun b hb => by simp at hb; subst hb; exact hxw3.block _ s2
        have eM3 := cellsAt_at hM3
        have sM3 := hM3.lt
        refine ms_pass ?_
        refine ms_pass ?_
        refine ms_pass ?_
        refine ms_pass ?_
        refine ms_pass ?_
        refine ms_do (by decide) (same3) (fun K' hK' => ?_)
        go_wp2_with fail
        obtain ⟨w4, hw4⟩ : ∃ W : World, W = w3.setRow w.heap.size #[.int .i64 0, .int .i64 0, .int .i64 0, .int .i64 0, .int .i64 0, .int .i64 0, .int .i64 0, .int .i64 0, .int .i64 0] := ⟨_, rfl⟩
        have x4 : Ext w w4 := by rw [hw4]; exact x3.setRow (Nat.le_refl _) _
        have hM4 : At w4 w.heap.size 23 #[.int .i64 0, .int .i64 0, .int .i64 0, .int .i64 0, .int .i64 0, .int .i64 0, .int .i64 0, .int .i64 0, .int .i64 0] := by rw [hw4]; exact hM3.setRow _
        have same4 : ∀ b ∈ [gp], w4.heap[b]? = w2.heap[b]? := fun b hb => by have := same3 b hb; rw [hw4]; rw [← this]; simp at hb; subst hb; exact setRow_other _ _ _ _ (by omega)
        rw [← hw4]
        clear hw4 eM3
        refine ms_pass ?_
        refine ms_nil (same4) (hK _ _ ?_)
        have eM4 := cellsAt_at hM4
        have sM4 := hM4.lt
        go_wp2_with fail
        first | refine fin_ret rfl (fun K hK => ?_) | refine fin_norm rfl (fun K hK => ?_)
        simp [results, Try.results15, go_sem, rsat]
        try go_simp
        refine hK _ ?_
        clear hK K
        exact ⟨x4, zeroM, f6, rfl, by rw [HFIN.out]⟩
    ·
      simp only [restM] at HS hac ⊢
      have HF0 : f6 = (0 : Int) := HF.out
      obtain ⟨okk, bad⟩ := HK7.out HF0
      have CC := fun W (hW : Src W 1 A s6.length (bc s6)) => readint_c A c s6 Hy6.out (by omega) W hW
      have eM := cellsAt_at hM
      have sM := hM.lt
      have eP := cellsAt_at hP
      have sP := hP.lt
      simp only [cellsM] at eP hP
      by_cases hf : f7 = 0
      · obtain ⟨hv, hz, hd⟩ := okk hf
        have hv1 := (Prod.ext_iff.1 hv).1
        have hv2 := (Prod.ext_iff.1 hv).2
        simp only at hv1 hv2
        simp only [hv1, hv2] at CC
        clear hv1 hv2
        have HCC := Lib.hid CC
        have HD := Lib.hid hd
        have HF1 := Lib.hid hf
        clear CC okk bad hv hd hf HF HF0
        go_wp2_with fail
        refine (HCC.out _ (HS.out _ hx)).mono ?_
        rintro e w1 ⟨rfl, hx1⟩
        have hM1 := hM.ext hx1
        have hP1 := hP.ext hx1
        have x1 := hx.trans hx1
        clear eM sM eP sP hM hP hx hx1
        have eM := cellsAt_at hM1
        have sM := hM1.lt
        have eP := cellsAt_at hP1
        have sP := hP1.lt
        by_cases hcut : c - 8 = 0
        · go_wp2_with fail
          all_goals first | (exfalso; omega) | skip
          go_roundw
          case rel => exact ⟨7, _, _, rfl, by omega, by simp only [restM]; rw [HD.out, List.length_drop], by simp only [restM]; rw [HD.out, List.length_drop]; omega, by omega, Lib.hid (fun W hW => by simp only [restM]; rw [HD.out, List.length_drop]; exact (HS.out W hW).drop5 (by omega) _ (by intro; omega)), HF1, putAt_ext x1 (by omega) _ _, hM1.putFar (by omega) _ _, hP1.putAt _ _⟩
          case measure => simp [intOf]
        · go_wp2_with fail
          all_goals first | (exfalso; omega) | skip
          go_roundw
          case rel => exact ⟨7, _, _, rfl, by omega, by simp only [restM]; rw [HD.out, List.length_drop], by simp only [restM]; rw [HD.out, List.length_drop]; omega, by omega, Lib.hid (fun W hW => by simp only [restM]; rw [HD.out, List.length_drop]; exact (HS.out W hW).drop5 (by omega) _ (by intro _; first | rfl | (rw [if_neg (by omega)]; rfl))), HF1, putAt_ext x1 (by omega) _ _, hM1.putFar (by omega) _ _, hP1.putAt _ _⟩
          case measure => simp [intOf]
      · have hz := bad hf
        have hv1 := (Prod.ext_iff.1 hz).1
        have hv2 := (Prod.ext_iff.1 hz).2
        simp only at hv1 hv2
        simp only [hv1, hv2] at CC
        clear hv1 hv2
        have HCC := Lib.hid CC
        have hne : (f7 != 0) = true := bne_iff_ne.2 hf
        have hq7 : f7 = f7 := rfl
        have hq8 : f8 = f7 := (HP8.out (by rw [hq7]; exact hf)).trans hq7
        have hq9 : f9 = f7 := (HP9.out (by rw [hq8]; exact hf)).trans hq8
        have hfz : finM ⟨(va : Int), (vb : Int), (min vd 4611686018427387905 : Nat), (min ve 4611686018427387905 : Nat), vi, vj, vp, vq, (vc : Int)⟩ s9 f9 = (zeroM, f7) := by unfold finM; rw [if_pos (by rw [hq9]; exact hf), hq9]
        have HFIN := Lib.hid hfz
        clear hfz CC okk bad hz HF HF0 hf hq7 hq8 hq9
        go_wp2_with fail
        refine (HCC.out _ (HS.out _ hx)).mono ?_
        rintro e w1 ⟨rfl, hx1⟩
        have hM1 := hM.ext hx1
        have hP1 := hP.ext hx1
        have x1 := hx.trans hx1
        clear eM sM eP sP hM hP hx hx1
        have eM := cellsAt_at hM1
        have sM := hM1.lt
        have eP := cellsAt_at hP1
        have sP := hP1.lt
        go_wp2_with fail
        obtain ⟨w2, hw2⟩ : ∃ W : World, W = putAt w1 gp 30 #[.int .u64 0, .int .i64 0, .slice none 0 0, .int .i64 0, .int .i64 f7] := ⟨_, rfl⟩
        have x2 : Ext w w2 := by rw [hw2]; exact putAt_ext x1 (by omega) _ _
        have hM2 : At w2 w.heap.size 23 #[.int .i64 0, .int .i64 0, .int .i64 0, .int .i64 0, .int .i64 0, .int .i64 0, .int .i64 0, .int .i64 0, .int .i64 0] := by rw [hw2]; exact hM1.putFar (by omega) _ _
        have hc2 : w2.cell? ⟨gp, 34, none⟩ = some (.int .i64 f7) := by rw [hw2, cell_putAt _ _ _ _ _ rfl (by rw [eP]; rfl)]; rfl
        have hs2 : w2.heap.size = w1.heap.size := by rw [hw2]; simp [putAt]
        rw [← hw2]
        clear hw2 eM eP hM1 hP1
        have s2 : gp < w2.heap.size := by omega
        have sM2 := hM2.lt
        have eM2 := cellsAt_at hM2
        refine wp_region_s [0, 0, 0, 0, 0, 1, 0] (fun x => ∀ b ∈ [gp], x.heap[b]? = w2.heap[b]?) (by kernel_rfl) (by kernel_rfl) ?_
        refine hls_same (fun K hK => ?_)
        go_simp
        refine hK _ ?_
        clear hK K
        refine hls_same (fun K hK => ?_)
        go_simp
        refine hK _ ?_
        clear hK K
        refine hls_same (fun K hK => ?_)
        go_simp
        refine hK _ ?_
        clear hK K
        refine hls_same (fun K hK => ?_)
        go_simp
        refine hK _ ?_
        clear hK K
        refine hls_same (fun K hK => ?_)
        go_simp
        refine hK _ ?_
        clear hK K
        refine hls_skip (by decide) ?_
        refine hls_same (fun K hK => ?_)
        go_simp
        refine hK _ ?_
        clear hK K
        refine hls_nil ?_
        intro w3 hxw3 K hK
        have hM3 := hM2.ext hxw3
        have x3 := x2.trans hxw3
        have same3 : ∀ b ∈ [gp], w3.heap[b]? = w2.heap[b]? := fun b hb => by simp at hb; subst hb; exact hxw3.block _ s2
        have eM3 := cellsAt_at hM3
        have sM3 := hM3.lt
        refine ms_pass ?_
        refine ms_pass ?_
        refine ms_pass ?_
        refine ms_pass ?_
        refine ms_pass ?_
        refine ms_do (by decide) (same3) (fun K' hK' => ?_)
        go_wp2_with fail
        obtain ⟨w4, hw4⟩ : ∃ W : World, W = w3.setRow w.heap.size #[.int .i64 0, .int .i64 0, .int .i64 0, .int .i64 0, .int .i64 0, .int .i64 0, .int .i64 0, .int .i64 0, .int .i64 0] := ⟨_, rfl⟩
        have x4 : Ext w w4 := by rw [hw4]; exact x3.setRow (Nat.le_refl _) _
        have hM4 : At w4 w.heap.size 23 #[.int .i64 0, .int .i64 0, .int .i64 0, .int .i64 0, .int .i64 0, .int .i64 0, .int .i64 0, .int .i64 0, .int .i64 0] := by rw [hw4]; exact hM3.setRow _
        have same4 : ∀ b ∈ [gp], w4.heap[b]? = w2.heap[b]? := fun b hb => by have := same3 b hb; rw [hw4]; rw [← this]; simp at hb; subst hb; exact setRow_other _ _ _ _ (by omega)
        rw [← hw4]
        clear hw4 eM3
        refine ms_pass ?_
        refine ms_nil (same4) (hK _ _ ?_)
        have eM4 := cellsAt_at hM4
        have sM4 := hM4.lt
        go_wp2_with fail
        first | refine fin_ret rfl (fun K hK => ?_) | refine fin_norm rfl (fun K hK => ?_)
        simp [results, Try.results15, go_sem, rsat]
        try go_simp
        refine hK _ ?_
        clear hK K
        exact ⟨x4, zeroM, f7, rfl, by rw [HFIN.out]⟩
    ·
      simp only [restM] at HS hac ⊢
      have HF0 : f7 = (0 : Int) := HF.out
      obtain ⟨okk, bad⟩ := HK8.out HF0
      have CC := fun W (hW : Src W 1 A s7.length (bc s7)) => readint_c A c s7 Hy7.out (by omega) W hW
      have eM := cellsAt_at hM
      have sM := hM.lt
      have eP := cellsAt_at hP
      have sP := hP.lt
      simp only [cellsM] at eP hP
      by_cases hf : f8 = 0
      · obtain ⟨hv, hz, hd⟩ := okk hf
        have hv1 := (Prod.ext_iff.1 hv).1
        have hv2 := (Prod.ext_iff.1 hv).2
        simp only at hv1 hv2
        simp only [hv1, hv2] at CC
        clear hv1 hv2
        have HCC := Lib.hid CC
        have HD := Lib.hid hd
        have HF1 := Lib.hid hf
        clear CC okk bad hv hd hf HF HF0
        go_wp2_with fail
        refine (HCC.out _ (HS.out _ hx)).mono ?_
        rintro e w1 ⟨rfl, hx1⟩
        have hM1 := hM.ext hx1
        have hP1 := hP.ext hx1
        have x1 := hx.trans hx1
        clear eM sM eP sP hM hP hx hx1
        have eM := cellsAt_at hM1
        have sM := hM1.lt
        have eP := cellsAt_at hP1
        have sP := hP1.lt
        by_cases hcut : c - 8 = 0
        · go_wp2_with fail
          all_goals first | (exfalso; omega) | skip
          go_roundw
          case rel => exact ⟨8, _, _, rfl, by omega, by simp only [restM]; rw [HD.out, List.length_drop], by simp only [restM]; rw [HD.out, List.length_drop]; omega, by omega, Lib.hid (fun W hW => by simp only [restM]; rw [HD.out, List.length_drop]; exact (HS.out W hW).drop5 (by omega) _ (by intro; omega)), HF1, putAt_ext x1 (by omega) _ _, hM1.putFar (by omega) _ _, hP1.putAt _ _⟩
          case measure => simp [intOf]
        · go_wp2_with fail
          all_goals first | (exfalso; omega) | skip
          go_roundw
          case rel => exact ⟨8, _, _, rfl, by omega, by simp only [restM]; rw [HD.out, List.length_drop], by simp only [restM]; rw [HD.out, List.length_drop]; omega, by omega, Lib.hid (fun W hW => by simp only [restM]; rw [HD.out, List.length_drop]; exact (HS.out W hW).drop5 (by omega) _ (by intro _; first | rfl | (rw [if_neg (by omega)]; rfl))), HF1, putAt_ext x1 (by omega) _ _, hM1.putFar (by omega) _ _, hP1.putAt _ _⟩
          case measure => simp [intOf]
      · have hz := bad hf
        have hv1 := (Prod.ext_iff.1 hz).1
        have hv2 := (Prod.ext_iff.1 hz).2
        simp only at hv1 hv2
        simp only [hv1, hv2] at CC
        clear hv1 hv2
        have HCC := Lib.hid CC
        have hne : (f8 != 0) = true := bne_iff_ne.2 hf
        have hq8 : f8 = f8 := rfl
        have hq9 : f9 = f8 := (HP9.out (by rw [hq8]; exact hf)).trans hq8
        have hfz : finM ⟨(va : Int), (vb : Int), (min vd 4611686018427387905 : Nat), (min ve 4611686018427387905 : Nat), vi, vj, vp, vq, (vc : Int)⟩ s9 f9 = (zeroM, f8) := by unfold finM; rw [if_pos (by rw [hq9]; exact hf), hq9]
        have HFIN := Lib.hid hfz
        clear hfz CC okk bad hz HF HF0 hf hq8 hq9
        go_wp2_with fail
        refine (HCC.out _ (HS.out _ hx)).mono ?_
        rintro e w1 ⟨rfl, hx1⟩
        have hM1 := hM.ext hx1
        have hP1 := hP.ext hx1
        have x1 := hx.trans hx1
        clear eM sM eP sP hM hP hx hx1
        have eM := cellsAt_at hM1
        have sM := hM1.lt
        have eP := cellsAt_at hP1
        have sP := hP1.lt
        go_wp2_with fail
        obtain ⟨w2, hw2⟩ : ∃ W : World, W = putAt w1 gp 35 #[.int .u64 0, .int .i64 0, .slice none 0 0, .int .i64 0, .int .i64 f8] := ⟨_, rfl⟩
        have x2 : Ext w w2 := by rw [hw2]; exact putAt_ext x1 (by omega) _ _
        have hM2 : At w2 w.heap.size 23 #[.int .i64 0, .int .i64 0, .int .i64 0, .int .i64 0, .int .i64 0, .int .i64 0, .int .i64 0, .int .i64 0, .int .i64 0] := by rw [hw2]; exact hM1.putFar (by omega) _ _
        have hc2 : w2.cell? ⟨gp, 39, none⟩ = some (.int .i64 f8) := by rw [hw2, cell_putAt _ _ _ _ _ rfl (by rw [eP]; rfl)]; rfl
        have hs2 : w2.heap.size = w1.heap.size := by rw [hw2]; simp [putAt]
        rw [← hw2]
        clear hw2 eM eP hM1 hP1
        have s2 : gp < w2.heap.size := by omega
        have sM2 := hM2.lt
        have eM2 := cellsAt_at hM2
        refine wp_region_s [0, 0, 0, 0, 0, 1, 0] (fun x => ∀ b ∈ [gp], x.heap[b]? = w2.heap[b]?) (by kernel_rfl) (by kernel_rfl) ?_
        refine hls_same (fun K hK => ?_)
        go_simp
        refine hK _ ?_
        clear hK K
        refine hls_same (fun K hK => ?_)
        go_simp
        refine hK _ ?_
        clear hK K
        refine hls_same (fun K hK => ?_)
        go_simp
        refine hK _ ?_
        clear hK K
        refine hls_same (fun K hK => ?_)
        go_simp
        refine hK _ ?_
        clear hK K
        refine hls_same (fun K hK => ?_)
        go_simp
        refine hK _ ?_
        clear hK K
        refine hls_skip (by decide) ?_
        refine hls_same (fun K hK => ?_)
        go_simp
        refine hK _ ?_
        clear hK K
        refine hls_nil ?_
        intro w3 hxw3 K hK
        have hM3 := hM2.ext hxw3
        have x3 := x2.trans hxw3
        have same3 : ∀ b ∈ [gp], w3.heap[b]? = w2.heap[b]? := fun b hb => by simp at hb; subst hb; exact hxw3.block _ s2
        have eM3 := cellsAt_at hM3
        have sM3 := hM3.lt
        refine ms_pass ?_
        refine ms_pass ?_
        refine ms_pass ?_
        refine ms_pass ?_
        refine ms_pass ?_
        refine ms_do (by decide) (same3) (fun K' hK' => ?_)
        go_wp2_with fail
        obtain ⟨w4, hw4⟩ : ∃ W : World, W = w3.setRow w.heap.size #[.int .i64 0, .int .i64 0, .int .i64 0, .int .i64 0, .int .i64 0, .int .i64 0, .int .i64 0, .int .i64 0, .int .i64 0] := ⟨_, rfl⟩
        have x4 : Ext w w4 := by rw [hw4]; exact x3.setRow (Nat.le_refl _) _
        have hM4 : At w4 w.heap.size 23 #[.int .i64 0, .int .i64 0, .int .i64 0, .int .i64 0, .int .i64 0, .int .i64 0, .int .i64 0, .int .i64 0, .int .i64 0] := by rw [hw4]; exact hM3.setRow _
        have same4 : ∀ b ∈ [gp], w4.heap[b]? = w2.heap[b]? := fun b hb => by have := same3 b hb; rw [hw4]; rw [← this]; simp at hb; subst hb; exact setRow_other _ _ _ _ (by omega)
        rw [← hw4]
        clear hw4 eM3
        refine ms_pass ?_
        refine ms_nil (same4) (hK _ _ ?_)
        have eM4 := cellsAt_at hM4
        have sM4 := hM4.lt
        go_wp2_with fail
        first | refine fin_ret rfl (fun K hK => ?_) | refine fin_norm rfl (fun K hK => ?_)
        simp [results, Try.results15, go_sem, rsat]
        try go_simp
        refine hK _ ?_
        clear hK K
        exact ⟨x4, zeroM, f8, rfl, by rw [HFIN.out]⟩
    ·
      simp only [restM] at HS hac ⊢
      have HF0 : f8 = (0 : Int) := HF.out
      obtain ⟨okk, bad⟩ := HK9.out HF0
      have CC := fun W (hW : Src W 1 A s8.length (bc s8)) => readint_c A c s8 Hy8.out (by omega) W hW
      have eM := cellsAt_at hM
      have sM := hM.lt
      have eP := cellsAt_at hP
      have sP := hP.lt
      simp only [cellsM] at eP hP
      by_cases hf : f9 = 0
      · obtain ⟨hv, hz, hd⟩ := okk hf
        have hv1 := (Prod.ext_iff.1 hv).1
        have hv2 := (Prod.ext_iff.1 hv).2
        simp only at hv1 hv2
        simp only [hv1, hv2] at CC
        clear hv1 hv2
        have HCC := Lib.hid CC
        have HD := Lib.hid hd
        have HF1 := Lib.hid hf
        clear CC okk bad hv hd hf HF HF0
        go_wp2_with fail
        refine (HCC.out _ (HS.out _ hx)).mono ?_
        rintro e w1 ⟨rfl, hx1⟩
        have hM1 := hM.ext hx1
        have hP1 := hP.ext hx1
        have x1 := hx.trans hx1
        clear eM sM eP sP hM hP hx hx1
        have eM := cellsAt_at hM1
        have sM := hM1.lt
        have eP := cellsAt_at hP1
        have sP := hP1.lt
        by_cases hcut : c - 8 = 0
        · go_wp2_with fail
          all_goals first | (exfalso; omega) | skip
          go_roundw
          case rel => exact ⟨9, _, _, rfl, by omega, by simp only [restM]; rw [HD.out, List.length_drop], by simp only [restM]; rw [HD.out, List.length_drop]; omega, by omega, Lib.hid (fun W hW => by simp only [restM]; rw [HD.out, List.length_drop]; exact (HS.out W hW).drop5 (by omega) _ (by intro; omega)), HF1, putAt_ext x1 (by omega) _ _, hM1.putFar (by omega) _ _, hP1.putAt _ _⟩
          case measure => simp [intOf]
        · go_wp2_with fail
          all_goals first | (exfalso; omega) | skip
          go_roundw
          case rel => exact ⟨9, _, _, rfl, by omega, by simp only [restM]; rw [HD.out, List.length_drop], by simp only [restM]; rw [HD.out, List.length_drop]; omega, by omega, Lib.hid (fun W hW => by simp only [restM]; rw [HD.out, List.length_drop]; exact (HS.out W hW).drop5 (by omega) _ (by intro _; first | rfl | (rw [if_neg (by omega)]; rfl))), HF1, putAt_ext x1 (by omega) _ _, hM1.putFar (by omega) _ _, hP1.putAt _ _⟩
          case measure => simp [intOf]
      · have hz := bad hf
        have hv1 := (Prod.ext_iff.1 hz).1
        have hv2 := (Prod.ext_iff.1 hz).2
        simp only at hv1 hv2
        simp only [hv1, hv2] at CC
        clear hv1 hv2
        have HCC := Lib.hid CC
        have hne : (f9 != 0) = true := bne_iff_ne.2 hf
        have hq9 : f9 = f9 := rfl
        have hfz : finM ⟨(va : Int), (vb : Int), (min vd 4611686018427387905 : Nat), (min ve 4611686018427387905 : Nat), vi, vj, vp, vq, (vc : Int)⟩ s9 f9 = (zeroM, f9) := by unfold finM; rw [if_pos (by rw [hq9]; exact hf), hq9]
        have HFIN := Lib.hid hfz
        clear hfz CC okk bad hz HF HF0 hf hq9
        go_wp2_with fail
        refine (HCC.out _ (HS.out _ hx)).mono ?_
        rintro e w1 ⟨rfl, hx1⟩
        have hM1 := hM.ext hx1
        have hP1 := hP.ext hx1
        have x1 := hx.trans hx1
        clear eM sM eP sP hM hP hx hx1
        have eM := cellsAt_at hM1
        have sM := hM1.lt
        have eP := cellsAt_at hP1
        have sP := hP1.lt
        go_wp2_with fail
        obtain ⟨w2, hw2⟩ : ∃ W : World, W = putAt w1 gp 40 #[.int .u64 0, .int .i64 0, .slice none 0 0, .int .i64 0, .int .i64 f9] := ⟨_, rfl⟩
        have x2 : Ext w w2 := by rw [hw2]; exact putAt_ext x1 (by omega) _ _
        have hM2 : At w2 w.heap.size 23 #[.int .i64 0, .int .i64 0, .int .i64 0, .int .i64 0, .int .i64 0, .int .i64 0, .int .i64 0, .int .i64 0, .int .i64 0] := by rw [hw2]; exact hM1.putFar (by omega) _ _
        have hc2 : w2.cell? ⟨gp, 44, none⟩ = some (.int .i64 f9) := by rw [hw2, cell_putAt _ _ _ _ _ rfl (by rw [eP]; rfl)]; rfl
        have hs2 : w2.heap.size = w1.heap.size := by rw [hw2]; simp [putAt]
        rw [← hw2]
        clear hw2 eM eP hM1 hP1
        have s2 : gp < w2.heap.size := by omega
        have sM2 := hM2.lt
        have eM2 := cellsAt_at hM2
        refine wp_region_s [0, 0, 0, 0, 0, 1, 0] (fun x => ∀ b ∈ [gp], x.heap[b]? = w2.heap[b]?) (by kernel_rfl) (by kernel_rfl) ?_
        refine hls_same (fun K hK => ?_)
        go_simp
        refine hK _ ?_
        clear hK K
        refine hls_same (fun K hK => ?_)
        go_simp
        refine hK _ ?_
        clear hK K
        refine hls_same (fun K hK => ?_)
        go_simp
        refine hK _ ?_
        clear hK K
        refine hls_same (fun K hK => ?_)
        go_simp
        refine hK _ ?_
        clear hK K
        refine hls_same (fun K hK => ?_)
        go_simp
        refine hK _ ?_
        clear hK K
        refine hls_skip (by decide) ?_
        refine hls_same (fun K hK => ?_)
        go_simp
        refine hK _ ?_
        clear hK K
        refine hls_nil ?_
        intro w3 hxw3 K hK
        have hM3 := hM2.ext hxw3
        have x3 := x2.trans hxw3
        have same3 : ∀ b ∈ [gp], w3.heap[b]? = w2.heap[b]? := fun b hb => by simp at hb; subst hb; exact hxw3.block _ s2
        have eM3 := cellsAt_at hM3
        have sM3 := hM3.lt
        refine ms_pass ?_
        refine ms_pass ?_
        refine ms_pass ?_
        refine ms_pass ?_
        refine ms_pass ?_
        refine ms_do (by decide) (same3) (fun K' hK' => ?_)
        go_wp2_with fail
        obtain ⟨w4, hw4⟩ : ∃ W : World, W = w3.setRow w.heap.size #[.int .i64 0, .int .i64 0, .int .i64 0, .int .i64 0, .int .i64 0, .int .i64 0, .int .i64 0, .int .i64 0, .int .i64 0] := ⟨_, rfl⟩
        have x4 : Ext w w4 := by rw [hw4]; exact x3.setRow (Nat.le_refl _) _
        have hM4 : At w4 w.heap.size 23 #[.int .i64 0, .int .i64 0, .int .i64 0, .int .i64 0, .int .i64 0, .int .i64 0, .int .i64 0, .int .i64 0, .int .i64 0] := by rw [hw4]; exact hM3.setRow _
        have same4 : ∀ b ∈ [gp], w4.heap[b]? = w2.heap[b]? := fun b hb => by have := same3 b hb; rw [hw4]; rw [← this]; simp at hb; subst hb; exact setRow_other _ _ _ _ (by omega)
        rw [← hw4]
        clear hw4 eM3
        refine ms_pass ?_
        refine ms_nil (same4) (hK _ _ ?_)
        have eM4 := cellsAt_at hM4
        have sM4 := hM4.lt
        go_wp2_with fail
        first | refine fin_ret rfl (fun K hK => ?_) | refine fin_norm rfl (fun K hK => ?_)
        simp [results, Try.results15, go_sem, rsat]
        try go_simp
        refine hK _ ?_
        clear hK K
        exact ⟨x4, zeroM, f9, rfl, by rw [HFIN.out]⟩
    ·
      simp only [restM]
      have HF0 : f9 = (0 : Int) := HF.out
      have eM := cellsAt_at hM
      have sM := hM.lt
      have eP := cellsAt_at hP
      have sP := hP.lt
      simp only [cellsM] at eP
      by_cases hr : 0 < s9.length
      · have hfz : finM ⟨(va : Int), (vb : Int), (min vd 4611686018427387905 : Nat), (min ve 4611686018427387905 : Nat), vi, vj, vp, vq, (vc : Int)⟩ s9 f9 = (zeroM, 4) := by rw [HF0]; unfold finM; rw [if_neg (by simp), if_pos (.inl hr)]
        have HFIN := Lib.hid hfz
        clear hfz HF HF0
        have hri : (0 : Int) < (s9.length : Int) := by omega
        go_wp2_with fail
        obtain ⟨wz, hwz⟩ : ∃ W : World, W = wr.setRow w.heap.size #[.int .i64 0, .int .i64 0, .int .i64 0, .int .i64 0, .int .i64 0, .int .i64 0, .int .i64 0, .int .i64 0, .int .i64 0] := ⟨_, rfl⟩
        have xz : Ext w wz := by rw [hwz]; exact hx.setRow (Nat.le_refl _) _
        have mz : At wz w.heap.size 23 #[.int .i64 0, .int .i64 0, .int .i64 0, .int .i64 0, .int .i64 0, .int .i64 0, .int .i64 0, .int .i64 0, .int .i64 0] := by rw [hwz]; exact hM.setRow _
        rw [← hwz]
        clear hwz eM eP sM sP
        have ez := cellsAt_at mz
        have sz := mz.lt
        first | refine fin_ret rfl (fun K hK => ?_) | refine fin_norm rfl (fun K hK => ?_)
        simp [results, Try.results15, go_sem, rsat]
        try go_simp
        refine hK _ ?_
        clear hK K
        exact ⟨xz, zeroM, 4, rfl, by rw [HFIN.out]⟩
      have hri : decide ((0 : Int) < (s9.length : Int)) = false := decide_eq_false (by omega)
      by_cases hvd : 4611686018427387904 < vd
      · have hfz : finM ⟨(va : Int), (vb : Int), (min vd 4611686018427387905 : Nat), (min ve 4611686018427387905 : Nat), vi, vj, vp, vq, (vc : Int)⟩ s9 f9 = (zeroM, 4) := by rw [HF0]; unfold finM; rw [if_neg (by simp), if_pos (.inr (rightB_seq _ (by show (4611686018427387904 : Int) < ((min vd 4611686018427387905 : Nat) : Int); omega)))]
        have HFIN := Lib.hid hfz
        clear hfz HF HF0
        have hvdi : (4611686018427387904 : Int) < (vd : Int) := by omega
        go_wp2_with fail
        obtain ⟨wz, hwz⟩ : ∃ W : World, W = wr.setRow w.heap.size #[.int .i64 0, .int .i64 0, .int .i64 0, .int .i64 0, .int .i64 0, .int .i64 0, .int .i64 0, .int .i64 0, .int .i64 0] := ⟨_, rfl⟩
        have xz : Ext w wz := by rw [hwz]; exact hx.setRow (Nat.le_refl _) _
        have mz : At wz w.heap.size 23 #[.int .i64 0, .int .i64 0, .int .i64 0, .int .i64 0, .int .i64 0, .int .i64 0, .int .i64 0, .int .i64 0, .int .i64 0] := by rw [hwz]; exact hM.setRow _
        rw [← hwz]
        clear hwz eM eP sM sP
        have ez := cellsAt_at mz
        have sz := mz.lt
        first | refine fin_ret rfl (fun K hK => ?_) | refine fin_norm rfl (fun K hK => ?_)
        simp [results, Try.results15, go_sem, rsat]
        try go_simp
        refine hK _ ?_
        clear hK K
        exact ⟨xz, zeroM, 4, rfl, by rw [HFIN.out]⟩
      have hvdi : decide ((4611686018427387904 : Int) < (vd : Int)) = false := decide_eq_false (by omega)
      by_cases hve : 4611686018427387904 < ve
      · have hfz : finM ⟨(va : Int), (vb : Int), (min vd 4611686018427387905 : Nat), (min ve 4611686018427387905 : Nat), vi, vj, vp, vq, (vc : Int)⟩ s9 f9 = (zeroM, 4) := by rw [HF0]; unfold finM; rw [if_neg (by simp), if_pos (.inr (rightB_tick _ (by show (4611686018427387904 : Int) < ((min ve 4611686018427387905 : Nat) : Int); omega)))]
        have HFIN := Lib.hid hfz
        clear hfz HF HF0
        have hvei : (4611686018427387904 : Int) < (ve : Int) := by omega
        go_wp2_with fail
        obtain ⟨wz, hwz⟩ : ∃ W : World, W = wr.setRow w.heap.size #[.int .i64 0, .int .i64 0, .int .i64 0, .int .i64 0, .int .i64 0, .int .i64 0, .int .i64 0, .int .i64 0, .int .i64 0] := ⟨_, rfl⟩
        have xz : Ext w wz := by rw [hwz]; exact hx.setRow (Nat.le_refl _) _
        have mz : At wz w.heap.size 23 #[.int .i64 0, .int .i64 0, .int .i64 0, .int .i64 0, .int .i64 0, .int .i64 0, .int .i64 0, .int .i64 0, .int .i64 0] := by rw [hwz]; exact hM.setRow _
        rw [← hwz]
        clear hwz eM eP sM sP
        have ez := cellsAt_at mz
        have sz := mz.lt
        first | refine fin_ret rfl (fun K hK => ?_) | refine fin_norm rfl (fun K hK => ?_)
        simp [results, Try.results15, go_sem, rsat]
        try go_simp
        refine hK _ ?_
        clear hK K
        exact ⟨xz, zeroM, 4, rfl, by rw [HFIN.out]⟩
      have hvei : decide ((4611686018427387904 : Int) < (ve : Int)) = false := decide_eq_false (by omega)
      have w_va : IntKind.i64.wrap (va : Int) = (va : Int) := by rw [IntWalk.i64_left, wrap64_in ⟨by omega, by omega⟩]
      have w_vb : IntKind.i64.wrap (vb : Int) = (vb : Int) := by rw [IntWalk.i64_left, wrap64_in ⟨by omega, by omega⟩]
      have w_vc : IntKind.i64.wrap (vc : Int) = (vc : Int) := by rw [IntWalk.i64_left, wrap64_in ⟨by omega, by omega⟩]
      have w_vd : IntKind.i64.wrap (vd : Int) = (vd : Int) := by rw [IntWalk.i64_left, wrap64_in ⟨by omega, by omega⟩]
      have w_ve : IntKind.i64.wrap (ve : Int) = (ve : Int) := by rw [IntWalk.i64_left, wrap64_in ⟨by omega, by omega⟩]
      obtain ⟨cc, hcc⟩ : ∃ cc : Mg, cc = (⟨(va : Int), (vb : Int), (vd : Int), (ve : Int), vi, vj, vp, vq, (vc : Int)⟩ : Mg) := ⟨_, rfl⟩
      have hfin : finM ⟨(va : Int), (vb : Int), (min vd 4611686018427387905 : Nat), (min ve 4611686018427387905 : Nat), vi, vj, vp, vq, (vc : Int)⟩ s9 f9 = finM cc s9 0 := by rw [HF0, hcc, Nat.min_eq_left (show vd ≤ 4611686018427387905 by omega), Nat.min_eq_left (show ve ≤ 4611686018427387905 by omega)]
      have HFINL := Lib.hid hfin
      clear hfin
      have CR := rright_c cc
      have hcv : (#[.int .i64 (va : Int), .int .i64 (vb : Int), .int .i64 (vd : Int), .int .i64 (ve : Int), .int .i64 vi, .int .i64 vj, .int .i64 vp, .int .i64 vq, .int .i64 (vc : Int)] : Array Value) = #[.int .i64 cc.kind, .int .i64 cc.sym, .int .i64 cc.seq, .int .i64 cc.tick, .int .i64 cc.id, .int .i64 cc.wth, .int .i64 cc.price, .int .i64 cc.qty, .int .i64 cc.code] := by rw [hcc]
      rw [← hcv] at CR
      have HCV := Lib.hid hcv
      clear hcv
      cases hR : rightB cc with
      | false =>
        rw [hR] at CR
        have HCR := Lib.hid CR
        clear CR
        have hfz : finM ⟨(va : Int), (vb : Int), (min vd 4611686018427387905 : Nat), (min ve 4611686018427387905 : Nat), vi, vj, vp, vq, (vc : Int)⟩ s9 f9 = (zeroM, 4) := by rw [HFINL.out]; unfold finM; rw [if_neg (by simp), if_pos (.inr hR)]
        have HFIN := Lib.hid hfz
        clear hfz hR HF HF0
        go_wp2_with fail
        refine (HCR.out _).mono ?_
        rintro e w1 ⟨rfl, hx1⟩
        have hM1 : At w1 w.heap.size 23 #[.int .i64 0, .int .i64 0, .int .i64 0, .int .i64 0, .int .i64 0, .int .i64 0, .int .i64 0, .int .i64 0, .int .i64 0] := At.ext (by repeat (first | (with_reducible exact At.new _ _ _) | ((with_reducible refine At.new' _ _ _ _ ?_); simp; done) | (with_reducible assumption) | (with_reducible refine At.drew ?_) | (with_reducible refine At.alloc ?_ _) | (with_reducible apply At.upd) | (with_reducible apply At.setRow) | (with_reducible refine At.rowFar ?_ (by first | (simp; done) | (simp; omega) | omega) _) | ((with_reducible refine At.far ?_ (by first | (simp; done) | (simp; omega) | omega) _)) | (with_reducible rfl) | (simp; done))) hx1
        have x1 : Ext w w1 := Ext.trans (by repeat (first | (with_reducible exact Ext.refl _) | (with_reducible assumption) | (with_reducible refine Ext.alloc ?_ _) | (with_reducible refine Ext.drew ?_) | (with_reducible refine Ext.drewN ?_ _) | (with_reducible refine Ext.setCell ?_ (by simp; try omega) _) | (with_reducible refine Ext.setRow ?_ (by simp; try omega) _))) hx1
        have hN1 : At w1 wr.heap.size 23 #[.int .i64 (va : Int), .int .i64 (vb : Int), .int .i64 (vd : Int), .int .i64 (ve : Int), .int .i64 vi, .int .i64 vj, .int .i64 vp, .int .i64 vq, .int .i64 (vc : Int)] := At.ext (by repeat (first | (with_reducible exact At.new _ _ _) | ((with_reducible refine At.new' _ _ _ _ ?_); simp; done) | (with_reducible assumption) | (with_reducible refine At.drew ?_) | (with_reducible refine At.alloc ?_ _) | (with_reducible apply At.upd) | (with_reducible apply At.setRow) | (with_reducible refine At.rowFar ?_ (by first | (simp; done) | (simp; omega) | omega) _) | ((with_reducible refine At.far ?_ (by first | (simp; done) | (simp; omega) | omega) _)) | (with_reducible rfl) | (simp; done))) hx1
        clear eM eP
        have eM := cellsAt_at hM1
        have sM1 := hM1.lt
        have eN := cellsAt_at hN1
        have sN1 := hN1.lt
        go_wp2_with fail
        obtain ⟨wz, hwz⟩ : ∃ W : World, W = w1.setRow w.heap.size #[.int .i64 0, .int .i64 0, .int .i64 0, .int .i64 0, .int .i64 0, .int .i64 0, .int .i64 0, .int .i64 0, .int .i64 0] := ⟨_, rfl⟩
        have xz : Ext w wz := by rw [hwz]; exact x1.setRow (Nat.le_refl _) _
        have mz : At wz w.heap.size 23 #[.int .i64 0, .int .i64 0, .int .i64 0, .int .i64 0, .int .i64 0, .int .i64 0, .int .i64 0, .int .i64 0, .int .i64 0] := by rw [hwz]; exact hM1.setRow _
        rw [← hwz]
        clear hwz eM sM1
        have ez := cellsAt_at mz
        have sz := mz.lt
        first | refine fin_ret rfl (fun K hK => ?_) | refine fin_norm rfl (fun K hK => ?_)
        simp [results, Try.results15, go_sem, rsat]
        try go_simp
        refine hK _ ?_
        clear hK K
        exact ⟨xz, zeroM, 4, rfl, by rw [HFIN.out]⟩
      | true =>
        rw [hR] at CR
        have HCR := Lib.hid CR
        clear CR
        have hfz : finM ⟨(va : Int), (vb : Int), (min vd 4611686018427387905 : Nat), (min ve 4611686018427387905 : Nat), vi, vj, vp, vq, (vc : Int)⟩ s9 f9 = (cc, 0) := by rw [HFINL.out]; unfold finM; rw [if_neg (by simp), if_neg (by rintro (h9 | h9); exact absurd h9 hr; rw [hR] at h9; cases h9)]
        have HFIN := Lib.hid hfz
        clear hfz hR HF HF0
        go_wp2_with fail
        refine (HCR.out _).mono ?_
        rintro e w1 ⟨rfl, hx1⟩
        have hM1 : At w1 w.heap.size 23 #[.int .i64 0, .int .i64 0, .int .i64 0, .int .i64 0, .int .i64 0, .int .i64 0, .int .i64 0, .int .i64 0, .int .i64 0] := At.ext (by repeat (first | (with_reducible exact At.new _ _ _) | ((with_reducible refine At.new' _ _ _ _ ?_); simp; done) | (with_reducible assumption) | (with_reducible refine At.drew ?_) | (with_reducible refine At.alloc ?_ _) | (with_reducible apply At.upd) | (with_reducible apply At.setRow) | (with_reducible refine At.rowFar ?_ (by first | (simp; done) | (simp; omega) | omega) _) | ((with_reducible refine At.far ?_ (by first | (simp; done) | (simp; omega) | omega) _)) | (with_reducible rfl) | (simp; done))) hx1
        have x1 : Ext w w1 := Ext.trans (by repeat (first | (with_reducible exact Ext.refl _) | (with_reducible assumption) | (with_reducible refine Ext.alloc ?_ _) | (with_reducible refine Ext.drew ?_) | (with_reducible refine Ext.drewN ?_ _) | (with_reducible refine Ext.setCell ?_ (by simp; try omega) _) | (with_reducible refine Ext.setRow ?_ (by simp; try omega) _))) hx1
        have hN1 : At w1 wr.heap.size 23 #[.int .i64 (va : Int), .int .i64 (vb : Int), .int .i64 (vd : Int), .int .i64 (ve : Int), .int .i64 vi, .int .i64 vj, .int .i64 vp, .int .i64 vq, .int .i64 (vc : Int)] := At.ext (by repeat (first | (with_reducible exact At.new _ _ _) | ((with_reducible refine At.new' _ _ _ _ ?_); simp; done) | (with_reducible assumption) | (with_reducible refine At.drew ?_) | (with_reducible refine At.alloc ?_ _) | (with_reducible apply At.upd) | (with_reducible apply At.setRow) | (with_reducible refine At.rowFar ?_ (by first | (simp; done) | (simp; omega) | omega) _) | ((with_reducible refine At.far ?_ (by first | (simp; done) | (simp; omega) | omega) _)) | (with_reducible rfl) | (simp; done))) hx1
        clear eM eP
        have eM := cellsAt_at hM1
        have sM1 := hM1.lt
        have eN := cellsAt_at hN1
        have sN1 := hN1.lt
        go_wp2_with fail
        obtain ⟨wz, hwz⟩ : ∃ W : World, W = w1.setRow w.heap.size #[.int .i64 (va : Int), .int .i64 (vb : Int), .int .i64 (vd : Int), .int .i64 (ve : Int), .int .i64 vi, .int .i64 vj, .int .i64 vp, .int .i64 vq, .int .i64 (vc : Int)] := ⟨_, rfl⟩
        have xz : Ext w wz := by rw [hwz]; exact x1.setRow (Nat.le_refl _) _
        have mz : At wz w.heap.size 23 #[.int .i64 (va : Int), .int .i64 (vb : Int), .int .i64 (vd : Int), .int .i64 (ve : Int), .int .i64 vi, .int .i64 vj, .int .i64 vp, .int .i64 vq, .int .i64 (vc : Int)] := by rw [hwz]; exact hM1.setRow _
        rw [← hwz]
        clear hwz eM sM1
        have ez := cellsAt_at mz
        have sz := mz.lt
        first | refine fin_ret rfl (fun K hK => ?_) | refine fin_norm rfl (fun K hK => ?_)
        simp [results, Try.results15, go_sem, rsat]
        try go_simp
        refine hK _ ?_
        clear hK K
        exact ⟨xz, cc, 0, by rw [← HCV.out], by rw [HFIN.out]⟩
end Go.Proofs.Ytndcmjpacailjaa
