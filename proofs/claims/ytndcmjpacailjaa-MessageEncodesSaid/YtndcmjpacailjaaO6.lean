/- What a reader reads, 2 (octets): Uint, Int, Raw. Condition: at most 10^9 bytes. -/
import Derived.Test.YtndcmjpacailjaaOB
namespace Go.Proofs.Ytndcmjpacailjaa
open Go.RowKit
attribute [local go_sem] Later.cell QUpon_value QUpon_enter MUpon_value run_eql_slice_nil
def valF (n : Nat) (l : List Int) : Nat := l.foldl (fun n b => n * 256 + b.toNat) n
def valN (l : List Int) : Nat := valF 0 l
theorem valF_app (n : Nat) (l : List Int) (x : Int) : valF n (l ++ [x]) = valF n l * 256 + x.toNat := by
  simp [valF]
theorem valN_lt {l : List Int} (h : Byt l) : valN l < 256 ^ l.length := by
  unfold valN
  have : ∀ (l : List Int), Byt l → ∀ (n k : Nat), n < 256 ^ k → valF n l < 256 ^ (k + l.length) := by
    intro l
    induction l with
    | nil => intro _ n k h; exact h
    | cons x l ih =>
      intro hb n k hn
      have hx := hb x (by simp)
      have h1 : n * 256 + x.toNat < 256 ^ (k + 1) := by rw [Nat.pow_succ]; omega
      have h2 := ih (fun y hy => hb y (by simp [hy])) _ _ h1
      rw [show k + (x :: l).length = k + 1 + l.length by simp; omega]
      exact h2
  have h1 := this l h 0 0 (by decide)
  rwa [Nat.zero_add] at h1
theorem or_byte (m : Nat) (x : Int) (hm : m < 72057594037927936) (hx : 0 ≤ x ∧ x < 256) : bits BinOp.or IntKind.u64 ((m : Int) * 256) x = (m : Int) * 256 + x := by
  have h := or_join 8 (m * 256) x.toNat (by decide) (by omega) (by omega) (by omega)
  rw [show ((x.toNat : Nat) : Int) = x by omega, show ((m * 256 : Nat) : Int) = (m : Int) * 256 by omega] at h
  rw [h]
  omega
def uintR (bs : List Int) (f : Int) (size : Nat) : Nat × List Int × Int := if f ≠ 0 then (0, bs, f) else if bs.length < size then (0, bs, 3) else (valN (bs.take size), bs.drop size, 0)
theorem ruint_bad (g : Nat) (size : Int) (hs : size < 1 ∨ 8 < size) (w : World) : Calls Try.prog 30 #[.pointer (some ⟨g, 0, none⟩), .int .i64 size] w fun e w' => e = .returned (.int .u64 0) ∧ Ext w w' := by
  by_cases h : size < 1
  ·
    go_enter Try.func30, Try.ntmps30
    go_wp2_with fail
    first | refine fin_ret rfl (fun K hK => ?_) | refine fin_norm rfl (fun K hK => ?_)
    simp [results, Try.results30, go_sem, rsat]
    try go_simp
    refine hK _ ?_
    clear hK K
    exact ⟨rfl, (by repeat (first | (with_reducible exact Ext.refl _) | (with_reducible assumption) | (with_reducible refine Ext.alloc ?_ _) | (with_reducible refine Ext.drew ?_) | (with_reducible refine Ext.drewN ?_ _) | (with_reducible refine Ext.setCell ?_ (by simp; try omega) _) | (with_reducible refine Ext.setRow ?_ (by simp; try omega) _)))⟩
  · have h2 : 8 < size := by omega
    go_enter Try.func30, Try.ntmps30
    go_wp2_with fail
    first | refine fin_ret rfl (fun K hK => ?_) | refine fin_norm rfl (fun K hK => ?_)
    simp [results, Try.results30, go_sem, rsat]
    try go_simp
    refine hK _ ?_
    clear hK K
    exact ⟨rfl, (by repeat (first | (with_reducible exact Ext.refl _) | (with_reducible assumption) | (with_reducible refine Ext.alloc ?_ _) | (with_reducible refine Ext.drew ?_) | (with_reducible refine Ext.drewN ?_ _) | (with_reducible refine Ext.setCell ?_ (by simp; try omega) _) | (with_reducible refine Ext.setRow ?_ (by simp; try omega) _)))⟩
set_option maxHeartbeats 2000000 in
set_option maxRecDepth 100000 in
theorem rduint_c (g : Nat) (A : Option Addr) (bs : List Int) (f : Int) (size : Nat) (hs : 1 ≤ size ∧ size ≤ 8) (w : World) (h : Rdr w g A bs f) :
    Calls Try.prog 30 #[.pointer (some ⟨g, 0, none⟩), .int .i64 size] w fun e w' => e = .returned (.int .u64 ((uintR bs f size).1 : Nat)) ∧ ∃ A', Reads w g A (uintR bs f size).2.1 (uintR bs f size).2.2 w' A' := by
  by_cases hf : f = 0
  · subst hf
    by_cases hl : bs.length < size
    · have e : uintR bs 0 size = (0, bs, 3) := by unfold uintR; rw [if_neg (by simp), if_pos hl]
      rw [e]
      clear e
      go_enter Try.func30, Try.ntmps30
      go_wp2_with fail
      refine (take_short g A bs size hl _ h).mono ?_
      rintro e w1 ⟨rfl, hr⟩
      go_wp2_with fail
      go_loopw [4, 23] (fun n i wr => n = .int .u64 0 ∧ i = .int .i64 0 ∧ wr = w1) (fun _ i _ => 0)
      case atStart => exact ⟨rfl, rfl, rfl⟩
      case round =>
        obtain ⟨rfl, rfl, rfl⟩ := hrel
        go_wp2_with fail
        first | refine fin_ret rfl (fun K hK => ?_) | refine fin_norm rfl (fun K hK => ?_)
        simp [results, Try.results30, go_sem, rsat]
        try go_simp
        refine hK _ ?_
        clear hK K
        exact ⟨rfl, A, hr⟩
    · have e : uintR bs 0 size = (valN (bs.take size), bs.drop size, 0) := by unfold uintR; rw [if_neg (by simp), if_neg hl]
      rw [e]
      clear e
      go_enter Try.func30, Try.ntmps30
      go_wp2_with fail
      refine (take_ok g A bs size (by omega) _ h).mono ?_
      rintro e w1 ⟨c, rfl, ⟨A1, hr⟩, hR⟩
      have hlt : (bs.take size).length = size := by rw [List.length_take]; omega
      have hby : Byt (bs.take size) := fun x hx => h.by_ x (List.mem_of_mem_take hx)
      obtain ⟨ts, hts0⟩ : ∃ ts, ts = bs.take size := ⟨_, rfl⟩
      rw [← hts0] at hR hlt hby
      go_wp2_with fail
      go_loopw [4, 23] (fun n i wr => ∃ k : Nat, i = .int .i64 k ∧ k ≤ size ∧ n = .int .u64 ((valN (ts.take k) : Nat) : Int) ∧ wr = w1) (fun _ i _ => size - (intOf i).toNat)
      case atStart => exact ⟨0, rfl, by omega, rfl, rfl⟩
      case round =>
        obtain ⟨k, rfl, hk, rfl, rfl⟩ := hrel
        by_cases hlt2 : k < size
        · obtain ⟨b, off, cur, rfl, hb, hsz, hxs⟩ := hR.at_ (by have := hR.le; omega)
          have hx0 : ts[k]? = some ts[k] := List.getElem?_eq_getElem (by omega)
          have e0 : wr.cell? ⟨b, off + k, none⟩ = some (.int .u8 ts[k]) := by
            rw [hR.cell rfl (j := k) (by omega)]
            unfold bc
            rw [List.getElem?_map, hx0]
            rfl
          have hxb := hby ts[k] (List.getElem_mem _)
          have hts : valN (ts.take (k + 1)) = valN (ts.take k) * 256 + ts[k].toNat := by
            rw [List.take_add_one, hx0]
            exact valF_app _ _ _
          have hvl := valN_lt (l := ts.take k) (fun x hx => hby x (List.mem_of_mem_take hx))
          have hvl2 : valN (ts.take k) < 72057594037927936 := by
            refine Nat.lt_of_lt_of_le hvl ?_
            rw [List.length_take, show (72057594037927936 : Nat) = 256 ^ 7 from rfl]
            exact Nat.pow_le_pow_right (by decide) (by omega)
          generalize ts[k] = x at e0 hxb hts
          generalize valN (ts.take k) = m at hts hvl2 ⊢
          clear hvl hx0
          have eo := or_byte m x hvl2 hxb
          have ex : IntKind.u64.wrap x = x := by rw [IntKind.wrap_u64]; omega
          go_wp2_with fail
          go_roundw
          case rel => exact ⟨k + 1, by go_num, by omega, by rw [hts]; go_num, by first | rfl | trivial⟩
          case measure => simp [intOf]; omega
        · obtain rfl : k = size := by omega
          go_wp2_with fail
          first | refine fin_ret rfl (fun K hK => ?_) | refine fin_norm rfl (fun K hK => ?_)
          simp [results, Try.results30, go_sem, rsat]
          try go_simp
          refine hK _ ?_
          clear hK K
          exact ⟨by rw [List.take_take, Nat.min_self], A1, hr⟩
  · have e : uintR bs f size = (0, bs, f) := by unfold uintR; rw [if_pos hf]
    rw [e]
    clear e
    go_enter Try.func30, Try.ntmps30
    go_wp2_with fail
    refine (take_bad g A bs f hf size _ h).mono ?_
    rintro e w1 ⟨rfl, hxw1⟩
    have xw1 : Ext w w1 := Ext.trans (by repeat (first | (with_reducible exact Ext.refl _) | (with_reducible assumption) | (with_reducible refine Ext.alloc ?_ _) | (with_reducible refine Ext.drew ?_) | (with_reducible refine Ext.drewN ?_ _) | (with_reducible refine Ext.setCell ?_ (by simp; try omega) _) | (with_reducible refine Ext.setRow ?_ (by simp; try omega) _))) hxw1
    have lw1 := xw1.size
    go_wp2_with fail
    go_loopw [4, 23] (fun n i wr => n = .int .u64 0 ∧ i = .int .i64 0 ∧ wr = w1) (fun _ i _ => 0)
    case atStart => exact ⟨rfl, rfl, rfl⟩
    case round =>
      obtain ⟨rfl, rfl, rfl⟩ := hrel
      go_wp2_with fail
      first | refine fin_ret rfl (fun K hK => ?_) | refine fin_norm rfl (fun K hK => ?_)
      simp [results, Try.results30, go_sem, rsat]
      try go_simp
      refine hK _ ?_
      clear hK K
      exact ⟨rfl, A, (Reads.refl h).extR xw1⟩
theorem rduint_nil (size : Int) (w : World) : Calls Try.prog 30 #[.pointer none, .int .i64 size] w fun e w' => e = .returned (.int .u64 0) ∧ Ext w w' := by
  by_cases h : size < 1
  ·
    go_enter Try.func30, Try.ntmps30
    go_wp2_with fail
    first | refine fin_ret rfl (fun K hK => ?_) | refine fin_norm rfl (fun K hK => ?_)
    simp [results, Try.results30, go_sem, rsat]
    try go_simp
    refine hK _ ?_
    clear hK K
    exact ⟨rfl, (by repeat (first | (with_reducible exact Ext.refl _) | (with_reducible assumption) | (with_reducible refine Ext.alloc ?_ _) | (with_reducible refine Ext.drew ?_) | (with_reducible refine Ext.drewN ?_ _) | (with_reducible refine Ext.setCell ?_ (by simp; try omega) _) | (with_reducible refine Ext.setRow ?_ (by simp; try omega) _)))⟩
  by_cases h2 : 8 < size
  ·
    go_enter Try.func30, Try.ntmps30
    go_wp2_with fail
    first | refine fin_ret rfl (fun K hK => ?_) | refine fin_norm rfl (fun K hK => ?_)
    simp [results, Try.results30, go_sem, rsat]
    try go_simp
    refine hK _ ?_
    clear hK K
    exact ⟨rfl, (by repeat (first | (with_reducible exact Ext.refl _) | (with_reducible assumption) | (with_reducible refine Ext.alloc ?_ _) | (with_reducible refine Ext.drew ?_) | (with_reducible refine Ext.drewN ?_ _) | (with_reducible refine Ext.setCell ?_ (by simp; try omega) _) | (with_reducible refine Ext.setRow ?_ (by simp; try omega) _)))⟩
  go_enter Try.func30, Try.ntmps30
  go_wp2_with fail
  refine (take_nil size _).mono ?_
  rintro e w1 ⟨rfl, hxw1⟩
  have xw1 : Ext w w1 := Ext.trans (by repeat (first | (with_reducible exact Ext.refl _) | (with_reducible assumption) | (with_reducible refine Ext.alloc ?_ _) | (with_reducible refine Ext.drew ?_) | (with_reducible refine Ext.drewN ?_ _) | (with_reducible refine Ext.setCell ?_ (by simp; try omega) _) | (with_reducible refine Ext.setRow ?_ (by simp; try omega) _))) hxw1
  have lw1 := xw1.size
  go_wp2_with fail
  go_loopw [4, 23] (fun n i wr => n = .int .u64 0 ∧ i = .int .i64 0 ∧ wr = w1) (fun _ i _ => 0)
  case atStart => exact ⟨rfl, rfl, rfl⟩
  case round =>
    obtain ⟨rfl, rfl, rfl⟩ := hrel
    go_wp2_with fail
    first | refine fin_ret rfl (fun K hK => ?_) | refine fin_norm rfl (fun K hK => ?_)
    simp [results, Try.results30, go_sem, rsat]
    try go_simp
    refine hK _ ?_
    clear hK K
    exact ⟨rfl, (by repeat (first | (with_reducible exact Ext.refl _) | (with_reducible assumption) | (with_reducible refine Ext.alloc ?_ _) | (with_reducible refine Ext.drew ?_) | (with_reducible refine Ext.drewN ?_ _) | (with_reducible refine Ext.setCell ?_ (by simp; try omega) _) | (with_reducible refine Ext.setRow ?_ (by simp; try omega) _)))⟩
/-- A number without a sign as a signed one. -/
def backN (n : Nat) : Int := if n % 2 = 0 then ((n / 2 : Nat) : Int) else -((n / 2 : Nat) : Int) - 1
theorem back_turn (s : Int) : backN (turnN s) = s := by
  unfold backN turnN
  split
  · rw [if_pos (by omega)]; omega
  · rw [if_neg (by omega)]; omega
theorem backN_I64 {n : Nat} (h : n < 18446744073709551616) : I64 (backN n) := by
  unfold backN
  split <;> exact ⟨by omega, by omega⟩
theorem turn_back (n : Nat) : turnN (backN n) = n := by
  unfold backN turnN
  split
  · rw [if_pos (by omega)]; omega
  · rw [if_neg (by omega)]; omega
theorem and_one (n : Nat) (h : n < 18446744073709551616) : bits BinOp.and IntKind.u64 (n : Int) 1 = ((n % 2 : Nat) : Int) := by
  have e : bits BinOp.and IntKind.u64 (n : Int) 1 = IntKind.u64.wrap ((BitVec.ofInt 64 (n : Int) &&& BitVec.ofInt 64 1).toNat : Int) := rfl
  rw [e, IntKind.wrap_u64, BitVec.toNat_and, BitVec.toNat_ofInt, BitVec.toNat_ofInt]
  simp only [Nat.reducePow]
  rw [show ((n : Int) % (18446744073709551616 : Nat)).toNat = n by omega, show ((1 : Int) % (18446744073709551616 : Nat)).toNat = 1 by omega, Nat.and_one_is_mod]
  omega
theorem back_eq (n : Nat) (h : n < 18446744073709551616) : bits BinOp.xor IntKind.i64 (IntKind.i64.wrap ((n : Int) / 2)) (wrap64 (-(IntKind.i64.wrap ((n % 2 : Nat) : Int)))) = backN n := by
  unfold backN
  rw [IntWalk.i64_left, IntWalk.i64_left, wrap64_in (n := (n : Int) / 2) ⟨by omega, by omega⟩, wrap64_in (n := ((n % 2 : Nat) : Int)) ⟨by omega, by omega⟩, wrap64_in ⟨by omega, by omega⟩]
  split
  · rename_i h0
    rw [h0, show -((0 : Nat) : Int) = 0 from rfl, xor_zero ⟨by omega, by omega⟩]
    omega
  · rename_i h0
    rw [show n % 2 = 1 by omega, show -((1 : Nat) : Int) = -1 from rfl, xor_ones ⟨by omega, by omega⟩]
    omega
theorem back_eq2 (n : Nat) (h : n < 18446744073709551616) : bits BinOp.xor IntKind.i64 ((n : Int) / 2) (-((n : Int) % 2)) = backN n := by
  unfold backN
  split
  · rename_i h0
    rw [show -((n : Int) % 2) = 0 by omega, xor_zero ⟨by omega, by omega⟩]
    omega
  · rename_i h0
    rw [show -((n : Int) % 2) = -1 by omega, xor_ones ⟨by omega, by omega⟩]
    omega
theorem valN8 {bs : List Int} (h : Byt bs) : valN (bs.take 8) < 18446744073709551616 := by
  refine Nat.lt_of_lt_of_le (valN_lt (fun x hx => h x (List.mem_of_mem_take hx))) ?_
  rw [List.length_take, show (18446744073709551616 : Nat) = 256 ^ 8 from rfl]
  exact Nat.pow_le_pow_right (by decide) (by omega)
theorem uintR_lt {bs : List Int} (h : Byt bs) (f : Int) : (uintR bs f 8).1 < 18446744073709551616 := by
  unfold uintR
  split
  · show 0 < 18446744073709551616; omega
  · split
    · show 0 < 18446744073709551616; omega
    · exact valN8 h
theorem rdint_c (g : Nat) (A : Option Addr) (bs : List Int) (f : Int) (w : World) (h : Rdr w g A bs f) :
    Calls Try.prog 31 #[.pointer (some ⟨g, 0, none⟩)] w fun e w' => e = .returned (.int .i64 (backN (uintR bs f 8).1)) ∧ ∃ A', Reads w g A (uintR bs f 8).2.1 (uintR bs f 8).2.2 w' A' := by
  have hlt := uintR_lt h.by_ f
  have C := rduint_c g A bs f 8 (by decide) w h
  generalize uintR bs f 8 = r at C hlt ⊢
  obtain ⟨n, cs, f'⟩ := r
  simp only at C hlt ⊢
  have e1 := and_one n hlt
  have e2 := back_eq2 n hlt
  go_enter Try.func31, Try.ntmps31
  go_wp2_with fail
  refine C.mono ?_
  rintro e w1 ⟨rfl, A1, hr⟩
  go_wp2_with fail
  first | refine fin_ret rfl (fun K hK => ?_) | refine fin_norm rfl (fun K hK => ?_)
  simp [results, Try.results31, go_sem, rsat]
  try go_simp
  refine hK _ ?_
  clear hK K
  exact ⟨rfl, A1, hr⟩
theorem rdint_nil (w : World) : Calls Try.prog 31 #[.pointer none] w fun e w' => e = .returned (.int .i64 0) ∧ Ext w w' := by
  have e2 : bits BinOp.xor IntKind.i64 0 (wrap64 (-wrap64 (bits BinOp.and IntKind.u64 0 1))) = 0 := by decide +kernel
  go_enter Try.func31, Try.ntmps31
  go_wp2_with fail
  refine (rduint_nil 8 _).mono ?_
  rintro e w1 ⟨rfl, hxw1⟩
  have xw1 : Ext w w1 := Ext.trans (by repeat (first | (with_reducible exact Ext.refl _) | (with_reducible assumption) | (with_reducible refine Ext.alloc ?_ _) | (with_reducible refine Ext.drew ?_) | (with_reducible refine Ext.drewN ?_ _) | (with_reducible refine Ext.setCell ?_ (by simp; try omega) _) | (with_reducible refine Ext.setRow ?_ (by simp; try omega) _))) hxw1
  have lw1 := xw1.size
  go_wp2_with fail
  first | refine fin_ret rfl (fun K hK => ?_) | refine fin_norm rfl (fun K hK => ?_)
  simp [results, Try.results31, go_sem, rsat]
  try go_simp
  refine hK _ ?_
  clear hK K
  exact ⟨rfl, (by repeat (first | (with_reducible exact Ext.refl _) | (with_reducible assumption) | (with_reducible refine Ext.alloc ?_ _) | (with_reducible refine Ext.drew ?_) | (with_reducible refine Ext.drewN ?_ _) | (with_reducible refine Ext.setCell ?_ (by simp; try omega) _) | (with_reducible refine Ext.setRow ?_ (by simp; try omega) _)))⟩
/-- Raw: so many bytes, or what is wrong. -/
def rawR (bs : List Int) (f : Int) (n : Nat) : List Int × List Int × Int := if f ≠ 0 then ([], bs, f) else if bs.length < n then ([], bs, 3) else (bs.take n, bs.drop n, 0)
theorem rdraw_c (g : Nat) (A : Option Addr) (bs : List Int) (f : Int) (n : Nat) (w : World) (h : Rdr w g A bs f) (hl : bs.length ≤ 1000000000) :
    Calls Try.prog 51 #[.pointer (some ⟨g, 0, none⟩), .int .i64 n] w fun e w' => (∃ v, e = .returned v ∧ Own w w' v (rawR bs f n).1) ∧ ∃ A', Reads w g A (rawR bs f n).2.1 (rawR bs f n).2.2 w' A' := by
  by_cases hf : f = 0
  · subst hf
    by_cases hn : bs.length < n
    · have e : rawR bs 0 n = ([], bs, 3) := by unfold rawR; rw [if_neg (by simp), if_pos hn]
      rw [e]
      clear e
      go_enter Try.func51, Try.ntmps51
      go_wp2_with fail
      refine (take_short g A bs n hn _ h).mono ?_
      rintro e w1 ⟨rfl, hr⟩
      go_wp2_with fail
      refine (clone_c none 0 0 [] _ ⟨rfl, fun h => absurd h (by decide)⟩ (by decide)).mono ?_
      rintro e w2 ⟨hx2, v, rfl, ho⟩
      go_wp2_with fail
      first | refine fin_ret rfl (fun K hK => ?_) | refine fin_norm rfl (fun K hK => ?_)
      simp [results, Try.results51, go_sem, rsat]
      try go_simp
      refine hK _ ?_
      clear hK K
      exact ⟨⟨v, rfl, ho.baseC hr.chg⟩, A, hr.extR hx2⟩
    · have e : rawR bs 0 n = (bs.take n, bs.drop n, 0) := by unfold rawR; rw [if_neg (by simp), if_neg hn]
      rw [e]
      clear e
      go_enter Try.func51, Try.ntmps51
      go_wp2_with fail
      refine (take_ok g A bs n (by omega) _ h).mono ?_
      rintro e w1 ⟨c, rfl, ⟨A1, hr⟩, hR⟩
      go_wp2_with fail
      refine (clone_c A n c (bs.take n) _ hR.src (by omega)).mono ?_
      rintro e w2 ⟨hx2, v, rfl, ho⟩
      go_wp2_with fail
      first | refine fin_ret rfl (fun K hK => ?_) | refine fin_norm rfl (fun K hK => ?_)
      simp [results, Try.results51, go_sem, rsat]
      try go_simp
      refine hK _ ?_
      clear hK K
      exact ⟨⟨v, rfl, ho.baseC hr.chg⟩, A1, hr.extR hx2⟩
  · have e : rawR bs f n = ([], bs, f) := by unfold rawR; rw [if_pos hf]
    rw [e]
    clear e
    go_enter Try.func51, Try.ntmps51
    go_wp2_with fail
    refine (take_bad g A bs f hf n _ h).mono ?_
    rintro e w1 ⟨rfl, hxw1⟩
    have xw1 : Ext w w1 := Ext.trans (by repeat (first | (with_reducible exact Ext.refl _) | (with_reducible assumption) | (with_reducible refine Ext.alloc ?_ _) | (with_reducible refine Ext.drew ?_) | (with_reducible refine Ext.drewN ?_ _) | (with_reducible refine Ext.setCell ?_ (by simp; try omega) _) | (with_reducible refine Ext.setRow ?_ (by simp; try omega) _))) hxw1
    have lw1 := xw1.size
    go_wp2_with fail
    refine (clone_c none 0 0 [] _ ⟨rfl, fun h => absurd h (by decide)⟩ (by decide)).mono ?_
    rintro e w2 ⟨hx2, v, rfl, ho⟩
    go_wp2_with fail
    first | refine fin_ret rfl (fun K hK => ?_) | refine fin_norm rfl (fun K hK => ?_)
    simp [results, Try.results51, go_sem, rsat]
    try go_simp
    refine hK _ ?_
    clear hK K
    exact ⟨⟨v, rfl, ho.base xw1⟩, A, (Reads.refl h).extR (xw1.trans hx2)⟩
theorem rdraw_neg (p : Option Addr) (n : Int) (hn : n < 0) (w : World) : Calls Try.prog 51 #[.pointer p, .int .i64 n] w fun e w' => e = .returned (.slice none 0 0) ∧ Ext w w' := by
  go_enter Try.func51, Try.ntmps51
  go_wp2_with fail
  first | refine fin_ret rfl (fun K hK => ?_) | refine fin_norm rfl (fun K hK => ?_)
  simp [results, Try.results51, go_sem, rsat]
  try go_simp
  refine hK _ ?_
  clear hK K
  exact ⟨rfl, (by repeat (first | (with_reducible exact Ext.refl _) | (with_reducible assumption) | (with_reducible refine Ext.alloc ?_ _) | (with_reducible refine Ext.drew ?_) | (with_reducible refine Ext.drewN ?_ _) | (with_reducible refine Ext.setCell ?_ (by simp; try omega) _) | (with_reducible refine Ext.setRow ?_ (by simp; try omega) _)))⟩
theorem rdraw_nil (n : Int) (w : World) : Calls Try.prog 51 #[.pointer none, .int .i64 n] w fun e w' => Ext w w' ∧ ∃ v, e = .returned v ∧ Own w w' v [] := by
  by_cases hn : n < 0
  · refine (rdraw_neg none n hn w).mono ?_
    rintro e w1 ⟨rfl, hx⟩
    exact ⟨hx, _, rfl, Own.nil _ _⟩
  go_enter Try.func51, Try.ntmps51
  go_wp2_with fail
  refine (take_nil n _).mono ?_
  rintro e w1 ⟨rfl, hxw1⟩
  have xw1 : Ext w w1 := Ext.trans (by repeat (first | (with_reducible exact Ext.refl _) | (with_reducible assumption) | (with_reducible refine Ext.alloc ?_ _) | (with_reducible refine Ext.drew ?_) | (with_reducible refine Ext.drewN ?_ _) | (with_reducible refine Ext.setCell ?_ (by simp; try omega) _) | (with_reducible refine Ext.setRow ?_ (by simp; try omega) _))) hxw1
  have lw1 := xw1.size
  go_wp2_with fail
  refine (clone_c none 0 0 [] _ ⟨rfl, fun h => absurd h (by decide)⟩ (by decide)).mono ?_
  rintro e w2 ⟨hx2, v, rfl, ho⟩
  go_wp2_with fail
  first | refine fin_ret rfl (fun K hK => ?_) | refine fin_norm rfl (fun K hK => ?_)
  simp [results, Try.results51, go_sem, rsat]
  try go_simp
  refine hK _ ?_
  clear hK K
  exact ⟨xw1.trans hx2, v, rfl, ho.base xw1⟩
end Go.Proofs.Ytndcmjpacailjaa
