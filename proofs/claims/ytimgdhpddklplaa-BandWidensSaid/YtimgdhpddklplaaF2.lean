/- The walks of package fix: Mul, MulDiv. No condition. -/
import Derived.Test.YtimgdhpddklplaaF1
import Derived.Test.YtimgdhpddklplaaW3
namespace Go.Proofs.Ytimgdhpddklplaa
open Go.RowKit


/-- A product divided. -/
def mdQ (a b d : Int) (up : Bool) : Nat := a.toNat * b.toNat / d.toNat + (if up = true ∧ 0 < a.toNat * b.toNat % d.toNat then 1 else 0)
def mdI (a b d : Int) (up : Bool) : Value := if a < 0 ∨ b < 0 ∨ d < 1 then chk64 9223372036854775808 else chk64 (mdQ a b d up : Nat)

set_option maxRecDepth 100000 in
set_option maxHeartbeats 800000 in
theorem md_none (a b d : Int) (up : Bool) (ha : I64 a) (hb : I64 b) (hd : I64 d) (h : a < 0 ∨ b < 0 ∨ d < 1) (w : World) : Calls Try.prog 54 #[.int .i64 a, .int .i64 b, .int .i64 d, .bool up] w fun e w' => e = .returned (mdI a b d up) ∧ Ext w w' := by
  unfold mdI
  rw [if_pos h, chk64_out]
  by_cases h1 : a < 0
  ·
    go_enter Try.func54, Try.ntmps54
    go_wp2
    refine fin_ret rfl (fun K hK => ?_)
    simp [results, Try.results54, go_sem, rsat]
    try go_simp
    refine hK _ ?_
    clear hK K
    exact ⟨rfl, (by repeat (first | exact Ext.refl _ | assumption | refine Ext.alloc ?_ _ | refine Ext.drew ?_ | refine Ext.drewN ?_ _ | refine Ext.setCell ?_ (by simp; try omega) _ | refine Ext.setRow ?_ (by simp; try omega) _))⟩
  · by_cases h2 : b < 0
    ·
      go_enter Try.func54, Try.ntmps54
      go_wp2
      refine fin_ret rfl (fun K hK => ?_)
      simp [results, Try.results54, go_sem, rsat]
      try go_simp
      refine hK _ ?_
      clear hK K
      exact ⟨rfl, (by repeat (first | exact Ext.refl _ | assumption | refine Ext.alloc ?_ _ | refine Ext.drew ?_ | refine Ext.drewN ?_ _ | refine Ext.setCell ?_ (by simp; try omega) _ | refine Ext.setRow ?_ (by simp; try omega) _))⟩
    · have h3 : d < 1 := by omega
      clear h
      go_enter Try.func54, Try.ntmps54
      go_wp2
      refine fin_ret rfl (fun K hK => ?_)
      simp [results, Try.results54, go_sem, rsat]
      try go_simp
      refine hK _ ?_
      clear hK K
      exact ⟨rfl, (by repeat (first | exact Ext.refl _ | assumption | refine Ext.alloc ?_ _ | refine Ext.drew ?_ | refine Ext.drewN ?_ _ | refine Ext.setCell ?_ (by simp; try omega) _ | refine Ext.setRow ?_ (by simp; try omega) _))⟩
set_option maxRecDepth 100000 in
set_option maxHeartbeats 800000 in
theorem md_plain (a b d : Int) (up : Bool) (ha : I64 a) (hb : I64 b) (hd : I64 d) (h1 : 0 ≤ a) (h2 : 0 ≤ b) (h3 : 1 ≤ d) (h : ¬ (up = true ∧ 0 < a.toNat * b.toNat % d.toNat)) (w : World) :
    Calls Try.prog 54 #[.int .i64 a, .int .i64 b, .int .i64 d, .bool up] w fun e w' => e = .returned (mdI a b d up) ∧ Ext w w' := by
  unfold mdI mdQ
  rw [if_neg (by omega), if_neg h, Nat.add_zero]
  unfold I64 at ha hb hd
  have ua : U64 a := ⟨h1, by omega⟩
  have ub : U64 b := ⟨h2, by omega⟩
  have ud : U64 d := ⟨by omega, by omega⟩
  obtain ⟨n, hn⟩ : ∃ n, n = a.toNat * b.toNat := ⟨_, rfl⟩
  have hnl : n < 340282366920938463463374607431768211456 := hn ▸ mul_lt ua.lt ub.lt
  have C1 := mul_c a b ua ub
  have C2 := div_wide n d hnl ud (by omega)
  rw [← hn] at C1 h ⊢
  obtain ⟨q, hq⟩ : ∃ q, q = n / d.toNat := ⟨_, rfl⟩
  obtain ⟨r, hr⟩ : ∃ r, r = n % d.toNat := ⟨_, rfl⟩
  have hql : q < 340282366920938463463374607431768211456 := by rw [hq]; exact Nat.lt_of_le_of_lt (Nat.div_le_self _ _) hnl
  rw [← hq, ← hr] at C2
  rw [← hq]
  rw [← hr] at h
  obtain ⟨qh, ql, hw, hW⟩ := wide_open q
  rw [hw] at C2
  have HC1 := Lib.hid C1
  have HC2 := Lib.hid C2
  obtain ⟨uh1, uh2⟩ : U64 qh := hW.out.1 ▸ U64.div hql
  obtain ⟨ul1, ul2⟩ : U64 ql := hW.out.2 ▸ U64.mod q
  clear C1 C2 hw hn hq hr
  have hup : up = false ∨ r = 0 := by
    rcases up with _ | _
    · exact .inl rfl
    · right; simp at h; omega
  clear h
  have hfin : (qh = 0 ∧ ql ≤ 9223372036854775807) ↔ I64 (q : Int) := by
    have h1 := hW.out.1
    have h2 := hW.out.2
    unfold I64
    omega
  by_cases ok : qh = 0 ∧ ql ≤ 9223372036854775807
  · rw [chk64_yes (hfin.1 ok)]
    obtain ⟨rfl, hl⟩ := ok
    have el : (q : Int) = ql := by have h1 := hW.out.1; have h2 := hW.out.2; omega
    rw [el]
    clear hfin el
    rcases hup with rfl | rfl
    ·
      go_enter Try.func54, Try.ntmps54
      go_wp2_with fail
      refine (HC1.out _).mono ?_
      rintro e w1 ⟨rfl, hxw1⟩
      have xw1 : Ext w w1 := Ext.trans (by repeat (first | exact Ext.refl _ | assumption | refine Ext.alloc ?_ _ | refine Ext.drew ?_ | refine Ext.drewN ?_ _ | refine Ext.setCell ?_ (by simp; try omega) _ | refine Ext.setRow ?_ (by simp; try omega) _)) hxw1
      have lw1 := xw1.size
      go_wp2_with fail
      refine (HC2.out _).mono ?_
      rintro e w2 ⟨rfl, hxw2⟩
      have xw2 : Ext w w2 := Ext.trans (by repeat (first | exact Ext.refl _ | assumption | refine Ext.alloc ?_ _ | refine Ext.drew ?_ | refine Ext.drewN ?_ _ | refine Ext.setCell ?_ (by simp; try omega) _ | refine Ext.setRow ?_ (by simp; try omega) _)) hxw2
      have lw2 := xw2.size
      go_wp2
      refine fin_ret rfl (fun K hK => ?_)
      simp [results, Try.results54, go_sem, rsat]
      try go_simp
      refine hK _ ?_
      clear hK K
      exact ⟨rfl, (by repeat (first | exact Ext.refl _ | assumption | refine Ext.alloc ?_ _ | refine Ext.drew ?_ | refine Ext.drewN ?_ _ | refine Ext.setCell ?_ (by simp; try omega) _ | refine Ext.setRow ?_ (by simp; try omega) _))⟩
    · rcases up with _ | _
      all_goals
        go_enter Try.func54, Try.ntmps54
        go_wp2_with fail
        refine (HC1.out _).mono ?_
        rintro e w1 ⟨rfl, hxw1⟩
        have xw1 : Ext w w1 := Ext.trans (by repeat (first | exact Ext.refl _ | assumption | refine Ext.alloc ?_ _ | refine Ext.drew ?_ | refine Ext.drewN ?_ _ | refine Ext.setCell ?_ (by simp; try omega) _ | refine Ext.setRow ?_ (by simp; try omega) _)) hxw1
        have lw1 := xw1.size
        go_wp2_with fail
        refine (HC2.out _).mono ?_
        rintro e w2 ⟨rfl, hxw2⟩
        have xw2 : Ext w w2 := Ext.trans (by repeat (first | exact Ext.refl _ | assumption | refine Ext.alloc ?_ _ | refine Ext.drew ?_ | refine Ext.drewN ?_ _ | refine Ext.setCell ?_ (by simp; try omega) _ | refine Ext.setRow ?_ (by simp; try omega) _)) hxw2
        have lw2 := xw2.size
        go_wp2
        refine fin_ret rfl (fun K hK => ?_)
        simp [results, Try.results54, go_sem, rsat]
        try go_simp
        refine hK _ ?_
        clear hK K
        exact ⟨rfl, (by repeat (first | exact Ext.refl _ | assumption | refine Ext.alloc ?_ _ | refine Ext.drew ?_ | refine Ext.drewN ?_ _ | refine Ext.setCell ?_ (by simp; try omega) _ | refine Ext.setRow ?_ (by simp; try omega) _))⟩
  · rw [chk64_no (fun hc => ok (hfin.2 hc))]
    clear hfin
    by_cases h0 : qh = 0
    · subst h0
      have hl : 9223372036854775807 < ql := by omega
      clear ok
      rcases hup with rfl | rfl
      ·
        go_enter Try.func54, Try.ntmps54
        go_wp2_with fail
        refine (HC1.out _).mono ?_
        rintro e w1 ⟨rfl, hxw1⟩
        have xw1 : Ext w w1 := Ext.trans (by repeat (first | exact Ext.refl _ | assumption | refine Ext.alloc ?_ _ | refine Ext.drew ?_ | refine Ext.drewN ?_ _ | refine Ext.setCell ?_ (by simp; try omega) _ | refine Ext.setRow ?_ (by simp; try omega) _)) hxw1
        have lw1 := xw1.size
        go_wp2_with fail
        refine (HC2.out _).mono ?_
        rintro e w2 ⟨rfl, hxw2⟩
        have xw2 : Ext w w2 := Ext.trans (by repeat (first | exact Ext.refl _ | assumption | refine Ext.alloc ?_ _ | refine Ext.drew ?_ | refine Ext.drewN ?_ _ | refine Ext.setCell ?_ (by simp; try omega) _ | refine Ext.setRow ?_ (by simp; try omega) _)) hxw2
        have lw2 := xw2.size
        go_wp2
        refine fin_ret rfl (fun K hK => ?_)
        simp [results, Try.results54, go_sem, rsat]
        try go_simp
        refine hK _ ?_
        clear hK K
        exact ⟨rfl, (by repeat (first | exact Ext.refl _ | assumption | refine Ext.alloc ?_ _ | refine Ext.drew ?_ | refine Ext.drewN ?_ _ | refine Ext.setCell ?_ (by simp; try omega) _ | refine Ext.setRow ?_ (by simp; try omega) _))⟩
      · rcases up with _ | _
        all_goals
          go_enter Try.func54, Try.ntmps54
          go_wp2_with fail
          refine (HC1.out _).mono ?_
          rintro e w1 ⟨rfl, hxw1⟩
          have xw1 : Ext w w1 := Ext.trans (by repeat (first | exact Ext.refl _ | assumption | refine Ext.alloc ?_ _ | refine Ext.drew ?_ | refine Ext.drewN ?_ _ | refine Ext.setCell ?_ (by simp; try omega) _ | refine Ext.setRow ?_ (by simp; try omega) _)) hxw1
          have lw1 := xw1.size
          go_wp2_with fail
          refine (HC2.out _).mono ?_
          rintro e w2 ⟨rfl, hxw2⟩
          have xw2 : Ext w w2 := Ext.trans (by repeat (first | exact Ext.refl _ | assumption | refine Ext.alloc ?_ _ | refine Ext.drew ?_ | refine Ext.drewN ?_ _ | refine Ext.setCell ?_ (by simp; try omega) _ | refine Ext.setRow ?_ (by simp; try omega) _)) hxw2
          have lw2 := xw2.size
          go_wp2
          refine fin_ret rfl (fun K hK => ?_)
          simp [results, Try.results54, go_sem, rsat]
          try go_simp
          refine hK _ ?_
          clear hK K
          exact ⟨rfl, (by repeat (first | exact Ext.refl _ | assumption | refine Ext.alloc ?_ _ | refine Ext.drew ?_ | refine Ext.drewN ?_ _ | refine Ext.setCell ?_ (by simp; try omega) _ | refine Ext.setRow ?_ (by simp; try omega) _))⟩
    · have e0 : (qh == 0) = false := beq_eq_false_iff_ne.2 h0
      have e1 : (qh != 0) = true := bne_iff_ne.2 h0
      clear ok
      rcases hup with rfl | rfl
      ·
        go_enter Try.func54, Try.ntmps54
        go_wp2_with fail
        refine (HC1.out _).mono ?_
        rintro e w1 ⟨rfl, hxw1⟩
        have xw1 : Ext w w1 := Ext.trans (by repeat (first | exact Ext.refl _ | assumption | refine Ext.alloc ?_ _ | refine Ext.drew ?_ | refine Ext.drewN ?_ _ | refine Ext.setCell ?_ (by simp; try omega) _ | refine Ext.setRow ?_ (by simp; try omega) _)) hxw1
        have lw1 := xw1.size
        go_wp2_with fail
        refine (HC2.out _).mono ?_
        rintro e w2 ⟨rfl, hxw2⟩
        have xw2 : Ext w w2 := Ext.trans (by repeat (first | exact Ext.refl _ | assumption | refine Ext.alloc ?_ _ | refine Ext.drew ?_ | refine Ext.drewN ?_ _ | refine Ext.setCell ?_ (by simp; try omega) _ | refine Ext.setRow ?_ (by simp; try omega) _)) hxw2
        have lw2 := xw2.size
        go_wp2
        refine fin_ret rfl (fun K hK => ?_)
        simp [results, Try.results54, go_sem, rsat]
        try go_simp
        refine hK _ ?_
        clear hK K
        exact ⟨rfl, (by repeat (first | exact Ext.refl _ | assumption | refine Ext.alloc ?_ _ | refine Ext.drew ?_ | refine Ext.drewN ?_ _ | refine Ext.setCell ?_ (by simp; try omega) _ | refine Ext.setRow ?_ (by simp; try omega) _))⟩
      · rcases up with _ | _
        all_goals
          go_enter Try.func54, Try.ntmps54
          go_wp2_with fail
          refine (HC1.out _).mono ?_
          rintro e w1 ⟨rfl, hxw1⟩
          have xw1 : Ext w w1 := Ext.trans (by repeat (first | exact Ext.refl _ | assumption | refine Ext.alloc ?_ _ | refine Ext.drew ?_ | refine Ext.drewN ?_ _ | refine Ext.setCell ?_ (by simp; try omega) _ | refine Ext.setRow ?_ (by simp; try omega) _)) hxw1
          have lw1 := xw1.size
          go_wp2_with fail
          refine (HC2.out _).mono ?_
          rintro e w2 ⟨rfl, hxw2⟩
          have xw2 : Ext w w2 := Ext.trans (by repeat (first | exact Ext.refl _ | assumption | refine Ext.alloc ?_ _ | refine Ext.drew ?_ | refine Ext.drewN ?_ _ | refine Ext.setCell ?_ (by simp; try omega) _ | refine Ext.setRow ?_ (by simp; try omega) _)) hxw2
          have lw2 := xw2.size
          go_wp2
          refine fin_ret rfl (fun K hK => ?_)
          simp [results, Try.results54, go_sem, rsat]
          try go_simp
          refine hK _ ?_
          clear hK K
          exact ⟨rfl, (by repeat (first | exact Ext.refl _ | assumption | refine Ext.alloc ?_ _ | refine Ext.drew ?_ | refine Ext.drewN ?_ _ | refine Ext.setCell ?_ (by simp; try omega) _ | refine Ext.setRow ?_ (by simp; try omega) _))⟩
set_option maxRecDepth 100000 in
set_option maxHeartbeats 800000 in
theorem md_up (a b d : Int) (ha : I64 a) (hb : I64 b) (hd : I64 d) (h1 : 0 ≤ a) (h2 : 0 ≤ b) (h3 : 1 ≤ d) (h : 0 < a.toNat * b.toNat % d.toNat) (w : World) :
    Calls Try.prog 54 #[.int .i64 a, .int .i64 b, .int .i64 d, .bool true] w fun e w' => e = .returned (mdI a b d true) ∧ Ext w w' := by
  unfold mdI mdQ
  rw [if_neg (by omega), if_pos ⟨rfl, h⟩]
  unfold I64 at ha hb hd
  have ua : U64 a := ⟨h1, by omega⟩
  have ub : U64 b := ⟨h2, by omega⟩
  have ud : U64 d := ⟨by omega, by omega⟩
  obtain ⟨n, hn⟩ : ∃ n, n = a.toNat * b.toNat := ⟨_, rfl⟩
  have hnl2 : n ≤ 85070591730234615847396907784232501249 := by
    rw [hn]
    have e1 : a.toNat * b.toNat ≤ 9223372036854775807 * b.toNat := Nat.mul_le_mul_right _ (by omega)
    have e2 : b.toNat ≤ 9223372036854775807 := by omega
    omega
  have hnl : n < 340282366920938463463374607431768211456 := by omega
  have C1 := mul_c a b ua ub
  have C2 := div_wide n d hnl ud (by omega)
  rw [← hn] at C1 h ⊢
  obtain ⟨q, hq⟩ : ∃ q, q = n / d.toNat := ⟨_, rfl⟩
  obtain ⟨r, hr⟩ : ∃ r, r = n % d.toNat := ⟨_, rfl⟩
  have hql : q ≤ n := by rw [hq]; exact Nat.div_le_self _ _
  rw [← hq, ← hr] at C2
  rw [← hq]
  rw [← hr] at h
  obtain ⟨qh, ql, hw, hW⟩ := wide_open q
  have C3 := add_wide q 1 (q + 1) (by omega) (by decide) rfl (by omega)
  rw [hw] at C2 C3
  obtain ⟨ph, pl, hp, hP⟩ := wide_open (q + 1)
  rw [hp, wide_lo 1 (by decide)] at C3
  have HC1 := Lib.hid C1
  have HC2 := Lib.hid C2
  have HC3 := Lib.hid C3
  obtain ⟨uh1, uh2⟩ : U64 ph := hP.out.1 ▸ U64.div (by omega)
  obtain ⟨ul1, ul2⟩ : U64 pl := hP.out.2 ▸ U64.mod (q + 1)
  clear C1 C2 C3 hw hp hn hq hr
  have hfin : (ph = 0 ∧ pl ≤ 9223372036854775807) ↔ I64 ((q + 1 : Nat) : Int) := by
    have h1 := hP.out.1
    have h2 := hP.out.2
    unfold I64
    omega
  by_cases ok : ph = 0 ∧ pl ≤ 9223372036854775807
  · rw [chk64_yes (hfin.1 ok)]
    obtain ⟨rfl, hl⟩ := ok
    have el : ((q + 1 : Nat) : Int) = pl := by have h1 := hP.out.1; have h2 := hP.out.2; omega
    rw [el]
    clear hfin el
    go_enter Try.func54, Try.ntmps54
    go_wp2_with fail
    refine (HC1.out _).mono ?_
    rintro e w1 ⟨rfl, hxw1⟩
    have xw1 : Ext w w1 := Ext.trans (by repeat (first | exact Ext.refl _ | assumption | refine Ext.alloc ?_ _ | refine Ext.drew ?_ | refine Ext.drewN ?_ _ | refine Ext.setCell ?_ (by simp; try omega) _ | refine Ext.setRow ?_ (by simp; try omega) _)) hxw1
    have lw1 := xw1.size
    go_wp2_with fail
    refine (HC2.out _).mono ?_
    rintro e w2 ⟨rfl, hxw2⟩
    have xw2 : Ext w w2 := Ext.trans (by repeat (first | exact Ext.refl _ | assumption | refine Ext.alloc ?_ _ | refine Ext.drew ?_ | refine Ext.drewN ?_ _ | refine Ext.setCell ?_ (by simp; try omega) _ | refine Ext.setRow ?_ (by simp; try omega) _)) hxw2
    have lw2 := xw2.size
    go_wp2_with fail
    refine (HC3.out _).mono ?_
    rintro e w3 ⟨rfl, hxw3⟩
    have xw3 : Ext w w3 := Ext.trans (by repeat (first | exact Ext.refl _ | assumption | refine Ext.alloc ?_ _ | refine Ext.drew ?_ | refine Ext.drewN ?_ _ | refine Ext.setCell ?_ (by simp; try omega) _ | refine Ext.setRow ?_ (by simp; try omega) _)) hxw3
    have lw3 := xw3.size
    have Q_w3 := At.ext (g := w2.heap.size) (t := 73) (cs := #[.int .u64 qh, .int .u64 ql]) (by repeat (first | (with_reducible exact At.new _ _ _) | ((with_reducible refine At.new' _ _ _ _ ?_); simp; done) | (with_reducible assumption) | (with_reducible refine At.drew ?_) | (with_reducible refine At.alloc ?_ _) | (with_reducible apply At.upd) | (with_reducible apply At.setRow) | (with_reducible refine At.rowFar ?_ (by first | (simp; done) | (simp; omega) | omega) _) | ((with_reducible refine At.far ?_ (by first | (simp; done) | (simp; omega) | omega) _)) | (with_reducible rfl) | (simp; done))) hxw3
    clear hxw3
    have s_Q_w3 := Q_w3.lt
    have c_Q_w3_0 := Q_w3.cell 0
    have f_Q_w3_0 := Q_w3.frozen 0
    have c_Q_w3_1 := Q_w3.cell 1
    have f_Q_w3_1 := Q_w3.frozen 1
    simp only [List.getElem?_toArray, List.getElem?_cons_zero, List.getElem?_cons_succ] at c_Q_w3_0 c_Q_w3_1
    have lw := xw2.size
    go_wp2
    refine fin_ret rfl (fun K hK => ?_)
    simp [results, Try.results54, go_sem, rsat]
    try go_simp
    refine hK _ ?_
    clear hK K
    exact ⟨rfl, (by repeat (first | exact Ext.refl _ | assumption | refine Ext.alloc ?_ _ | refine Ext.drew ?_ | refine Ext.drewN ?_ _ | refine Ext.setCell ?_ (by simp; try omega) _ | refine Ext.setRow ?_ (by simp; try omega) _))⟩
  · rw [chk64_no (fun hc => ok (hfin.2 hc))]
    clear hfin
    by_cases h0 : ph = 0
    · subst h0
      have hl : 9223372036854775807 < pl := by omega
      clear ok
      go_enter Try.func54, Try.ntmps54
      go_wp2_with fail
      refine (HC1.out _).mono ?_
      rintro e w1 ⟨rfl, hxw1⟩
      have xw1 : Ext w w1 := Ext.trans (by repeat (first | exact Ext.refl _ | assumption | refine Ext.alloc ?_ _ | refine Ext.drew ?_ | refine Ext.drewN ?_ _ | refine Ext.setCell ?_ (by simp; try omega) _ | refine Ext.setRow ?_ (by simp; try omega) _)) hxw1
      have lw1 := xw1.size
      go_wp2_with fail
      refine (HC2.out _).mono ?_
      rintro e w2 ⟨rfl, hxw2⟩
      have xw2 : Ext w w2 := Ext.trans (by repeat (first | exact Ext.refl _ | assumption | refine Ext.alloc ?_ _ | refine Ext.drew ?_ | refine Ext.drewN ?_ _ | refine Ext.setCell ?_ (by simp; try omega) _ | refine Ext.setRow ?_ (by simp; try omega) _)) hxw2
      have lw2 := xw2.size
      go_wp2_with fail
      refine (HC3.out _).mono ?_
      rintro e w3 ⟨rfl, hxw3⟩
      have xw3 : Ext w w3 := Ext.trans (by repeat (first | exact Ext.refl _ | assumption | refine Ext.alloc ?_ _ | refine Ext.drew ?_ | refine Ext.drewN ?_ _ | refine Ext.setCell ?_ (by simp; try omega) _ | refine Ext.setRow ?_ (by simp; try omega) _)) hxw3
      have lw3 := xw3.size
      have Q_w3 := At.ext (g := w2.heap.size) (t := 73) (cs := #[.int .u64 qh, .int .u64 ql]) (by repeat (first | (with_reducible exact At.new _ _ _) | ((with_reducible refine At.new' _ _ _ _ ?_); simp; done) | (with_reducible assumption) | (with_reducible refine At.drew ?_) | (with_reducible refine At.alloc ?_ _) | (with_reducible apply At.upd) | (with_reducible apply At.setRow) | (with_reducible refine At.rowFar ?_ (by first | (simp; done) | (simp; omega) | omega) _) | ((with_reducible refine At.far ?_ (by first | (simp; done) | (simp; omega) | omega) _)) | (with_reducible rfl) | (simp; done))) hxw3
      clear hxw3
      have s_Q_w3 := Q_w3.lt
      have c_Q_w3_0 := Q_w3.cell 0
      have f_Q_w3_0 := Q_w3.frozen 0
      have c_Q_w3_1 := Q_w3.cell 1
      have f_Q_w3_1 := Q_w3.frozen 1
      simp only [List.getElem?_toArray, List.getElem?_cons_zero, List.getElem?_cons_succ] at c_Q_w3_0 c_Q_w3_1
      have lw := xw2.size
      go_wp2
      refine fin_ret rfl (fun K hK => ?_)
      simp [results, Try.results54, go_sem, rsat]
      try go_simp
      refine hK _ ?_
      clear hK K
      exact ⟨rfl, (by repeat (first | exact Ext.refl _ | assumption | refine Ext.alloc ?_ _ | refine Ext.drew ?_ | refine Ext.drewN ?_ _ | refine Ext.setCell ?_ (by simp; try omega) _ | refine Ext.setRow ?_ (by simp; try omega) _))⟩
    · have e0 : (ph == 0) = false := beq_eq_false_iff_ne.2 h0
      have e1 : (ph != 0) = true := bne_iff_ne.2 h0
      clear ok
      go_enter Try.func54, Try.ntmps54
      go_wp2_with fail
      refine (HC1.out _).mono ?_
      rintro e w1 ⟨rfl, hxw1⟩
      have xw1 : Ext w w1 := Ext.trans (by repeat (first | exact Ext.refl _ | assumption | refine Ext.alloc ?_ _ | refine Ext.drew ?_ | refine Ext.drewN ?_ _ | refine Ext.setCell ?_ (by simp; try omega) _ | refine Ext.setRow ?_ (by simp; try omega) _)) hxw1
      have lw1 := xw1.size
      go_wp2_with fail
      refine (HC2.out _).mono ?_
      rintro e w2 ⟨rfl, hxw2⟩
      have xw2 : Ext w w2 := Ext.trans (by repeat (first | exact Ext.refl _ | assumption | refine Ext.alloc ?_ _ | refine Ext.drew ?_ | refine Ext.drewN ?_ _ | refine Ext.setCell ?_ (by simp; try omega) _ | refine Ext.setRow ?_ (by simp; try omega) _)) hxw2
      have lw2 := xw2.size
      go_wp2_with fail
      refine (HC3.out _).mono ?_
      rintro e w3 ⟨rfl, hxw3⟩
      have xw3 : Ext w w3 := Ext.trans (by repeat (first | exact Ext.refl _ | assumption | refine Ext.alloc ?_ _ | refine Ext.drew ?_ | refine Ext.drewN ?_ _ | refine Ext.setCell ?_ (by simp; try omega) _ | refine Ext.setRow ?_ (by simp; try omega) _)) hxw3
      have lw3 := xw3.size
      have Q_w3 := At.ext (g := w2.heap.size) (t := 73) (cs := #[.int .u64 qh, .int .u64 ql]) (by repeat (first | (with_reducible exact At.new _ _ _) | ((with_reducible refine At.new' _ _ _ _ ?_); simp; done) | (with_reducible assumption) | (with_reducible refine At.drew ?_) | (with_reducible refine At.alloc ?_ _) | (with_reducible apply At.upd) | (with_reducible apply At.setRow) | (with_reducible refine At.rowFar ?_ (by first | (simp; done) | (simp; omega) | omega) _) | ((with_reducible refine At.far ?_ (by first | (simp; done) | (simp; omega) | omega) _)) | (with_reducible rfl) | (simp; done))) hxw3
      clear hxw3
      have s_Q_w3 := Q_w3.lt
      have c_Q_w3_0 := Q_w3.cell 0
      have f_Q_w3_0 := Q_w3.frozen 0
      have c_Q_w3_1 := Q_w3.cell 1
      have f_Q_w3_1 := Q_w3.frozen 1
      simp only [List.getElem?_toArray, List.getElem?_cons_zero, List.getElem?_cons_succ] at c_Q_w3_0 c_Q_w3_1
      have lw := xw2.size
      go_wp2
      refine fin_ret rfl (fun K hK => ?_)
      simp [results, Try.results54, go_sem, rsat]
      try go_simp
      refine hK _ ?_
      clear hK K
      exact ⟨rfl, (by repeat (first | exact Ext.refl _ | assumption | refine Ext.alloc ?_ _ | refine Ext.drew ?_ | refine Ext.drewN ?_ _ | refine Ext.setCell ?_ (by simp; try omega) _ | refine Ext.setRow ?_ (by simp; try omega) _))⟩
theorem md_c (a b d : Int) (up : Bool) (ha : I64 a) (hb : I64 b) (hd : I64 d) (w : World) : Calls Try.prog 54 #[.int .i64 a, .int .i64 b, .int .i64 d, .bool up] w fun e w' => e = .returned (mdI a b d up) ∧ Ext w w' := by
  by_cases h : a < 0 ∨ b < 0 ∨ d < 1
  · exact md_none a b d up ha hb hd h w
  · by_cases h2 : up = true ∧ 0 < a.toNat * b.toNat % d.toNat
    · obtain ⟨rfl, h3⟩ := h2
      exact md_up a b d ha hb hd (by omega) (by omega) (by omega) h3 w
    · exact md_plain a b d up ha hb hd (by omega) (by omega) (by omega) h2 w
end Go.Proofs.Ytimgdhpddklplaa
