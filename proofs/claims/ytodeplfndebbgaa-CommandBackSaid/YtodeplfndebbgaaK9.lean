/- Law CommandBack: what Decode answers of any bytes, and that it is the way back (plain). No condition. -/
import Derived.Test.YtodeplfndebbgaaK8
import Derived.Test.YtodeplfndebbgaaBk
namespace Go.Proofs.Ytodeplfndebbgaa
open Go.RowKit
/-- What Decode answers. -/
structure DecIs (bs : List Int) (m : Cm) (f : Int) : Prop where
  /-- its own form, of any command that is right, and one byte more, and fewer -/
  put : ∀ c : Cm, c.Ok → c.Fine → bs = formC c → m = c ∧ f = 0
  more : ∀ c : Cm, c.Ok → c.Fine → bs = formC c ++ [0] → f = 4
  less : ∀ (c : Cm) (k : Nat), c.Ok → c.Fine → k < (formC c).length → bs = (formC c).take k → f = 3
  bad : f ≠ 0 → m = zeroC
  ok : f = 0 → m.Ok ∧ m.Fine ∧ formC m = bs
theorem formC_2 {c : Cm} (h : c.kind = 2) : formC c = 2 :: c.sym :: (numB c.id.toNat ++ []) := by unfold formC; rw [if_neg (by omega), if_pos h, h]; simp
theorem formC_3 {c : Cm} (h : c.kind = 3) : formC c = 3 :: c.sym :: (numB c.id.toNat ++ (intB c.price ++ (intB c.qty ++ []))) := by unfold formC; rw [if_neg (by omega), if_neg (by omega), h]; simp
theorem formC_1 {c : Cm} (h : c.kind = 1) : formC c = 1 :: c.sym :: (numB c.id.toNat ++ (numB c.own.toNat ++ (c.side :: c.typ :: c.flags :: (intB c.price ++ (intB c.qty ++ []))))) := by unfold formC; rw [if_pos h, h]; simp
theorem take_cons_pos {b x : Int} {l s : List Int} {k : Nat} (h : b :: s = (x :: l).take k) : b = x ∧ ∃ j, k = j + 1 ∧ s = l.take j := by
  cases k with
  | zero => simp at h
  | succ j =>
    simp only [List.take_succ_cons, List.cons.injEq] at h
    exact ⟨h.1, j, rfl, h.2⟩
theorem fine_kind {c : Cm} (h : c.Fine) : c.kind = 1 ∨ c.kind = 2 ∨ c.kind = 3 := by
  rcases h.k with h | h | h
  · exact .inl h.1
  · exact .inr (.inl h.1)
  · exact .inr (.inr h.1)
theorem formC_head {c : Cm} (h : c.Fine) : ∃ r, formC c = c.kind :: r := by
  rcases fine_kind h with k | k | k
  · exact ⟨_, by rw [formC_1 k, k]⟩
  · exact ⟨_, by rw [formC_2 k, k]⟩
  · exact ⟨_, by rw [formC_3 k, k]⟩
theorem finC_ok {c m : Cm} {rs : List Int} {f : Int} (h : (m, (0 : Int)) = finC c rs f) : f = 0 ∧ rs = [] ∧ rightC c = true ∧ m = c := by
  unfold finC at h
  by_cases h1 : f ≠ 0
  · rw [if_pos h1] at h
    injection h with _ h
    exact absurd h.symm h1
  rw [if_neg h1] at h
  by_cases h2 : 0 < rs.length ∨ rightC c = false
  · rw [if_pos h2] at h
    injection h with _ h; cases h
  rw [if_neg h2] at h
  injection h with h _
  refine ⟨by omega, List.eq_nil_of_length_eq_zero (by omega), ?_, h⟩
  cases hr : rightC c with
  | true => rfl
  | false => exact absurd (.inr hr) h2
theorem finC_bad {c m : Cm} {rs : List Int} {f g : Int} (h : (m, g) = finC c rs f) (hg : g ≠ 0) : m = zeroC := by
  unfold finC at h
  by_cases h1 : f ≠ 0
  · rw [if_pos h1] at h
    injection h
  rw [if_neg h1] at h
  by_cases h2 : 0 < rs.length ∨ rightC c = false
  · rw [if_pos h2] at h
    injection h
  rw [if_neg h2] at h
  injection h with _ h
  exact absurd h hg
theorem byt_tail {b : Int} {s : List Int} (h : Byt (b :: s)) : Byt s := fun x hx => h x (by simp [hx])
theorem inI {x : Int} (h : 0 ≤ x ∧ x ≤ 9223372036854775807) : I64 x := ⟨by omega, by omega⟩
theorem zero_one {s s' : List Int} {f : Int} {v z : Nat} (e : uintR s f z = (v, s', 0)) : f = 0 := by
  by_cases h : f = 0
  · exact h
  · exact absurd (uintR_stays e h).symm h
theorem zero_num {s s' : List Int} {f : Int} {v : Nat} (e : numR s f = (v, s', 0)) : f = 0 := by
  by_cases h : f = 0
  · exact h
  · exact absurd (numR_stays e h).symm h
theorem zero_int {s s' : List Int} {f v : Int} (e : (backN (uintR s f 8).1, (uintR s f 8).2) = (v, s', 0)) : f = 0 := by
  by_cases h : f = 0
  · exact h
  · exact absurd (intR_stays e h).symm h
theorem own2 {c : Cm} (h : c.Fine) (hk : c.kind = 2) : c.own = 0 ∧ c.side = 0 ∧ c.typ = 0 ∧ c.flags = 0 ∧ c.price = 0 ∧ c.qty = 0 := by
  rcases h.k with ⟨q, _⟩ | ⟨_, ⟨o1, o2, o3, o4⟩, o5, o6⟩ | ⟨q, _⟩
  · omega
  · exact ⟨o1, o2, o3, o4, o5, o6⟩
  · omega
theorem own3 {c : Cm} (h : c.Fine) (hk : c.kind = 3) : c.own = 0 ∧ c.side = 0 ∧ c.typ = 0 ∧ c.flags = 0 := by
  rcases h.k with ⟨q, _⟩ | ⟨q, _⟩ | ⟨_, q⟩
  · omega
  · omega
  · exact q
theorem own1 {c : Cm} (h : c.Fine) (hk : c.kind = 1) : (0 ≤ c.own ∧ c.own ≤ 1073741824) ∧ (0 ≤ c.side ∧ c.side ≤ 1) ∧ (1 ≤ c.typ ∧ c.typ ≤ 5) ∧ (0 ≤ c.flags ∧ c.flags ≤ 7) := by
  rcases h.k with ⟨_, q⟩ | ⟨q, _⟩ | ⟨q, _⟩
  · exact q
  · omega
  · omega
theorem kind_app {c : Cm} {b : Int} {s t : List Int} (hF : c.Fine) (hc : b :: s = formC c ++ t) : c.kind = b := by
  obtain ⟨r, hr⟩ := formC_head hF
  rw [hr] at hc
  injection hc with hc _
  exact hc.symm
theorem kind_take {c : Cm} {b : Int} {s : List Int} {k : Nat} (hF : c.Fine) (hc : b :: s = (formC c).take k) : c.kind = b := by
  obtain ⟨r, hr⟩ := formC_head hF
  rw [hr] at hc
  exact (take_cons_pos hc).1.symm
set_option maxHeartbeats 1000000 in
theorem is2 {s1 s2 s3 : List Int} {f2 f3 : Int} {v2 v3 : Nat} (hb : Byt (2 :: s1)) (e2 : uintR s1 0 1 = (v2, s2, f2)) (e3 : numR s2 f2 = (v3, s3, f3)) {m : Cm} {f : Int} (h : (m, f) = finC ⟨2, (v2 : Int), (min v3 4611686018427387905 : Nat), 0, 0, 0, 0, 0, 0⟩ s3 f3) : DecIs (2 :: s1) m f := by
  have hput : ∀ (c : Cm) (t : List Int), c.Ok → c.Fine → 2 :: s1 = formC c ++ t → f3 = 0 ∧ s3 = t ∧ (⟨2, (v2 : Int), (min v3 4611686018427387905 : Nat), 0, 0, 0, 0, 0, 0⟩ : Cm) = c := by
    intro c t hO hF hc
    have hk := kind_app hF hc
    rw [formC_2 hk] at hc
    simp only [List.cons_append, List.append_assoc, List.nil_append, List.cons.injEq, true_and] at hc
    have hs := hF.sym
    have hi := hF.id
    have ho := own2 hF hk
    rw [hc] at e2
    rw [one_put] at e2
    injection e2 with a2 e2; injection e2 with b2 c2
    subst b2 c2
    rw [numR_put (by omega)] at e3
    injection e3 with a3 e3; injection e3 with b3 c3
    refine ⟨c3.symm, b3.symm, ?_⟩
    obtain ⟨ck, cs, ci, co, cd, ct, cp, cq, cf⟩ := c
    simp only at hk hs hi ho a2 a3
    simp only [Cm.mk.injEq]
    omega
  refine ⟨fun c hO hF hc => ?_, fun c hO hF hc => ?_, fun c k hO hF hk hc => ?_, fun hf => finC_bad h hf, fun hf => ?_⟩
  · obtain ⟨g1, g2, g3⟩ := hput c [] hO hF (by rw [List.append_nil]; exact hc)
    rw [g3, finOk g1 (by rw [g2]; simp) ((cright_iff c).2 hF)] at h
    injection h with a b
    exact ⟨a, b⟩
  · obtain ⟨g1, g2, g3⟩ := hput c [0] hO hF hc
    rw [fin4 g1 (.inl (by rw [g2]; simp))] at h
    injection h
  · have hkd := kind_take hF hc
    have hi := hF.id
    have ho := own2 hF hkd
    rw [formC_2 hkd] at hk hc
    obtain ⟨_, j, rfl, hs1⟩ := take_cons_pos hc
    have l1 := Lack.cut (k := j) (Nat.lt_of_succ_lt_succ hk)
    rw [← hs1] at l1
    have l2 := lack_one l1 e2
    have l3 := lack_num (by omega) l2 e3
    rw [lack_end l3, finBad (by decide)] at h
    injection h
  · subst hf
    obtain ⟨g1, g2, g3, rfl⟩ := finC_ok h
    subst g1 g2
    have hF := (cright_iff _).1 g3
    have hi := hF.id
    have hs := hF.sym
    have ho := own2 hF rfl
    simp only at hi hs ho
    obtain rfl := zero_num e3
    have y1 := byt_tail hb
    obtain ⟨_, q2, u2⟩ := one_inv y1 e2
    have y2 : Byt s2 := byt_tail (by rw [← q2]; exact y1)
    obtain ⟨_, q3⟩ := num_inv y2 e3
    have hm3 : min v3 4611686018427387905 = v3 := by omega
    refine ⟨⟨inI (by dsimp only; omega), inI (by dsimp only; omega), inI (by dsimp only; omega), inI (by dsimp only; omega), inI (by dsimp only; omega), inI (by dsimp only; omega), inI (by dsimp only; omega), inI (by dsimp only; omega), inI (by dsimp only; omega)⟩, hF, ?_⟩
    rw [formC_2 rfl, q2, q3]
    simp only [hm3, Int.toNat_natCast]
set_option maxHeartbeats 1000000 in
theorem is3 {s1 s2 s3 s4 s5 : List Int} {f2 f3 f4 f5 v4 v5 : Int} {v2 v3 : Nat} (hb : Byt (3 :: s1)) (e2 : uintR s1 0 1 = (v2, s2, f2)) (e3 : numR s2 f2 = (v3, s3, f3)) (e4 : (backN (uintR s3 f3 8).1, (uintR s3 f3 8).2) = (v4, s4, f4)) (e5 : (backN (uintR s4 f4 8).1, (uintR s4 f4 8).2) = (v5, s5, f5)) {m : Cm} {f : Int} (h : (m, f) = finC ⟨3, (v2 : Int), (min v3 4611686018427387905 : Nat), 0, 0, 0, v4, v5, 0⟩ s5 f5) : DecIs (3 :: s1) m f := by
  have hput : ∀ (c : Cm) (t : List Int), c.Ok → c.Fine → 3 :: s1 = formC c ++ t → f5 = 0 ∧ s5 = t ∧ (⟨3, (v2 : Int), (min v3 4611686018427387905 : Nat), 0, 0, 0, v4, v5, 0⟩ : Cm) = c := by
    intro c t hO hF hc
    have hk := kind_app hF hc
    rw [formC_3 hk] at hc
    simp only [List.cons_append, List.append_assoc, List.nil_append, List.cons.injEq, true_and] at hc
    have hs := hF.sym
    have hi := hF.id
    have ho := own3 hF hk
    rw [hc] at e2
    rw [one_put] at e2
    injection e2 with a2 e2; injection e2 with b2 c2
    subst b2 c2
    rw [numR_put (by omega)] at e3
    injection e3 with a3 e3; injection e3 with b3 c3
    subst b3 c3
    rw [intR_put hO.price] at e4
    injection e4 with a4 e4; injection e4 with b4 c4
    subst b4 c4
    rw [intR_put hO.qty] at e5
    injection e5 with a5 e5; injection e5 with b5 c5
    refine ⟨c5.symm, b5.symm, ?_⟩
    obtain ⟨ck, cs, ci, co, cd, ct, cp, cq, cf⟩ := c
    simp only at hk hs hi ho a2 a3 a4 a5
    simp only [Cm.mk.injEq]
    omega
  refine ⟨fun c hO hF hc => ?_, fun c hO hF hc => ?_, fun c k hO hF hk hc => ?_, fun hf => finC_bad h hf, fun hf => ?_⟩
  · obtain ⟨g1, g2, g3⟩ := hput c [] hO hF (by rw [List.append_nil]; exact hc)
    rw [g3, finOk g1 (by rw [g2]; simp) ((cright_iff c).2 hF)] at h
    injection h with a b
    exact ⟨a, b⟩
  · obtain ⟨g1, g2, g3⟩ := hput c [0] hO hF hc
    rw [fin4 g1 (.inl (by rw [g2]; simp))] at h
    injection h
  · have hkd := kind_take hF hc
    have hi := hF.id
    have ho := own3 hF hkd
    rw [formC_3 hkd] at hk hc
    obtain ⟨_, j, rfl, hs1⟩ := take_cons_pos hc
    have l1 := Lack.cut (k := j) (Nat.lt_of_succ_lt_succ hk)
    rw [← hs1] at l1
    have l2 := lack_one l1 e2
    have l3 := lack_num (by omega) l2 e3
    have l4 := lack_int hO.price l3 e4
    have l5 := lack_int hO.qty l4 e5
    rw [lack_end l5, finBad (by decide)] at h
    injection h
  · subst hf
    obtain ⟨g1, g2, g3, rfl⟩ := finC_ok h
    subst g1 g2
    have hF := (cright_iff _).1 g3
    have hi := hF.id
    have hs := hF.sym
    have ho := own3 hF rfl
    simp only at hi hs ho
    obtain rfl := zero_int e5
    obtain rfl := zero_int e4
    obtain rfl := zero_num e3
    have y1 := byt_tail hb
    obtain ⟨_, q2, u2⟩ := one_inv y1 e2
    have y2 : Byt s2 := byt_tail (by rw [← q2]; exact y1)
    obtain ⟨_, q3⟩ := num_inv y2 e3
    have y3 : Byt s3 := Byt.right (a := numB v3) (by rw [← q3]; exact y2)
    obtain ⟨_, q4, u4⟩ := int_inv y3 e4
    have y4 : Byt s4 := Byt.right (a := intB v4) (by rw [← q4]; exact y3)
    obtain ⟨_, q5, u5⟩ := int_inv y4 e5
    have hm3 : min v3 4611686018427387905 = v3 := by omega
    refine ⟨⟨inI (by dsimp only; omega), inI (by dsimp only; omega), inI (by dsimp only; omega), inI (by dsimp only; omega), inI (by dsimp only; omega), inI (by dsimp only; omega), u4, u5, inI (by dsimp only; omega)⟩, hF, ?_⟩
    rw [formC_3 rfl, q2, q3, q4, q5]
    simp only [hm3, Int.toNat_natCast]
set_option maxHeartbeats 1000000 in
theorem is1 {s1 s2 s3 s4 s5 s6 s7 s8 s9 : List Int} {f2 f3 f4 f5 f6 f7 f8 f9 v8 v9 : Int} {v2 v3 v4 v5 v6 v7 : Nat} (hb : Byt (1 :: s1)) (e2 : uintR s1 0 1 = (v2, s2, f2)) (e3 : numR s2 f2 = (v3, s3, f3)) (e4 : numR s3 f3 = (v4, s4, f4)) (e5 : uintR s4 f4 1 = (v5, s5, f5)) (e6 : uintR s5 f5 1 = (v6, s6, f6)) (e7 : uintR s6 f6 1 = (v7, s7, f7)) (e8 : (backN (uintR s7 f7 8).1, (uintR s7 f7 8).2) = (v8, s8, f8)) (e9 : (backN (uintR s8 f8 8).1, (uintR s8 f8 8).2) = (v9, s9, f9)) {m : Cm} {f : Int} (h : (m, f) = finC ⟨1, (v2 : Int), (min v3 4611686018427387905 : Nat), (min v4 1073741825 : Nat), (v5 : Int), (v6 : Int), v8, v9, (v7 : Int)⟩ s9 f9) : DecIs (1 :: s1) m f := by
  have hput : ∀ (c : Cm) (t : List Int), c.Ok → c.Fine → 1 :: s1 = formC c ++ t → f9 = 0 ∧ s9 = t ∧ (⟨1, (v2 : Int), (min v3 4611686018427387905 : Nat), (min v4 1073741825 : Nat), (v5 : Int), (v6 : Int), v8, v9, (v7 : Int)⟩ : Cm) = c := by
    intro c t hO hF hc
    have hk := kind_app hF hc
    rw [formC_1 hk] at hc
    simp only [List.cons_append, List.append_assoc, List.nil_append, List.cons.injEq, true_and] at hc
    have hs := hF.sym
    have hi := hF.id
    have ho := own1 hF hk
    rw [hc] at e2
    rw [one_put] at e2
    injection e2 with a2 e2; injection e2 with b2 c2
    subst b2 c2
    rw [numR_put (by omega)] at e3
    injection e3 with a3 e3; injection e3 with b3 c3
    subst b3 c3
    rw [numR_put (by omega)] at e4
    injection e4 with a4 e4; injection e4 with b4 c4
    subst b4 c4
    rw [one_put] at e5
    injection e5 with a5 e5; injection e5 with b5 c5
    subst b5 c5
    rw [one_put] at e6
    injection e6 with a6 e6; injection e6 with b6 c6
    subst b6 c6
    rw [one_put] at e7
    injection e7 with a7 e7; injection e7 with b7 c7
    subst b7 c7
    rw [intR_put hO.price] at e8
    injection e8 with a8 e8; injection e8 with b8 c8
    subst b8 c8
    rw [intR_put hO.qty] at e9
    injection e9 with a9 e9; injection e9 with b9 c9
    refine ⟨c9.symm, b9.symm, ?_⟩
    obtain ⟨ck, cs, ci, co, cd, ct, cp, cq, cf⟩ := c
    simp only at hk hs hi ho a2 a3 a4 a5 a6 a7 a8 a9
    simp only [Cm.mk.injEq]
    omega
  refine ⟨fun c hO hF hc => ?_, fun c hO hF hc => ?_, fun c k hO hF hk hc => ?_, fun hf => finC_bad h hf, fun hf => ?_⟩
  · obtain ⟨g1, g2, g3⟩ := hput c [] hO hF (by rw [List.append_nil]; exact hc)
    rw [g3, finOk g1 (by rw [g2]; simp) ((cright_iff c).2 hF)] at h
    injection h with a b
    exact ⟨a, b⟩
  · obtain ⟨g1, g2, g3⟩ := hput c [0] hO hF hc
    rw [fin4 g1 (.inl (by rw [g2]; simp))] at h
    injection h
  · have hkd := kind_take hF hc
    have hi := hF.id
    have ho := own1 hF hkd
    rw [formC_1 hkd] at hk hc
    obtain ⟨_, j, rfl, hs1⟩ := take_cons_pos hc
    have l1 := Lack.cut (k := j) (Nat.lt_of_succ_lt_succ hk)
    rw [← hs1] at l1
    have l2 := lack_one l1 e2
    have l3 := lack_num (by omega) l2 e3
    have l4 := lack_num (by omega) l3 e4
    have l5 := lack_one l4 e5
    have l6 := lack_one l5 e6
    have l7 := lack_one l6 e7
    have l8 := lack_int hO.price l7 e8
    have l9 := lack_int hO.qty l8 e9
    rw [lack_end l9, finBad (by decide)] at h
    injection h
  · subst hf
    obtain ⟨g1, g2, g3, rfl⟩ := finC_ok h
    subst g1 g2
    have hF := (cright_iff _).1 g3
    have hi := hF.id
    have hs := hF.sym
    have ho := own1 hF rfl
    simp only at hi hs ho
    obtain rfl := zero_int e9
    obtain rfl := zero_int e8
    obtain rfl := zero_one e7
    obtain rfl := zero_one e6
    obtain rfl := zero_one e5
    obtain rfl := zero_num e4
    obtain rfl := zero_num e3
    have y1 := byt_tail hb
    obtain ⟨_, q2, u2⟩ := one_inv y1 e2
    have y2 : Byt s2 := byt_tail (by rw [← q2]; exact y1)
    obtain ⟨_, q3⟩ := num_inv y2 e3
    have y3 : Byt s3 := Byt.right (a := numB v3) (by rw [← q3]; exact y2)
    obtain ⟨_, q4⟩ := num_inv y3 e4
    have y4 : Byt s4 := Byt.right (a := numB v4) (by rw [← q4]; exact y3)
    obtain ⟨_, q5, u5⟩ := one_inv y4 e5
    have y5 : Byt s5 := byt_tail (by rw [← q5]; exact y4)
    obtain ⟨_, q6, u6⟩ := one_inv y5 e6
    have y6 : Byt s6 := byt_tail (by rw [← q6]; exact y5)
    obtain ⟨_, q7, u7⟩ := one_inv y6 e7
    have y7 : Byt s7 := byt_tail (by rw [← q7]; exact y6)
    obtain ⟨_, q8, u8⟩ := int_inv y7 e8
    have y8 : Byt s8 := Byt.right (a := intB v8) (by rw [← q8]; exact y7)
    obtain ⟨_, q9, u9⟩ := int_inv y8 e9
    have hm3 : min v3 4611686018427387905 = v3 := by omega
    have hm4 : min v4 1073741825 = v4 := by omega
    refine ⟨⟨inI (by dsimp only; omega), inI (by dsimp only; omega), inI (by dsimp only; omega), inI (by dsimp only; omega), inI (by dsimp only; omega), inI (by dsimp only; omega), u8, u9, inI (by dsimp only; omega)⟩, hF, ?_⟩
    rw [formC_1 rfl, q2, q3, q4, q5, q6, q7, q8, q9]
    simp only [hm3, hm4, Int.toNat_natCast]
theorem is0 : DecIs [] zeroC 3 := by
  refine ⟨fun c _ hF hc => ?_, fun c _ hF hc => ?_, fun _ _ _ _ _ _ => rfl, fun _ => rfl, fun h => absurd h (by decide)⟩
  · obtain ⟨r, hr⟩ := formC_head hF
    rw [hr] at hc; cases hc
  · obtain ⟨r, hr⟩ := formC_head hF
    rw [hr] at hc; cases hc
theorem isBad {b : Int} {s : List Int} (hk : b < 1 ∨ 3 < b) : DecIs (b :: s) zeroC 4 := by
  refine ⟨fun c _ hF hc => ?_, fun c _ hF hc => rfl, fun c k _ hF _ hc => ?_, fun _ => rfl, fun h => absurd h (by decide)⟩
  · have := kind_app (t := []) hF (by rw [List.append_nil]; exact hc)
    have := fine_kind hF
    omega
  · have := kind_take hF hc
    have := fine_kind hF
    omega
/-- Decode, by the program. -/
theorem dec_all (A : Option Addr) (c : Nat) (bs : List Int) (hb : Byt bs) (hl : bs.length ≤ 1000000000) : ∃ (m : Cm) (f : Int), DecIs bs m f ∧ ∀ W, Src W 1 A bs.length (bc bs) → Calls Try.prog 7 #[.slice A bs.length c] W fun e w' => Ext W w' ∧ e = .returned (.tuple #[.agg #[.int .i64 m.kind, .int .i64 m.sym, .int .i64 m.id, .int .i64 m.own, .int .i64 m.side, .int .i64 m.typ, .int .i64 m.price, .int .i64 m.qty, .int .i64 m.flags], .int .i64 f]) := by
  have key : ∀ R : Cm × Int, DecIs bs R.1 R.2 → (∀ W, Src W 1 A bs.length (bc bs) → Calls Try.prog 7 #[.slice A bs.length c] W fun e w' => Ext W w' ∧ ∃ (c : Cm) (f : Int), e = .returned (.tuple #[.agg #[.int .i64 c.kind, .int .i64 c.sym, .int .i64 c.id, .int .i64 c.own, .int .i64 c.side, .int .i64 c.typ, .int .i64 c.price, .int .i64 c.qty, .int .i64 c.flags], .int .i64 f]) ∧ (c, f) = R) → ∃ (m : Cm) (f : Int), DecIs bs m f ∧ ∀ W, Src W 1 A bs.length (bc bs) → Calls Try.prog 7 #[.slice A bs.length c] W fun e w' => Ext W w' ∧ e = .returned (.tuple #[.agg #[.int .i64 m.kind, .int .i64 m.sym, .int .i64 m.id, .int .i64 m.own, .int .i64 m.side, .int .i64 m.typ, .int .i64 m.price, .int .i64 m.qty, .int .i64 m.flags], .int .i64 f]) := by
    rintro ⟨m, f⟩ hI hC
    refine ⟨m, f, hI, fun W hW => (hC W hW).mono ?_⟩
    rintro e w' ⟨hx, m', f', rfl, hmf⟩
    injection hmf with h1 h2
    rw [h1, h2]
    exact ⟨hx, rfl⟩
  match bs, hb, hl, key with
  | [], _, _, key =>
    obtain ⟨vb, s2, f2, e2⟩ : ∃ v s g, uintR [] 3 1 = (v, s, g) := ⟨_, _, _, rfl⟩
    obtain ⟨vd, s3, f3, e3⟩ : ∃ v s g, numR s2 f2 = (v, s, g) := ⟨_, _, _, rfl⟩
    obtain ⟨vp, s4, f4, e4⟩ : ∃ v s g, (backN (uintR s3 f3 8).1, (uintR s3 f3 8).2) = (v, s, g) := ⟨_, _, _, rfl⟩
    obtain ⟨vq, s5, f5, e5⟩ : ∃ v s g, (backN (uintR s4 f4 8).1, (uintR s4 f4 8).2) = (v, s, g) := ⟨_, _, _, rfl⟩
    have h2 : f2 = 3 := uintR_stays e2 (by decide)
    have h3 : f3 = 3 := (numR_stays e3 (by rw [h2]; decide)).trans h2
    have h4 : f4 = 3 := (intR_stays e4 (by rw [h3]; decide)).trans h3
    have h5 : f5 = 3 := (intR_stays e5 (by rw [h4]; decide)).trans h4
    refine key (zeroC, 3) is0 (fun W hW => ?_)
    have := dec0_c A c [] (fun x hx => by cases hx) (by decide) W hW [] s2 s3 f2 f3 vb vd 3 (by decide) rfl e2 e3 s4 s5 f4 f5 vp vq e4 e5
    rw [finBad (by rw [h5]; decide), h5] at this
    exact this
  | b :: s1, hb, hl, key =>
    have hb0 := hb b (by simp)
    by_cases k1 : b = 1
    · subst k1
      obtain ⟨v2, s2, f2, e2⟩ : ∃ v s g, uintR s1 0 1 = (v, s, g) := ⟨_, _, _, rfl⟩
      obtain ⟨v3, s3, f3, e3⟩ : ∃ v s g, numR s2 f2 = (v, s, g) := ⟨_, _, _, rfl⟩
      obtain ⟨v4, s4, f4, e4⟩ : ∃ v s g, numR s3 f3 = (v, s, g) := ⟨_, _, _, rfl⟩
      obtain ⟨v5, s5, f5, e5⟩ : ∃ v s g, uintR s4 f4 1 = (v, s, g) := ⟨_, _, _, rfl⟩
      obtain ⟨v6, s6, f6, e6⟩ : ∃ v s g, uintR s5 f5 1 = (v, s, g) := ⟨_, _, _, rfl⟩
      obtain ⟨v7, s7, f7, e7⟩ : ∃ v s g, uintR s6 f6 1 = (v, s, g) := ⟨_, _, _, rfl⟩
      obtain ⟨v8, s8, f8, e8⟩ : ∃ v s g, (backN (uintR s7 f7 8).1, (uintR s7 f7 8).2) = (v, s, g) := ⟨_, _, _, rfl⟩
      obtain ⟨v9, s9, f9, e9⟩ : ∃ v s g, (backN (uintR s8 f8 8).1, (uintR s8 f8 8).2) = (v, s, g) := ⟨_, _, _, rfl⟩
      exact key _ (is1 hb e2 e3 e4 e5 e6 e7 e8 e9 rfl) (fun W hW => dec1_c A c _ hb hl W hW s1 s2 s3 f2 f3 v2 v3 (uintR_cons _ _) e2 e3 s4 s5 s6 s7 f4 f5 f6 f7 v4 v5 v6 v7 e4 e5 e6 e7 s8 s9 f8 f9 v8 v9 e8 e9)
    by_cases k2 : b = 2
    · subst k2
      obtain ⟨v2, s2, f2, e2⟩ : ∃ v s g, uintR s1 0 1 = (v, s, g) := ⟨_, _, _, rfl⟩
      obtain ⟨v3, s3, f3, e3⟩ : ∃ v s g, numR s2 f2 = (v, s, g) := ⟨_, _, _, rfl⟩
      exact key _ (is2 hb e2 e3 rfl) (fun W hW => dec2_c A c _ hb hl W hW s1 s2 s3 f2 f3 v2 v3 (uintR_cons _ _) e2 e3)
    by_cases k3 : b = 3
    · subst k3
      obtain ⟨v2, s2, f2, e2⟩ : ∃ v s g, uintR s1 0 1 = (v, s, g) := ⟨_, _, _, rfl⟩
      obtain ⟨v3, s3, f3, e3⟩ : ∃ v s g, numR s2 f2 = (v, s, g) := ⟨_, _, _, rfl⟩
      obtain ⟨v4, s4, f4, e4⟩ : ∃ v s g, (backN (uintR s3 f3 8).1, (uintR s3 f3 8).2) = (v, s, g) := ⟨_, _, _, rfl⟩
      obtain ⟨v5, s5, f5, e5⟩ : ∃ v s g, (backN (uintR s4 f4 8).1, (uintR s4 f4 8).2) = (v, s, g) := ⟨_, _, _, rfl⟩
      exact key _ (is3 hb e2 e3 e4 e5 rfl) (fun W hW => dec3_c A c _ hb hl W hW s1 s2 s3 f2 f3 v2 v3 (uintR_cons _ _) e2 e3 s4 s5 f4 f5 v4 v5 e4 e5)
    · exact key (zeroC, 4) (isBad (by omega)) (fun W hW => decBad_c A c _ hb hl W hW s1 b.toNat (by omega) (uintR_cons _ _))
end Go.Proofs.Ytodeplfndebbgaa
