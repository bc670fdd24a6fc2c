/- Messages (layer 6): what is decoded, of one and of many; what is put is decoded (plain). Condition: at most 10^9 bytes. -/
import Derived.Test.YthophidcgkjdeaaM7
import Derived.Test.YthophidcgkjdeaaBk
import Derived.Test.YthophidcgkjdeaaMsMl
import Derived.Test.YthophidcgkjdeaaJA
namespace Go.Proofs.Ythophidcgkjdeaa
open Go.RowKit
attribute [local go_sem ↓ high] loadMsg_is storeMsg_is
attribute [local go_sem] run_loadMsg run_loadMsg_at run_storeMsg one_int one_bool one_slice one_ptr one_str setRow_new setRow_past cell_ca frozen_ca cellsAt_alloc_at cellsAt_alloc_past cellsAt_drew cellsAt_later cellsAt_setCell cellsAt_set_same cellsAt_setRow_same cellsAt_setRow_far subAt_alloc subAt_drew subAt_later subAt_setCell subAt_setRow ltn_2 ltn_3 ltn_4 ltn_5
def mr1 (bs : List Int) := uintR bs 0 1
def mr2 (bs : List Int) := uintR (mr1 bs).2.1 (mr1 bs).2.2 1
def mr3 (bs : List Int) := uintR (mr2 bs).2.1 (mr2 bs).2.2 1
def mr4 (bs : List Int) := numR (mr3 bs).2.1 (mr3 bs).2.2
def mr5 (bs : List Int) := numR (mr4 bs).2.1 (mr4 bs).2.2
def mr6 (bs : List Int) := intR (mr5 bs).2.1 (mr5 bs).2.2
def mr7 (bs : List Int) := intR (mr6 bs).2.1 (mr6 bs).2.2
def mr8 (bs : List Int) := intR (mr7 bs).2.1 (mr7 bs).2.2
def mr9 (bs : List Int) := intR (mr8 bs).2.1 (mr8 bs).2.2
/-- What is decoded, and what is wrong. -/
def decB (bs : List Int) : Mg × Int := finM ⟨((mr1 bs).1 : Int), ((mr2 bs).1 : Int), (min (mr4 bs).1 4611686018427387905 : Nat), (min (mr5 bs).1 4611686018427387905 : Nat), (mr6 bs).1, (mr7 bs).1, (mr8 bs).1, (mr9 bs).1, ((mr3 bs).1 : Int)⟩ (mr9 bs).2.1 (mr9 bs).2.2
theorem mdec_c (A : Option Addr) (c : Nat) (bs : List Int) (hb : Byt bs) (hl : bs.length ≤ 1000000000) (w : World) (hS : Src w 1 A bs.length (bc bs)) :
    Calls Try.prog 30 #[.slice A bs.length c] w fun e w' => Ext w w' ∧ ∃ (m : Mg) (f : Int), e = .returned (.tuple #[.agg #[.int .i64 m.kind, .int .i64 m.sym, .int .i64 m.seq, .int .i64 m.tick, .int .i64 m.id, .int .i64 m.wth, .int .i64 m.price, .int .i64 m.qty, .int .i64 m.code], .int .i64 f]) ∧ decB bs = (m, f) :=
  (decM_c A c bs hb hl w hS _ _ _ _ _ _ _ _ _ _ _ _ _ _ _ _ _ _ _ _ _ _ _ _ _ _ _ (rfl : mr1 bs = _) (rfl : mr2 bs = _) (rfl : mr3 bs = _) (rfl : mr4 bs = _) (rfl : mr5 bs = _) (rfl : mr6 bs = _) (rfl : mr7 bs = _) (rfl : mr8 bs = _) (rfl : mr9 bs = _)).mono fun e w' ⟨hx, m, f, he, hm⟩ => ⟨hx, m, f, he, hm.symm⟩
theorem finM_ok {m n : Mg} {rs : List Int} {f : Int} (h : finM m rs f = (n, 0)) : f = 0 ∧ rs = [] ∧ rightB m = true ∧ n = m := by
  unfold finM at h
  by_cases hf : f ≠ 0
  · rw [if_pos hf] at h
    injection h with _ h2
    exact absurd h2 hf
  · rw [if_neg hf] at h
    by_cases hr : 0 < rs.length ∨ rightB m = false
    · rw [if_pos hr] at h
      injection h with _ h2
      cases h2
    · rw [if_neg hr] at h
      injection h with h1 _
      refine ⟨by omega, ?_, ?_, h1.symm⟩
      · exact List.eq_nil_of_length_eq_zero (by omega)
      · cases hb : rightB m with
        | true => rfl
        | false => exact absurd (.inr hb) hr
theorem finM_bad {m n : Mg} {rs : List Int} {f g : Int} (h : finM m rs f = (n, g)) (hg : g ≠ 0) : n = zeroM := by
  unfold finM at h
  split at h
  · injection h with h1 _; exact h1.symm
  split at h
  · injection h with h1 _; exact h1.symm
  · injection h with _ h2; exact absurd h2.symm hg
theorem dec_bad {bs : List Int} {m : Mg} {f : Int} (h : decB bs = (m, f)) (hf : f ≠ 0) : m = zeroM := finM_bad h hf
theorem form_app (m : Mg) (rest : List Int) : formB m ++ rest = m.kind :: m.sym :: m.code :: (numB m.seq.toNat ++ (numB m.tick.toNat ++ (intB m.id ++ (intB m.wth ++ (intB m.price ++ (intB m.qty ++ rest)))))) := by
  unfold formB
  simp
theorem one_next {α : Type} {r : α × List Int × Int} {v : α} {b : Int} {rest : List Int} (h : r = (v, b :: rest, 0)) : uintR r.2.1 r.2.2 1 = (b.toNat, rest, 0) := by rw [h]; exact one_put _ _
theorem num_next {α : Type} {r : α × List Int × Int} {v : α} {n : Nat} (hn : n < 18446744073709551616) {rest : List Int} (h : r = (v, numB n ++ rest, 0)) : numR r.2.1 r.2.2 = (n, rest, 0) := by rw [h]; exact numR_put hn _
theorem int_next {α : Type} {r : α × List Int × Int} {v : α} {x : Int} (hx : I64 x) {rest : List Int} (h : r = (v, intB x ++ rest, 0)) : intR r.2.1 r.2.2 = (x, rest, 0) := by rw [h]; exact intR_put hx _
theorem dec_put {m : Mg} (hO : m.Ok) (hr : rightB m = true) : decB (formB m) = (m, 0) := by
  have hF := (right_iff m).1 hr
  have e0 := form_app m []
  rw [List.append_nil] at e0
  have k1 := hF.kind
  have k2 := hF.sym
  have k3 := hF.code
  have k4 := hF.seq
  have k5 := hF.tick
  have e1 := (show mr1 (formB m) = uintR _ 0 1 from congrArg (fun b => uintR b 0 1) e0).trans (one_put _ _)
  have e2 := (one_next e1 : mr2 (formB m) = _)
  change mr2 (formB m) = _ at e2
  have e3 := (one_next e2 : mr3 (formB m) = _)
  change mr3 (formB m) = _ at e3
  have e4 := (num_next (by omega) e3 : mr4 (formB m) = _)
  change mr4 (formB m) = _ at e4
  have e5 := (num_next (by omega) e4 : mr5 (formB m) = _)
  change mr5 (formB m) = _ at e5
  have e6 := (int_next hO.id e5 : mr6 (formB m) = _)
  change mr6 (formB m) = _ at e6
  have e7 := (int_next hO.wth e6 : mr7 (formB m) = _)
  change mr7 (formB m) = _ at e7
  have e8 := (int_next hO.price e7 : mr8 (formB m) = _)
  change mr8 (formB m) = _ at e8
  have e9 := (int_next hO.qty e8 : mr9 (formB m) = _)
  change mr9 (formB m) = _ at e9
  unfold decB
  rw [e1, e2, e3, e4, e5, e6, e7, e8, e9]
  have em : (⟨((m.kind.toNat : Nat) : Int), ((m.sym.toNat : Nat) : Int), (min m.seq.toNat 4611686018427387905 : Nat), (min m.tick.toNat 4611686018427387905 : Nat), m.id, m.wth, m.price, m.qty, ((m.code.toNat : Nat) : Int)⟩ : Mg) = m := by
    obtain ⟨a, b, c, d, e, f, g, h, i⟩ := m
    simp only at k1 k2 k3 k4 k5
    simp only [Mg.mk.injEq]
    refine ⟨by omega, by omega, by omega, by omega, trivial, trivial, trivial, trivial, by omega⟩
  rw [em]
  unfold finM
  rw [if_neg (by simp), if_neg (by simp [hr])]
theorem dec_inv {bs : List Int} {m : Mg} (hb : Byt bs) (h : decB bs = (m, 0)) : formB m = bs ∧ rightB m = true ∧ m.Ok := by
  obtain ⟨h1, h2, h3, h4⟩ := finM_ok h
  have hF := (right_iff _).1 h3
  have e9 : intR (mr8 bs).2.1 (mr8 bs).2.2 = ((mr9 bs).1, [], 0) := Prod.ext rfl (Prod.ext h2 h1)
  have r1 : ∀ {s : List Int} {f v : Int} {s' : List Int}, Byt s → intR s f = (v, s', 0) → f = 0 ∧ s = intB v ++ s' ∧ I64 v ∧ Byt s' := fun hs e => by
    obtain ⟨a, b, c⟩ := int_inv hs e
    exact ⟨a, b, c, fun x hx => hs x (by rw [b]; simp [hx])⟩
  have r2 : ∀ {s : List Int} {f : Int} {v : Nat} {s' : List Int}, Byt s → numR s f = (v, s', 0) → f = 0 ∧ s = numB v ++ s' ∧ Byt s' := fun hs e => by
    obtain ⟨a, b⟩ := num_inv hs e
    exact ⟨a, b, fun x hx => hs x (by rw [b]; simp [hx])⟩
  have r3 : ∀ {s : List Int} {f : Int} {v : Nat} {s' : List Int}, Byt s → uintR s f 1 = (v, s', 0) → f = 0 ∧ s = (v : Int) :: s' ∧ Byt s' := fun hs e => by
    obtain ⟨a, b, _⟩ := one_inv hs e
    exact ⟨a, b, fun x hx => hs x (by rw [b]; simp [hx])⟩
  -- the faults, from the last on
  have g8 : (mr8 bs).2.2 = 0 := Classical.byContradiction fun hf => hf (intR_stays (v := (mr9 bs).1) (s := []) e9 hf).symm
  have e8 : intR (mr7 bs).2.1 (mr7 bs).2.2 = ((mr8 bs).1, (mr8 bs).2.1, 0) := Prod.ext rfl (Prod.ext rfl g8)
  have g7 : (mr7 bs).2.2 = 0 := Classical.byContradiction fun hf => hf (intR_stays (v := (mr8 bs).1) (s := (mr8 bs).2.1) e8 hf).symm
  have e7 : intR (mr6 bs).2.1 (mr6 bs).2.2 = ((mr7 bs).1, (mr7 bs).2.1, 0) := Prod.ext rfl (Prod.ext rfl g7)
  have g6 : (mr6 bs).2.2 = 0 := Classical.byContradiction fun hf => hf (intR_stays (v := (mr7 bs).1) (s := (mr7 bs).2.1) e7 hf).symm
  have e6 : intR (mr5 bs).2.1 (mr5 bs).2.2 = ((mr6 bs).1, (mr6 bs).2.1, 0) := Prod.ext rfl (Prod.ext rfl g6)
  have g5 : (mr5 bs).2.2 = 0 := Classical.byContradiction fun hf => hf (intR_stays (v := (mr6 bs).1) (s := (mr6 bs).2.1) e6 hf).symm
  have e5 : numR (mr4 bs).2.1 (mr4 bs).2.2 = ((mr5 bs).1, (mr5 bs).2.1, 0) := Prod.ext rfl (Prod.ext rfl g5)
  have g4 : (mr4 bs).2.2 = 0 := Classical.byContradiction fun hf => hf (numR_stays e5 hf).symm
  have e4 : numR (mr3 bs).2.1 (mr3 bs).2.2 = ((mr4 bs).1, (mr4 bs).2.1, 0) := Prod.ext rfl (Prod.ext rfl g4)
  have g3 : (mr3 bs).2.2 = 0 := Classical.byContradiction fun hf => hf (numR_stays e4 hf).symm
  have e3 : uintR (mr2 bs).2.1 (mr2 bs).2.2 1 = ((mr3 bs).1, (mr3 bs).2.1, 0) := Prod.ext rfl (Prod.ext rfl g3)
  have g2 : (mr2 bs).2.2 = 0 := Classical.byContradiction fun hf => hf (uintR_stays e3 hf).symm
  have e2 : uintR (mr1 bs).2.1 (mr1 bs).2.2 1 = ((mr2 bs).1, (mr2 bs).2.1, 0) := Prod.ext rfl (Prod.ext rfl g2)
  have g1 : (mr1 bs).2.2 = 0 := Classical.byContradiction fun hf => hf (uintR_stays e2 hf).symm
  have e1 : uintR bs 0 1 = ((mr1 bs).1, (mr1 bs).2.1, 0) := Prod.ext rfl (Prod.ext rfl g1)
  obtain ⟨_, a1, b1⟩ := r3 hb e1
  obtain ⟨_, a2, b2⟩ := r3 b1 e2
  obtain ⟨_, a3, b3⟩ := r3 b2 e3
  obtain ⟨_, a4, b4⟩ := r2 b3 e4
  obtain ⟨_, a5, b5⟩ := r2 b4 e5
  obtain ⟨_, a6, i6, b6⟩ := r1 b5 e6
  obtain ⟨_, a7, i7, b7⟩ := r1 b6 e7
  obtain ⟨_, a8, i8, b8⟩ := r1 b7 e8
  obtain ⟨_, a9, i9, _⟩ := r1 b8 e9
  have k1 := hF.kind
  have k2 := hF.sym
  have k3 := hF.code
  have k4 := hF.seq
  have k5 := hF.tick
  simp only at k1 k2 k3 k4 k5
  have q4 : min (mr4 bs).1 4611686018427387905 = (mr4 bs).1 := by omega
  have q5 : min (mr5 bs).1 4611686018427387905 = (mr5 bs).1 := by omega
  rw [h4]
  refine ⟨?_, h3, ⟨⟨by simp only; omega, by simp only; omega⟩, ⟨by simp only; omega, by simp only; omega⟩, ⟨by simp only; omega, by simp only; omega⟩, ⟨by simp only; omega, by simp only; omega⟩, i6, i7, i8, i9, ⟨by simp only; omega, by simp only; omega⟩⟩⟩
  have e0 := form_app ⟨((mr1 bs).1 : Int), ((mr2 bs).1 : Int), (min (mr4 bs).1 4611686018427387905 : Nat), (min (mr5 bs).1 4611686018427387905 : Nat), (mr6 bs).1, (mr7 bs).1, (mr8 bs).1, (mr9 bs).1, ((mr3 bs).1 : Int)⟩ []
  rw [List.append_nil] at e0
  rw [e0]
  simp only [q4, q5, Int.toNat_natCast]
  rw [← a9, ← a8, ← a7, ← a6, ← a5, ← a4, ← a3, ← a2, ← a1]
theorem form_len {m : Mg} (hF : m.Fine) : (formB m).length ≤ 55 := by
  have n1 := numB_len64 (n := m.seq.toNat) (by have := hF.seq; omega)
  have n2 := numB_len64 (n := m.tick.toNat) (by have := hF.tick; omega)
  unfold formB
  simp only [List.length_append, List.length_cons, List.length_nil, intB_len]
  omega
/-! ### many -/
def strM (l : List Mg) : List Int × Int := if l.all rightB = true then (stream (l.map formB), 0) else ([], 1)
def decL : List (List Int) → List Mg × Int
  | [] => ([], 0)
  | b :: r => if (decB b).2 ≠ 0 then ([], (decB b).2) else if (decL r).2 ≠ 0 then ([], (decL r).2) else ((decB b).1 :: (decL r).1, 0)
def allM (bs : List Int) : List Mg × Int := if (decL (cut bs).1).2 ≠ 0 then ([], (decL (cut bs).1).2) else if (cut bs).2.1 = [] then ((decL (cut bs).1).1, 0) else ([], (cut bs).2.2)
theorem decL_put : ∀ (l : List Mg), (∀ m ∈ l, m.Ok) → l.all rightB = true → decL (l.map formB) = (l, 0)
  | [], _, _ => rfl
  | m :: l, hO, hr => by
    rw [List.all_cons, Bool.and_eq_true] at hr
    have h1 := dec_put (hO m (by simp)) hr.1
    have h2 := decL_put l (fun x hx => hO x (by simp [hx])) hr.2
    show (if (decB (formB m)).2 ≠ 0 then _ else if (decL (l.map formB)).2 ≠ 0 then _ else _) = _
    rw [h1, h2]
    rfl
theorem all_back {l : List Mg} (hO : ∀ m ∈ l, m.Ok) (hr : l.all rightB = true) : allM (stream (l.map formB)) = (l, 0) := by
  have hc := cut_stream (l.map formB) [] (fun p hp => by
    obtain ⟨m, hm, rfl⟩ := List.mem_map.1 hp
    have := form_len ((right_iff m).1 (List.all_eq_true.1 hr m hm))
    omega)
  rw [List.append_nil, cut_nil, List.append_nil] at hc
  unfold allM
  rw [hc, decL_put l hO hr]
  rfl
end Go.Proofs.Ythophidcgkjdeaa
