/- What is put is read as it was, and back (plain): the numbers of a configuration. No condition. -/
import Derived.Test.YtfbpmngdamaobaaYRB
namespace Go.Proofs.Ytfbpmngdamaobaa
open Go.RowKit
theorem pow_step (i : Nat) : 128 ^ (i + 1) = 128 * 128 ^ i := by rw [Nat.pow_succ, Nat.mul_comm]
theorem num_small {n i : Nat} (h : n * 128 ^ i < 18446744073709551616) (hi : 9 ≤ i) : n < 2 ∧ (i = 9 ∨ n = 0) := by
  have h9 : (128 : Nat) ^ 9 ≤ 128 ^ i := Nat.pow_le_pow_right (by decide) hi
  have h1 : n * 128 ^ 9 ≤ n * 128 ^ i := Nat.mul_le_mul_left _ h9
  refine ⟨by omega, ?_⟩
  by_cases hi9 : i = 9
  · exact .inl hi9
  · right
    have h10 : (128 : Nat) ^ 10 ≤ 128 ^ i := Nat.pow_le_pow_right (by decide) (by omega)
    have h2 : n * 128 ^ 10 ≤ n * 128 ^ i := Nat.mul_le_mul_left _ h10
    omega
theorem num_div {n i : Nat} (h : n * 128 ^ i < 18446744073709551616) : n / 128 * 128 ^ (i + 1) < 18446744073709551616 ∧ n % 128 * 128 ^ i + n / 128 * 128 ^ (i + 1) = n * 128 ^ i := by
  have e : n % 128 * 128 ^ i + n / 128 * 128 ^ (i + 1) = n * 128 ^ i := by
    rw [pow_step, ← Nat.mul_assoc, Nat.mul_comm (n / 128) 128, ← Nat.add_mul, Nat.mod_add_div]
  exact ⟨by omega, e⟩
theorem numG_put : ∀ (k n i acc : Nat) (rest : List Int), i + k = 10 → n * 128 ^ i < 18446744073709551616 → (i = 0 ∨ 0 < n) → numG k i acc (numB n ++ rest) = (acc + n * 128 ^ i, rest, 0) := by
  intro k
  induction k with
  | zero =>
    intro n i acc rest hik hn h0
    have := num_small hn (by omega)
    omega
  | succ k ih =>
    intro n i acc rest hik hn h0
    by_cases hs : n < 128
    · rw [numB_small hs]
      have e : numG (k + 1) i acc ([(n : Int)] ++ rest) = if i = 9 ∧ 1 < (n : Int).toNat % 128 then (0, rest, 4) else if 128 ≤ (n : Int).toNat then numG k (i + 1) (acc + (n : Int).toNat % 128 * 128 ^ i) rest else if (n : Int).toNat % 128 = 0 ∧ 0 < i then (0, rest, 4) else (acc + (n : Int).toNat % 128 * 128 ^ i, rest, 0) := rfl
      rw [e, Int.toNat_natCast, Nat.mod_eq_of_lt hs]
      rw [if_neg (fun h => by have := num_small hn (by omega); omega), if_neg (by omega), if_neg (by omega)]
    · rw [numB_big hs]
      obtain ⟨b, hb⟩ : ∃ b : Nat, b = n % 128 + 128 := ⟨_, rfl⟩
      rw [← hb]
      have e : numG (k + 1) i acc ((b : Int) :: numB (n / 128) ++ rest) = if i = 9 ∧ 1 < (b : Int).toNat % 128 then (0, numB (n / 128) ++ rest, 4) else if 128 ≤ (b : Int).toNat then numG k (i + 1) (acc + (b : Int).toNat % 128 * 128 ^ i) (numB (n / 128) ++ rest) else if (b : Int).toNat % 128 = 0 ∧ 0 < i then (0, numB (n / 128) ++ rest, 4) else (acc + (b : Int).toNat % 128 * 128 ^ i, numB (n / 128) ++ rest, 0) := rfl
      obtain ⟨d1, d2⟩ := num_div hn
      have hi9 : i < 9 := by
        rcases Nat.lt_or_ge i 9 with h | h
        · exact h
        · have := num_small hn h; omega
      rw [e, Int.toNat_natCast, show b % 128 = n % 128 by omega, if_neg (by omega), if_pos (by omega), ih (n / 128) (i + 1) _ rest (by omega) d1 (by omega), Nat.add_assoc, d2]
theorem numR_put {n : Nat} (h : n < 18446744073709551616) (rest : List Int) : numR (numB n ++ rest) 0 = (n, rest, 0) := by
  unfold numR
  rw [if_neg (by simp), numG_put 10 n 0 0 rest (by decide) (by simpa using h) (.inl rfl)]
  simp
theorem numG_inv : ∀ (k i acc : Nat) (bs rest : List Int) (m : Nat), i + k = 10 → Byt bs → numG k i acc bs = (m, rest, 0) → ∃ n, bs = numB n ++ rest ∧ m = acc + n * 128 ^ i ∧ (i = 0 ∨ 0 < n) ∧ (i = 9 → n ≤ 1)
  | 0, i, acc, bs, rest, m, _, _, e => by
    have e' : numG 0 i acc bs = (0, bs, 4) := rfl
    rw [e'] at e
    injection e with _ e; injection e with _ e; cases e
  | k + 1, i, acc, [], rest, m, _, _, e => by
    have e' : numG (k + 1) i acc [] = (0, [], 3) := rfl
    rw [e'] at e
    injection e with _ e; injection e with _ e; cases e
  | k + 1, i, acc, b :: bs, rest, m, hik, hb, e => by
    have hb0 := hb b (by simp)
    have hbs : Byt bs := fun x hx => hb x (by simp [hx])
    have e' : numG (k + 1) i acc (b :: bs) = if i = 9 ∧ 1 < b.toNat % 128 then (0, bs, 4) else if 128 ≤ b.toNat then numG k (i + 1) (acc + b.toNat % 128 * 128 ^ i) bs else if b.toNat % 128 = 0 ∧ 0 < i then (0, bs, 4) else (acc + b.toNat % 128 * 128 ^ i, bs, 0) := rfl
    rw [e'] at e
    by_cases h1 : i = 9 ∧ 1 < b.toNat % 128
    · rw [if_pos h1] at e
      injection e with _ e; injection e with _ e; cases e
    rw [if_neg h1] at e
    by_cases h2 : 128 ≤ b.toNat
    · rw [if_pos h2] at e
      obtain ⟨n, hn1, hn2, hn3, hn4⟩ := numG_inv k (i + 1) _ bs rest m (by omega) hbs e
      have hp : 0 < n := by omega
      have hbig : ¬ b.toNat % 128 + 128 * n < 128 := by omega
      refine ⟨b.toNat % 128 + 128 * n, ?_, ?_, .inr (by omega), fun h9 => ?_⟩
      · rw [numB_big hbig, show (b.toNat % 128 + 128 * n) / 128 = n by omega, show (((b.toNat % 128 + 128 * n) % 128 + 128 : Nat) : Int) = b by omega, hn1]
        rfl
      · rw [hn2, Nat.add_mul, Nat.pow_succ, Nat.mul_comm 128 n, Nat.mul_assoc, Nat.mul_comm 128, Nat.add_assoc]
      · subst h9
        obtain rfl : k = 0 := by omega
        have e'' : numG 0 (9 + 1) (acc + b.toNat % 128 * 128 ^ 9) bs = (0, bs, 4) := rfl
        rw [e''] at e
        injection e with _ e; injection e with _ e; cases e
    rw [if_neg h2] at e
    by_cases h3 : b.toNat % 128 = 0 ∧ 0 < i
    · rw [if_pos h3] at e
      injection e with _ e; injection e with _ e; cases e
    · rw [if_neg h3] at e
      injection e with e1 e; injection e with e2 _
      refine ⟨b.toNat, ?_, ?_, ?_, fun h9 => ?_⟩
      · rw [numB_small (by omega), show ((b.toNat : Nat) : Int) = b by omega, e2]
        rfl
      · rw [← e1, Nat.mod_eq_of_lt (by omega)]
      · omega
      · omega
theorem num_inv {s s' : List Int} {f : Int} {v : Nat} (hs : Byt s) (e : numR s f = (v, s', 0)) : f = 0 ∧ s = numB v ++ s' := by
  by_cases hf : f = 0
  · subst hf
    unfold numR at e
    rw [if_neg (by simp)] at e
    obtain ⟨n, h1, h2, _⟩ := numG_inv 10 0 0 s s' v (by decide) hs e
    rw [Nat.pow_zero, Nat.mul_one, Nat.zero_add] at h2
    subst h2
    exact ⟨rfl, h1⟩
  · exact absurd (numR_stays e hf).symm hf
theorem numS_put {n : Int} (h : 0 ≤ n ∧ n ≤ 4611686018427387904) (rest : List Int) (g : Bool) : numS ⟨numB n.toNat ++ rest, 0, g⟩ = (n, ⟨rest, 0, g⟩) := by
  unfold numS
  simp only
  rw [numR_put (by omega), if_neg (by simp only; omega)]
  simp only
  rw [show ((n.toNat : Nat) : Int) = n by omega]
theorem seq_put {α : Type} {rd : RS → α × RS} {enc : α → List Int} {P : α → Prop} (h : ∀ a, P a → ∀ rest g, rd ⟨enc a ++ rest, 0, g⟩ = (a, ⟨rest, 0, g⟩)) : ∀ (n : Nat) (l : List α), l.length = n → (∀ a ∈ l, P a) → ∀ rest g, seqV rd n ⟨l.flatMap enc ++ rest, 0, g⟩ = (l, ⟨rest, 0, g⟩)
  | 0, l, hl, _, rest, g => by
    obtain rfl := List.length_eq_zero_iff.1 hl
    rw [seqV_zero]
    rfl
  | n + 1, l, hl, hP, rest, g => by
    have hne : l ≠ [] := fun e => by rw [e] at hl; simp at hl
    have hlast := List.dropLast_concat_getLast hne
    have hlen : l.dropLast.length = n := by rw [List.length_dropLast, hl]; rfl
    have ih := seq_put h n l.dropLast hlen (fun a ha => hP a (List.dropLast_subset l ha)) (enc (l.getLast hne) ++ rest) g
    have e : l.flatMap enc ++ rest = l.dropLast.flatMap enc ++ (enc (l.getLast hne) ++ rest) := by
      conv => lhs; rw [← hlast]
      rw [List.flatMap_append, List.append_assoc]
      simp
    rw [e, seqV_succ, ih]
    simp only
    rw [h _ (hP _ (List.getLast_mem hne))]
    simp only
    rw [hlast]
theorem symOf_N (s : Sym) : symOf (symN s) = s := rfl
theorem N_symOf : ∀ l : List Int, l.length = 16 → symN (symOf l) = l
  | [_, _, _, _, _, _, _, _, _, _, _, _, _, _, _, _], _ => rfl
theorem nums_put {l : List Int} (hl : Put l) (rest : List Int) (g : Bool) : seqV numS l.length ⟨numsB l ++ rest, 0, g⟩ = (l, ⟨rest, 0, g⟩) :=
  seq_put (enc := fun n => numB n.toNat) (P := fun n => 0 ≤ n ∧ n ≤ 4611686018427387904) (fun n hn rest g => numS_put hn rest g) l.length l rfl hl rest g
theorem sym_put {s : Sym} (h : Put (symN s)) (rest : List Int) (g : Bool) : symV7 numS ⟨numsB (symN s) ++ rest, 0, g⟩ = (s, ⟨rest, 0, g⟩) := by
  unfold symV7
  have := nums_put h rest g
  rw [show (symN s).length = 16 from rfl] at this
  rw [this]
  rfl
theorem row_put {r : Rw} (h : Put (rowN r)) (rest : List Int) (g : Bool) : rowV7 numS ⟨numsB (rowN r) ++ rest, 0, g⟩ = (r, ⟨rest, 0, g⟩) := by
  have e : numsB (rowN r) ++ rest = numB r.tick.toNat ++ (numB r.ph.toNat ++ rest) := by simp [rowN, numsB]
  unfold rowV7
  rw [e, numS_put (h _ (by simp [rowN]))]
  simp only
  rw [numS_put (h _ (by simp [rowN]))]
theorem cnt_put {n : Nat} (h : n < 18446744073709551616) (rest : List Int) (g : Bool) : cntS ⟨numB n ++ rest, 0, g⟩ = (n, ⟨rest, 0, g⟩) := by
  unfold cntS
  simp only
  rw [numR_put h]
theorem numsB_flat {α : Type} (f : α → List Int) (l : List α) : numsB (l.flatMap f) = l.flatMap (fun a => numsB (f a)) := by
  unfold numsB
  rw [List.flatMap_assoc]
theorem cfgN_B (x : Cfg) : numsB (cfgN x) = numB x.l.length ++ (x.l.flatMap (fun s => numsB (symN s)) ++ (numB x.t.length ++ (x.t.flatMap (fun r => numsB (rowN r)) ++ numsB (restN x)))) := by
  unfold cfgN
  rw [numsB_app, numsB_app, numsB_app, numsB_app, numsB_flat, numsB_flat, numsB_one, numsB_one]
  simp only [List.append_assoc, Int.toNat_natCast]
theorem checkI_cf (x : Cfg) : checkI (cfC ⟨x.l, x.t, restN x⟩) = checkI x := rfl
/-- A configuration that is right is read as it was. -/
theorem read_put (x : Cfg) (h : (checkI x).1 = 0) : readS (numsB (cfgN x)) = (⟨x.l, x.t, restN x⟩, 0) := by
  have R := right_of h
  have h1 := R.nl
  have h2 := R.nt
  rw [cfgN_B]
  unfold readS
  rw [cnt_put (by omega)]
  simp only
  rw [if_neg (by omega), seq_put (P := fun (s : Sym) => Put (symN s)) (fun s hs rest g => sym_put hs rest g) x.l.length x.l rfl (fun s hs => put_sym (R.syms s hs))]
  simp only
  rw [cnt_put (by omega)]
  simp only
  rw [if_neg (by omega)]
  unfold tailV
  rw [seq_put (P := fun (r : Rw) => Put (rowN r)) (fun r hr rest g => row_put hr rest g) x.t.length x.t rfl (fun r hr => by
    have := R.rows r hr
    intro n hn
    simp only [rowN, List.mem_cons, List.not_mem_nil, or_false] at hn
    rcases hn with rfl | rfl <;> omega)]
  simp only
  have := nums_put R.rest [] false
  rw [show (restN x).length = 6 from rfl, List.append_nil] at this
  rw [this]
  unfold endV
  simp only
  rw [if_neg (by simp), if_neg (by simp), checkI_cf, if_neg (by simpa using h)]
/-- What is read without a fault has just the bytes that were put. -/
structure Inv {α : Type} (rd : RS → α × RS) (enc : α → List Int) : Prop where
  byt : ∀ s, Byt s.bs → Byt (rd s).2.bs
  inv : ∀ s, Byt s.bs → (rd s).2.f = 0 → (rd s).2.g = false → s.f = 0 ∧ s.g = false ∧ s.bs = enc (rd s).1 ++ (rd s).2.bs
theorem numR_bytI {bs : List Int} (h : Byt bs) (f : Int) : Byt (numR bs f).2.1 := by
  unfold numR
  split
  · exact h
  · obtain ⟨⟨z, _, hd⟩, _⟩ := numG_is6 10 0 0 bs
    rw [hd]
    exact fun x hx => h x (List.mem_of_mem_drop hx)
theorem inv_num : Inv numS (fun n => numB n.toNat) := by
  constructor
  · intro s h
    unfold numS
    split
    · exact numR_bytI h _
    · exact numR_bytI h _
  · intro s h
    unfold numS
    split
    · intro _ hg; cases hg
    · intro hf hg
      simp only at hf hg ⊢
      obtain ⟨h1, h2⟩ := num_inv h (Prod.ext rfl (Prod.ext rfl hf) : numR s.bs s.f = ((numR s.bs s.f).1, (numR s.bs s.f).2.1, 0))
      exact ⟨h1, hg, by rw [Int.toNat_natCast]; exact h2⟩
theorem inv_cnt : Inv cntS (fun n => numB n) := by
  constructor
  · intro s h
    exact numR_bytI h _
  · intro s h hf hg
    unfold cntS at hf hg ⊢
    simp only at hf hg ⊢
    obtain ⟨h1, h2⟩ := num_inv h (Prod.ext rfl (Prod.ext rfl hf) : numR s.bs s.f = ((numR s.bs s.f).1, (numR s.bs s.f).2.1, 0))
    exact ⟨h1, hg, h2⟩
theorem inv_seq {α : Type} {rd : RS → α × RS} {enc : α → List Int} (H : Inv rd enc) : ∀ n, Inv (seqV rd n) (fun l => l.flatMap enc)
  | 0 => by
    constructor
    · intro s h; rw [seqV_zero]; exact h
    · intro s h; rw [seqV_zero]; exact fun hf hg => ⟨hf, hg, rfl⟩
  | n + 1 => by
    have ih := inv_seq H n
    constructor
    · intro s h; rw [seqV_succ]; exact H.byt _ (ih.byt s h)
    · intro s h
      rw [seqV_succ]
      intro hf hg
      simp only at hf hg ⊢
      obtain ⟨h1, h2, h3⟩ := H.inv _ (ih.byt s h) hf hg
      obtain ⟨k1, k2, k3⟩ := ih.inv s h h1 h2
      refine ⟨k1, k2, ?_⟩
      rw [k3]
      conv => lhs; rw [h3]
      rw [List.flatMap_append, List.append_assoc]
      simp
theorem inv_sym : Inv (symV7 numS) (fun s => numsB (symN s)) := by
  have H := inv_seq inv_num 16
  constructor
  · exact H.byt
  · intro s h hf hg
    obtain ⟨h1, h2, h3⟩ := H.inv s h hf hg
    refine ⟨h1, h2, ?_⟩
    show s.bs = numsB (symN (symOf (seqV numS 16 s).1)) ++ (seqV numS 16 s).2.bs
    rw [N_symOf _ (seqV_len _ _ _)]
    exact h3
theorem inv_row : Inv (rowV7 numS) (fun r => numsB (rowN r)) := by
  constructor
  · exact fun s h => inv_num.byt _ (inv_num.byt s h)
  · intro s h hf hg
    obtain ⟨h1, h2, h3⟩ := inv_num.inv _ (inv_num.byt s h) hf hg
    obtain ⟨k1, k2, k3⟩ := inv_num.inv s h h1 h2
    refine ⟨k1, k2, ?_⟩
    rw [k3]
    conv => lhs; rw [h3]
    simp [rowV7, rowN, numsB]
theorem restN_six : ∀ {r : List Int}, r.length = 6 → ∀ l t, restN (cfC ⟨l, t, r⟩) = r
  | [_, _, _, _, _, _], _, _, _ => rfl
theorem read_inv (bs : List Int) (hb : Byt bs) (h : (readS bs).2 = 0) : (checkI (cfC (readS bs).1)).1 = 0 ∧ numsB (cfgN (cfC (readS bs).1)) = bs ∧ restN (cfC (readS bs).1) = (readS bs).1.r := by
  unfold readS at h ⊢
  have I1 := inv_cnt.inv ⟨bs, 0, false⟩ hb
  have B1 := inv_cnt.byt ⟨bs, 0, false⟩ hb
  generalize cntS ⟨bs, 0, false⟩ = c1 at *
  obtain ⟨n1, s1⟩ := c1
  simp only at *
  split at h
  · cases h
  rename_i h8
  rw [if_neg h8]
  have I2 := (inv_seq inv_sym n1).inv s1 B1
  have B2 := (inv_seq inv_sym n1).byt s1 B1
  have L2 := seqV_len (symV7 numS) s1 n1
  generalize seqV (symV7 numS) n1 s1 = c2 at *
  obtain ⟨l, s2⟩ := c2
  simp only at *
  have I3 := inv_cnt.inv s2 B2
  have B3 := inv_cnt.byt s2 B2
  generalize cntS s2 = c3 at *
  obtain ⟨n2, s3⟩ := c3
  simp only at *
  split at h
  · cases h
  rename_i h20
  rw [if_neg h20]
  unfold tailV at h ⊢
  have I4 := (inv_seq inv_row n2).inv s3 B3
  have B4 := (inv_seq inv_row n2).byt s3 B3
  have L4 := seqV_len (rowV7 numS) s3 n2
  generalize seqV (rowV7 numS) n2 s3 = c4 at *
  obtain ⟨t, s4⟩ := c4
  simp only at *
  have I5 := (inv_seq inv_num 6).inv s4 B4
  have L5 := seqV_len numS s4 6
  generalize seqV numS 6 s4 = c5 at *
  obtain ⟨r, s5⟩ := c5
  simp only at *
  unfold endV at h ⊢
  split at h
  · rename_i hf; exact absurd h hf
  rename_i hf
  rw [if_neg hf]
  split at h
  · cases h
  rename_i hg
  rw [if_neg hg]
  split at h
  · rename_i hc; exact absurd h hc
  rename_i hc
  rw [if_neg hc]
  have hf' : s5.f = 0 := by omega
  have hg' : s5.g = false := by
    cases hq : s5.g with
    | false => rfl
    | true => exact absurd (.inl hq) hg
  have hn : s5.bs = [] := List.length_eq_zero_iff.1 (by have := fun k => hg (.inr k); omega)
  obtain ⟨f5, g5, e5⟩ := I5 hf' hg'
  obtain ⟨f4, g4, e4⟩ := I4 f5 g5
  obtain ⟨f3, g3, e3⟩ := I3 f4 g4
  obtain ⟨f2, g2, e2⟩ := I2 f3 g3
  obtain ⟨_, _, e1⟩ := I1 f2 g2
  refine ⟨Classical.not_not.1 hc, ?_, restN_six L5 _ _⟩
  rw [cfgN_B]
  rw [show restN (cfC ⟨l, t, r⟩) = r from restN_six L5 _ _]
  show numB l.length ++ (l.flatMap (fun s => numsB (symN s)) ++ (numB t.length ++ (t.flatMap (fun r => numsB (rowN r)) ++ numsB r))) = bs
  rw [L2, L4, e1, e2, e3, e4, e5, hn, List.append_nil]
  rfl
theorem read_back {bs : List Int} (hb : Byt bs) (h : (readS bs).2 = 0) {x : Cfg} (hl : x.l = (readS bs).1.l) (ht : x.t = (readS bs).1.t) (hr : restN x = (readS bs).1.r) : (checkI x).1 = 0 ∧ numsB (cfgN x) = bs := by
  obtain ⟨h1, h2, h3⟩ := read_inv bs hb h
  generalize (readS bs).1 = c at *
  obtain ⟨l, t, r⟩ := c
  simp only at hl ht hr
  subst hl ht hr
  exact ⟨h1, h2⟩
theorem read_fault {bs : List Int} (h : (readS bs).2 ≠ 0) : (readS bs).1 = cf0 := by
  unfold readS at h ⊢
  split
  · rfl
  rename_i h8
  rw [if_neg h8] at h
  split
  · rfl
  rename_i h20
  rw [if_neg h20] at h
  unfold tailV at h ⊢
  unfold endV at h ⊢
  split
  · rfl
  rename_i hf
  rw [if_neg hf] at h
  split
  · rfl
  rename_i hg
  rw [if_neg hg] at h
  split
  · rfl
  rename_i hc
  rw [if_neg hc] at h
  exact absurd rfl h
end Go.Proofs.Ytfbpmngdamaobaa
