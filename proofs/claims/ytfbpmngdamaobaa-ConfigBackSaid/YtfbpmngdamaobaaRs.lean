/- Regions that draw their order, 2: what only reads (in every world that meets a condition) may come at any time; the others come in one order. No condition beyond what 'chkS' reckons. -/
import Derived.Test.YtfbpmngdamaobaaRg
namespace Go.Proofs.Ytfbpmngdamaobaa
open Go.RowKit
section
variable {P : Program} {ops : Array Oper} {S : World → Prop} {Qx : Exit → Act → World → Prop} {Q : Act → Prop}
/-- The walk of those that only read, by their numbers. -/
def HS (P : Program) (ops : Array Oper) (S : World → Prop) (Q : Act → Prop) : List Nat → Act → Prop
  | [], a => Q a
  | i :: r, a => ∃ o v, ops[i]? = some o ∧ YieldsIf P ops S o v a ∧ HS P ops S Q r (a.put o.dst v)
theorem HS.mono {Q' : Act → Prop} (hq : ∀ a, Q a → Q' a) : ∀ {R : List Nat} {a : Act}, HS P ops S Q R a → HS P ops S Q' R a
  | [], _, h => hq _ h
  | _ :: _, _, ⟨o, v, ho, y, h⟩ => ⟨o, v, ho, y, HS.mono hq h⟩
theorem HS.get {p : Prop} (hq : ∀ a, Q a → p) : ∀ {R : List Nat} {a : Act}, HS P ops S Q R a → p
  | [], _, h => hq _ h
  | _ :: _, _, ⟨_, _, _, _, h⟩ => HS.get hq h
theorem HS.front (hsel : ∀ (j : Nat) (o : Oper) cs b, ops[j]? = some o → o.op ≠ .select cs b) {i : Nat} {R2 : List Nat} : ∀ {R1 : List Nat} {a : Act}, HS P ops S Q (R1 ++ i :: R2) a →
    (∀ j ∈ R1, ∀ oj oi, ops[j]? = some oj → ops[i]? = some oi → oj.apart ops oi = true) →
    ∃ o v, ops[i]? = some o ∧ YieldsIf P ops S o v a ∧ HS P ops S Q (R1 ++ R2) (a.put o.dst v)
  | [], _, h, _ => h
  | j :: R1, a, ⟨oj, vj, hj, hy, hr⟩, hap => by
    obtain ⟨oi, v, hoi, y, hh⟩ := HS.front hsel hr (fun k hk => hap k (by simp [hk]))
    obtain ⟨h1, h2, h3⟩ := Oper.apart_spec (hap j (by simp) oj oi hj hoi)
    refine ⟨oi, v, hoi, y.of_same (execOp_put oi (fun cs b => hsel i oi cs b hoi) a oj.dst vj h1).symm (wanted_put oi a oj.dst vj h1).symm, oj, vj, hj, hy.of_same (execOp_put oj (fun cs b => hsel j oj cs b hj) a oi.dst v h3) (wanted_put oj a oi.dst v h3), ?_⟩
    rw [← Act.put_comm a vj v h2]
    exact hh
/-- The walk of the others; the condition holds at each. -/
def wpM (P : Program) (ops : Array Oper) (S : World → Prop) (Qx : Exit → Act → World → Prop) : List Nat → Act → World → Prop
  | [], a, w => S w ∧ Qx .normal a w
  | i :: r, a, w => S w ∧ wpOp P ops Qx i (fun a' w' => wpM P ops S Qx r a' w') a w
theorem wpM.cond : ∀ {T : List Nat} {a : Act} {w : World}, wpM P ops S Qx T a w → S w
  | [], _, _, h => h.1
  | _ :: _, _, _, h => h.1
def chkS (ops : Array Oper) (ks : List Nat) : Bool :=
  Region.noSelect ops &&
  ((List.range ops.size).all fun j => match ops[j]? with | some oj => oj.after.all fun e => !Region.binds .any e || decide (e.on < j) | none => true) &&
  ((List.range ops.size).all fun j => (List.range ops.size).all fun i =>
    if ks.getD j 0 = 0 then (if ks.getD i 0 = 0 then decide (j ≤ i) || waitsT ops 4 j i || apartB ops i j else true)
    else (if ks.getD i 0 = 0 then waitsT ops 4 j i || apartB ops i j else decide (j ≤ i) || waitsT ops 4 j i))
structure FactsS (ops : Array Oper) (ks : List Nat) : Prop where
  sel : ∀ (j : Nat) (o : Oper) cs b, ops[j]? = some o → o.op ≠ .select cs b
  back : ∀ (j : Nat) (o : Oper), ops[j]? = some o → ∀ e ∈ o.after, Region.binds .any e = true → e.on < j
  pair : ∀ i j, i < j → j < ops.size → ks.getD i 0 = 0 → ks.getD j 0 = 0 → waitsT ops 4 j i = true ∨ ∀ oi oj, ops[i]? = some oi → ops[j]? = some oj → oi.apart ops oj = true
  mix : ∀ i t, i < ops.size → t < ops.size → ks.getD i 0 = 0 → ks.getD t 0 ≠ 0 → waitsT ops 4 t i = true ∨ ∀ oi ot, ops[i]? = some oi → ops[t]? = some ot → oi.apart ops ot = true
  chain : ∀ s t, s < t → t < ops.size → ks.getD s 0 ≠ 0 → ks.getD t 0 ≠ 0 → waitsT ops 4 t s = true
theorem FactsS.of_chk {ks : List Nat} (h : chkS ops ks = true) : FactsS ops ks := by
  simp only [chkS, Bool.and_eq_true, List.all_eq_true, List.mem_range] at h
  obtain ⟨⟨h1, h3⟩, h4⟩ := h
  refine ⟨Region.noSelect_spec h1, fun j o ho e he hb => ?_, fun i j hij hj ki kj => ?_, fun i t hi ht ki kt => ?_, fun s t hst ht ks' kt => ?_⟩
  · have := h3 j (Array.getElem?_eq_some_iff.1 ho).1
    rw [ho] at this
    have h10 := Array.all_eq_true_iff_forall_mem.1 this e he
    simp only [hb, Bool.not_true, Bool.false_or, decide_eq_true_eq] at h10
    exact h10
  · have := h4 j hj i (by omega)
    rw [if_pos kj, if_pos ki, Bool.or_eq_true, Bool.or_eq_true, decide_eq_true_eq] at this
    rcases this with (h5 | h5) | h5
    · omega
    · exact .inl h5
    · exact .inr (apartB_spec h5)
  · have := h4 t ht i hi
    rw [if_neg kt, if_pos ki, Bool.or_eq_true] at this
    exact this.imp id apartB_spec
  · have := h4 t ht s (by omega)
    rw [if_neg kt, if_neg ks', Bool.or_eq_true, decide_eq_true_eq] at this
    rcases this with h5 | h5
    · omega
    · exact h5
structure RestS (ops : Array Oper) (ks : List Nat) (listed : Array Bool) (R T : List Nat) : Prop where
  left : ∀ i, listed.getD i true = false ↔ i ∈ R ∨ i ∈ T
  sR : R.Pairwise (· < ·)
  sT : T.Pairwise (· < ·)
  hR : ∀ i ∈ R, i < ops.size ∧ ks.getD i 0 = 0
  hT : ∀ i ∈ T, i < ops.size ∧ ks.getD i 0 ≠ 0
  clos : Closed ops listed
theorem left_set {listed : Array Bool} {i : Nat} {p q : Nat → Prop} (hi : i < listed.size) (h : ∀ j, listed.getD j true = false ↔ p j) (hq : ∀ j, j ≠ i → (p j ↔ q j)) (hn : ¬ q i) (j : Nat) : (listed.setIfInBounds i true).getD j true = false ↔ q j := by
  by_cases hji : j = i
  · subst hji
    constructor
    · intro h0; simp [hi] at h0
    · intro h0; exact absurd h0 hn
  · rw [getD_set_ne true (Ne.symm hji), h j]
    exact hq j hji
theorem RestS.take {ks : List Nat} {listed : Array Bool} {R1 R2 T : List Nat} {i : Nat} (h : RestS ops ks listed (R1 ++ i :: R2) T) (hi : i < listed.size) (hrd : i ∈ Region.ready .any ops listed) : RestS ops ks (listed.setIfInBounds i true) (R1 ++ R2) T := by
  have hs := h.sR
  have hk := (h.hR i (by simp)).2
  simp only [List.pairwise_append, List.pairwise_cons, List.mem_cons] at hs
  obtain ⟨s1, ⟨s2, s3⟩, s4⟩ := hs
  refine ⟨left_set hi h.left (fun j hj => by simp [hj]) ?_, ?_, h.sT, fun j hj => h.hR j (by simp at hj ⊢; rcases hj with hj | hj <;> simp [hj]), h.hT, h.clos.set hrd⟩
  · rintro (h1 | h1)
    · rcases List.mem_append.1 h1 with h1 | h1
      · exact absurd (s4 i h1 i (.inl rfl)) (Nat.lt_irrefl _)
      · exact absurd (s2 i h1) (Nat.lt_irrefl _)
    · exact (h.hT i h1).2 hk
  · rw [List.pairwise_append]
    exact ⟨s1, s3, fun a ha b hb => s4 a ha b (.inr hb)⟩
theorem RestS.takeT {ks : List Nat} {listed : Array Bool} {R T : List Nat} {t : Nat} (h : RestS ops ks listed R (t :: T)) (hi : t < listed.size) (hrd : t ∈ Region.ready .any ops listed) : RestS ops ks (listed.setIfInBounds t true) R T := by
  have hs := h.sT
  have hk := (h.hT t (by simp)).2
  rw [List.pairwise_cons] at hs
  refine ⟨left_set hi h.left (fun j hj => by simp [hj]) ?_, h.sR, hs.2, h.hR, fun j hj => h.hT j (by simp [hj]), h.clos.set hrd⟩
  rintro (h1 | h1)
  · exact hk (h.hR t h1).2
  · exact absurd (hs.1 t h1) (Nat.lt_irrefl _)
/-- While something is left, something may come up. -/
theorem RestS.some_ready {ks : List Nat} {listed : Array Bool} {R T : List Nat} (F : FactsS ops ks) (h : RestS ops ks listed R T) (hsz : listed.size = ops.size) (hne : R ++ T ≠ []) : Region.ready .any ops listed ≠ [] := by
  have key : ∀ n i, i < n → (i ∈ R ∨ i ∈ T) → Region.ready .any ops listed ≠ [] := by
    intro n
    induction n with
    | zero => intro i hi; omega
    | succ n ih =>
      intro i hi hm
      have hlt : i < ops.size := by
        rcases hm with hm | hm
        · exact (h.hR i hm).1
        · exact (h.hT i hm).1
      by_cases hall : ∀ e ∈ ops[i].after, Region.binds .any e = true → listed.getD e.on false = true
      · have hr : i ∈ Region.ready .any ops listed := mem_ready.2 ⟨(h.left i).2 hm, ops[i], Array.getElem?_eq_getElem hlt, hall⟩
        intro h0
        rw [h0] at hr
        cases hr
      · obtain ⟨e, he, hb, hn⟩ : ∃ e, e ∈ ops[i].after ∧ Region.binds .any e = true ∧ ¬ listed.getD e.on false = true := by
          refine Classical.byContradiction fun hno => hall fun e he hb => Classical.byContradiction fun hn => hno ⟨e, he, hb, hn⟩
        have hb' := F.back i ops[i] (Array.getElem?_eq_getElem hlt) e he hb
        have hl : e.on < listed.size := by omega
        refine ih e.on (by omega) ((h.left e.on).1 ?_)
        simp [hl] at hn ⊢
        exact hn
  rcases hm : R with _ | ⟨i, R'⟩
  · rcases hm2 : T with _ | ⟨i, T'⟩
    · rw [hm, hm2] at hne; exact absurd rfl hne
    · exact key (i + 1) i (by omega) (.inr (by rw [hm2]; simp))
  · exact key (i + 1) i (by omega) (.inl (by rw [hm]; simp))
theorem wpAny_steady {ks : List Nat} (F : FactsS ops ks) (hQ : ∀ c (a : Act) d v w, Qx (.panic c) (a.put d v) w → Qx (.panic c) a w) : ∀ (fuel : Nat) (listed : Array Bool) (R T : List Nat) (a : Act) (w : World),
    RestS ops ks listed R T → listed.size = ops.size → fuel = R.length + T.length →
    HS P ops S (fun a' => wpM P ops S Qx T a' w) R a → wpAny P .any ops Qx fuel listed a w := by
  intro fuel
  induction fuel with
  | zero =>
    intro listed R T a w hr hsz hf h
    have hR : R = [] := List.eq_nil_of_length_eq_zero (by omega)
    have hT : T = [] := List.eq_nil_of_length_eq_zero (by omega)
    subst hR hT
    refine ⟨?_, h.2⟩
    rcases hrd : Region.ready .any ops listed with _ | ⟨i, l⟩
    · rfl
    · have : i ∈ Region.ready .any ops listed := by rw [hrd]; simp
      have := (hr.left i).1 (mem_ready.1 this).1
      simp at this
  | succ fuel ih =>
    intro listed R T a w hr hsz hf h
    have hS : S w := HS.get (fun _ h => h.cond) h
    refine ⟨fun h0 => absurd h0 (hr.some_ready F hsz (by intro h1; have := congrArg List.length h1; rw [List.length_append, List.length_nil] at this; omega)), fun i hi => ?_⟩
    have hun := (mem_ready.1 hi).1
    have hlt : i < listed.size := by
      rcases Nat.lt_or_ge i listed.size with h' | h'
      · exact h'
      · simp [Array.getElem?_eq_none h'] at hun
    rcases (hr.left i).1 hun with hm | hm
    · obtain ⟨R1, R2, rfl⟩ := List.append_of_mem hm
      have hs := hr.sR
      simp only [List.pairwise_append, List.pairwise_cons, List.mem_cons] at hs
      obtain ⟨o, v, ho, hy, hh⟩ := HS.front F.sel h (fun j hj oj oi hoj hoi => by
        have hji : j < i := hs.2.2 j hj i (.inl rfl)
        rcases F.pair j i hji (hr.hR i hm).1 (hr.hR j (by simp [hj])).2 (hr.hR i hm).2 with h1 | h1
        · exact absurd hi (not_ready hr.clos h1 ((hr.left j).2 (.inl (by simp [hj]))))
        · exact h1 oj oi hoj hoi)
      exact hy.wpOp ho hS (ih _ _ _ _ _ (hr.take hlt hi) (by simpa using hsz) (by simp at hf ⊢; omega) hh)
    · cases T with
      | nil => cases hm
      | cons t T' =>
        have hit : i = t := by
          rcases List.mem_cons.1 hm with h1 | h1
          · exact h1
          · have hs := hr.sT
            rw [List.pairwise_cons] at hs
            exact absurd hi (not_ready hr.clos (F.chain t i (hs.1 i h1) (hr.hT i hm).1 (hr.hT t (by simp)).2 (hr.hT i hm).2) ((hr.left t).2 (.inr (by simp))))
        subst hit
        have hi' := hr.hT i hm
        have key : ∀ {R : List Nat} {a : Act}, (∀ j ∈ R, j < ops.size ∧ ks.getD j 0 = 0) → (∀ j ∈ R, listed.getD j true = false) → HS P ops S (fun a' => wpM P ops S Qx (i :: T') a' w) R a →
            wpOp P ops Qx i (fun a'' w'' => HS P ops S (fun a' => wpM P ops S Qx T' a' w'') R a'') a w := by
          intro R
          induction R with
          | nil =>
            intro a _ _ h
            exact h.2
          | cons j R ihR =>
            intro a hn1 hl1 ⟨oj, v, hoj, hy, hh⟩
            have h1 := ihR (fun k hk => hn1 k (by simp [hk])) (fun k hk => hl1 k (by simp [hk])) hh
            have hot : ops[i]? = some ops[i] := Array.getElem?_eq_getElem hi'.1
            have hap : oj.apart ops ops[i] = true := by
              rcases F.mix j i (hn1 j (by simp)).1 hi'.1 (hn1 j (by simp)).2 hi'.2 with h2 | h2
              · exact absurd hi (not_ready hr.clos h2 (hl1 j (by simp)))
              · exact h2 oj _ hoj hot
            exact wpOp_mono (fun a' w' ⟨hy', hh'⟩ => ⟨oj, v, hoj, hy', hh'⟩) (wpOp_putIf hot hap (fun cs b => F.sel j oj cs b hoj) (fun cs b => F.sel i _ cs b hot) (fun c a w => hQ c a _ _ w) hy h1)
        exact wpOp_mono (fun a'' w'' hh => ih _ _ _ _ _ (hr.takeT hlt hi) (by simpa using hsz) (by simp at hf ⊢; omega) hh) (key hr.hR (fun j hj => (hr.left j).2 (.inl hj)) h)
/-- The walk over the operations written out: those that only read .. -/
def HLS (P : Program) (ops : Array Oper) (S : World → Prop) (Q : Act → Prop) : List Oper → List Nat → Act → Prop
  | [], _, a => Q a
  | o :: r, k :: ks, a => (k = 0 ∧ ∃ v, YieldsIf P ops S o v a ∧ HLS P ops S Q r ks (a.put o.dst v)) ∨ (k ≠ 0 ∧ HLS P ops S Q r ks a)
  | _ :: _, [], _ => False
def QK (K : Act → World → Prop) : Exit → Act → World → Prop
  | .normal, a, w => K a w
  | _, _, _ => False
/-- .. and the others. -/
def wpMS (P : Program) (ops : Array Oper) (S : World → Prop) (K : Act → World → Prop) : List Oper → List Nat → Act → World → Prop
  | [], _, a, w => S w ∧ K a w
  | o :: r, k :: ks, a, w => if k = 0 then wpMS P ops S K r ks a w else S w ∧ wpList P ops (QK (wpMS P ops S K r ks)) [o] a w
  | _ :: _, [], _, _ => False
def readers (ks : List Nat) (k n : Nat) : List Nat := (List.range' k n).filter (fun i => ks.getD i 0 == 0)
def others (ks : List Nat) (k n : Nat) : List Nat := (List.range' k n).filter (fun i => ks.getD i 0 != 0)
theorem HLS.hs {ks0 : List Nat} : ∀ (l : List Oper) (ks : List Nat) (k : Nat) (a : Act), (∀ j o, l[j]? = some o → ops[k + j]? = some o) → (∀ j x, ks[j]? = some x → ks0.getD (k + j) 0 = x) → HLS P ops S Q l ks a → HS P ops S Q (readers ks0 k l.length) a
  | [], _, _, _, _, _, h => h
  | o :: l, [], _, _, _, _, h => h.elim
  | o :: l, x :: ks, k, a, hl, hk, h => by
    have h0 : ops[k]? = some o := hl 0 o rfl
    have hx : ks0.getD k 0 = x := hk 0 x rfl
    have ih := fun a => HLS.hs (ks0 := ks0) l ks (k + 1) a (fun j o ho => by rw [Nat.add_assoc, Nat.add_comm 1 j]; exact hl (j + 1) o (by simpa using ho)) (fun j y hy => by rw [Nat.add_assoc, Nat.add_comm 1 j]; exact hk (j + 1) y (by simpa using hy))
    unfold readers at ih ⊢
    rw [List.length_cons, List.range'_succ]
    rcases h with ⟨h1, v, h2, h3⟩ | ⟨h1, h3⟩
    · rw [List.filter_cons_of_pos (by rw [hx, h1]; rfl)]
      exact ⟨o, v, h0, h2, ih _ h3⟩
    · rw [List.filter_cons_of_neg (by rw [hx]; simpa using h1)]
      exact ih _ h3
theorem one_op {i : Nat} {o : Oper} (ho : ops[i]? = some o) {K K' : Act → World → Prop} (hK : ∀ a w, K a w → K' a w) {a : Act} {w : World} (h : wpList P ops (QK K) [o] a w) : wpOp P ops Qx i K' a w := by
  unfold wpOp
  simp only [ho]
  unfold wpList at h
  by_cases hw : Region.wanted o (yielded ops a.tmps) = true
  · rw [if_pos hw] at h ⊢
    rcases h with h | ⟨_, _, _, h⟩
    · refine .inl ?_
      unfold Oper.wp at h ⊢
      generalize (execOp a.eval o).run P w = r at h ⊢
      cases r with
      | ok n w' =>
        cases n <;> simp only [Oper.upon] at h ⊢
        case value u => exact hK _ _ h
        case skip => exact hK _ _ h
        case defer d => exact hK _ _ h
        case enter f args =>
          refine Calls.mono h fun e w'' he => ?_
          cases e with
          | returned u => exact hK _ _ he
          | panicked c => exact he.elim
          | outgrown => obtain ⟨_, _, h2⟩ := he; exact h2.elim
        case row row args => exact Rows.mono h fun u w'' he => hK _ _ he
      | halt x w' =>
        cases x <;> simp only [Oper.upon] at h ⊢
        case panic u => exact h.elim
    · exact h.elim
  · rw [if_neg hw] at h ⊢
    exact hK _ _ h
theorem wpMS.toM {ks0 : List Nat} {K : Act → World → Prop} (hK : ∀ a w, K a w → Qx .normal a w) : ∀ (l : List Oper) (ks : List Nat) (k : Nat) (a : Act) (w : World), (∀ j o, l[j]? = some o → ops[k + j]? = some o) → (∀ j x, ks[j]? = some x → ks0.getD (k + j) 0 = x) → wpMS P ops S K l ks a w → wpM P ops S Qx (others ks0 k l.length) a w
  | [], _, _, _, _, _, _, h => ⟨h.1, hK _ _ h.2⟩
  | o :: l, [], _, _, _, _, _, h => h.elim
  | o :: l, x :: ks, k, a, w, hl, hk, h => by
    have h0 : ops[k]? = some o := hl 0 o rfl
    have hx : ks0.getD k 0 = x := hk 0 x rfl
    have ih := fun a w => wpMS.toM (ks0 := ks0) hK l ks (k + 1) a w (fun j o ho => by rw [Nat.add_assoc, Nat.add_comm 1 j]; exact hl (j + 1) o (by simpa using ho)) (fun j y hy => by rw [Nat.add_assoc, Nat.add_comm 1 j]; exact hk (j + 1) y (by simpa using hy))
    unfold others at ih ⊢
    rw [List.length_cons, List.range'_succ]
    unfold wpMS at h
    by_cases hx0 : x = 0
    · rw [if_pos hx0] at h
      rw [List.filter_cons_of_neg (by rw [hx, hx0]; decide)]
      exact ih _ _ h
    · rw [if_neg hx0] at h
      rw [List.filter_cons_of_pos (by rw [hx]; simpa using hx0)]
      exact ⟨h.1, one_op h0 (fun a w h => ih a w h) h.2⟩
/-- **The region's law, 2.** -/
theorem wp_region_s {id : Nat} (ks : List Nat) (S : World → Prop) {Q : Exit → Act → World → Prop} {a : Act} {w : World} {l : List Oper} (hm : P.follows .mixedOrders = true) (hB : chkS l.toArray ks = true)
    (h : HLS P l.toArray S (fun a' => ∀ w', Ext w w' → ∀ K : Act → World → Prop, (∀ a w, Q .normal a w → K a w) → wpMS P l.toArray S K l ks a' w') l ks a) : (Code.region id l.toArray true).wp P Q a w := by
  have F := FactsS.of_chk hB
  refine Code.wp_mono (Q := QN Q) (fun e a w h => QN.le h) (wp_region_any hm ?_)
  have hh := HLS.hs (ks0 := ks) l ks 0 a (fun j o ho => by simpa using ho) (fun j x hx => by simp [hx]) h
  have h2 := hh.mono (Q' := fun a' => wpM P l.toArray S (QN Q) (others ks 0 l.length) a' w.drew) (fun a' h' => wpMS.toM (ks0 := ks) (fun _ _ h => h) l ks 0 a' w.drew (fun j o ho => by simpa using ho) (fun j x hx => by simp [hx]) (h' w.drew (Ext.refl w).drew (fun a w => QN Q .normal a w) (fun _ _ h => h)))
  refine wpAny_steady (S := S) F (fun c a d v w h => h) _ _ (readers ks 0 l.length) (others ks 0 l.length) a w.drew ⟨fun i => ?_, ?_, ?_, fun i hi => ?_, fun i hi => ?_, fun k o hk => ?_⟩ (by simp) ?_ h2
  · simp only [readers, others, List.mem_filter, List.mem_range'_1, Array.getD_eq_getD_getElem?, Array.getElem?_replicate, List.size_toArray]
    constructor
    · intro h0
      by_cases hi : i < l.length
      · by_cases hk : ks.getD i 0 = 0
        · exact .inl ⟨by omega, by simpa using hk⟩
        · exact .inr ⟨by omega, by simpa using hk⟩
      · simp [hi] at h0
    · intro h0
      have hi : i < l.length := by omega
      simp [hi]
  · exact List.Pairwise.filter _ List.pairwise_lt_range'
  · exact List.Pairwise.filter _ List.pairwise_lt_range'
  · simp only [readers, List.mem_filter, List.mem_range'_1, List.size_toArray] at hi ⊢
    exact ⟨by omega, by simpa using hi.2⟩
  · simp only [others, List.mem_filter, List.mem_range'_1, List.size_toArray] at hi ⊢
    exact ⟨by omega, by simpa using hi.2⟩
  · simp only [Array.getD_eq_getD_getElem?, Array.getElem?_replicate] at hk
    split at hk <;> simp at hk
  · have : ∀ (p : Nat → Bool) (L : List Nat), L.length = (L.filter p).length + (L.filter (fun i => !p i)).length := by
      intro p L
      induction L with
      | nil => rfl
      | cons x L ih =>
        by_cases hp : p x = true
        · rw [List.filter_cons_of_pos hp, List.filter_cons_of_neg (by simp [hp])]; simp; omega
        · rw [List.filter_cons_of_neg hp, List.filter_cons_of_pos (by simp at hp; simp [hp])]; simp; omega
    have h3 := this (fun i => ks.getD i 0 == 0) (List.range' 0 l.length)
    simp only [List.length_range', List.size_toArray] at h3 ⊢
    exact h3
theorem hls_take {o : Oper} {r : List Oper} {ks : List Nat} {a : Act}
    (h : ∀ K : Act → Prop, (∀ a, HLS P ops S Q r ks a → K a) → if Region.wanted o (yielded ops a.tmps) then ∃ v, (∀ x, S x → (execOp a.eval o).run P x = .ok (.value v) x) ∧ K (a.put o.dst v) else K (a.put o.dst undef)) : HLS P ops S Q (o :: r) (0 :: ks) a := by
  have := h _ (fun _ h => h)
  refine .inl ⟨rfl, ?_⟩
  by_cases hw : Region.wanted o (yielded ops a.tmps) = true
  · rw [if_pos hw] at this
    obtain ⟨v, h1, h2⟩ := this
    exact ⟨v, .inl ⟨hw, h1⟩, h2⟩
  · rw [if_neg hw] at this
    exact ⟨undef, .inr ⟨by simpa using hw, rfl⟩, this⟩
theorem hls_skip {o : Oper} {r : List Oper} {ks : List Nat} {a : Act} {k : Nat} (hk : k ≠ 0) (h : HLS P ops S Q r ks a) : HLS P ops S Q (o :: r) (k :: ks) a := .inr ⟨hk, h⟩
theorem hls_nil {ks : List Nat} {a : Act} (h : Q a) : HLS P ops S Q [] ks a := h
theorem ms_pass {K : Act → World → Prop} {o : Oper} {r : List Oper} {ks : List Nat} {a : Act} {w : World} (h : wpMS P ops S K r ks a w) : wpMS P ops S K (o :: r) (0 :: ks) a w := by
  unfold wpMS
  rw [if_pos rfl]
  exact h
theorem ms_do {K : Act → World → Prop} {o : Oper} {r : List Oper} {ks : List Nat} {a : Act} {w : World} {k : Nat} (hk : k ≠ 0) (hS : S w) (h : ∀ K' : Exit → Act → World → Prop, (∀ a' w', wpMS P ops S K r ks a' w' → K' .normal a' w') → wpList P ops K' [o] a w) : wpMS P ops S K (o :: r) (k :: ks) a w := by
  unfold wpMS
  rw [if_neg hk]
  exact ⟨hS, h _ (fun _ _ h => h)⟩
theorem ms_nil {K : Act → World → Prop} {ks : List Nat} {a : Act} {w : World} (hS : S w) (h : K a w) : wpMS P ops S K [] ks a w := ⟨hS, h⟩
/-- A world in which these blocks are as they were in W. -/
structure Same (W : World) (bl : List Nat) where
  val : World
  same : ∀ b ∈ bl, val.heap[b]? = W.heap[b]?
instance {W : World} {bl : List Nat} : Nonempty (Same W bl) := ⟨⟨W, fun _ _ => rfl⟩⟩
theorem Same.cell {W : World} {bl : List Nat} (x : Same W bl) (b o : Nat) (h : b ∈ bl) : x.1.cell? ⟨b, o, none⟩ = W.cell? ⟨b, o, none⟩ := World.cell?_of_block (a := ⟨b, o, none⟩) (x.2 b h)
theorem Same.frozen {W : World} {bl : List Nat} (x : Same W bl) (b o : Nat) (h : b ∈ bl) : x.1.frozen? ⟨b, o, none⟩ = W.frozen? ⟨b, o, none⟩ := World.frozen?_of_block (a := ⟨b, o, none⟩) (x.2 b h)
theorem hls_same {W : World} {bl : List Nat} {o : Oper} {r : List Oper} {ks : List Nat} {a : Act}
    (h : ∀ K : Act → Prop, (∀ a, HLS P ops (fun x => ∀ b ∈ bl, x.heap[b]? = W.heap[b]?) Q r ks a → K a) → if Region.wanted o (yielded ops a.tmps) then ∃ v, (∀ x : Same W bl, (execOp a.eval o).run P x.1 = .ok (.value v) x.1) ∧ K (a.put o.dst v) else K (a.put o.dst undef)) : HLS P ops (fun x => ∀ b ∈ bl, x.heap[b]? = W.heap[b]?) Q (o :: r) (0 :: ks) a :=
  hls_take (fun K hK => by
    have := h K hK
    by_cases hw : Region.wanted o (yielded ops a.tmps) = true
    · rw [if_pos hw] at this ⊢
      obtain ⟨v, h1, h2⟩ := this
      exact ⟨v, fun x hx => h1 ⟨x, hx⟩, h2⟩
    · rw [if_neg hw] at this ⊢
      exact this)
end
end Go.Proofs.Ytfbpmngdamaobaa
