/- Regions that draw their order, 3 and 5. No condition beyond what is reckoned. -/
import Derived.Test.YtfbpmngdamaobaaRs
/- Regions that draw their order, 3: what only reads may come at any time; of the others each that has nothing ahead of it. No condition beyond what 'chkT' reckons. -/
namespace Go.Proofs.Ytfbpmngdamaobaa
open Go.RowKit
section
variable {P : Program} {ops : Array Oper} {S : World → Prop} {Qx : Exit → Act → World → Prop} {Q : Act → Prop}
/-- The walk of the others, whatever order they take. -/
def wpT (P : Program) (ops : Array Oper) (S : World → Prop) (Qx : Exit → Act → World → Prop) : Nat → List Nat → Act → World → Prop
  | 0, _, a, w => S w ∧ Qx .normal a w
  | n + 1, T, a, w => S w ∧ ∀ t ∈ T, (∀ s ∈ T, s ≠ t → waitsT ops 4 t s = false) → wpOp P ops Qx t (fun a' w' => wpT P ops S Qx n (T.erase t) a' w') a w
theorem wpT.cond : ∀ {n : Nat} {T : List Nat} {a : Act} {w : World}, wpT P ops S Qx n T a w → S w
  | 0, _, _, _, h => h.1
  | _ + 1, _, _, _, h => h.1
def chkT (ops : Array Oper) (ks : List Nat) : Bool :=
  Region.noSelect ops &&
  ((List.range ops.size).all fun j => match ops[j]? with | some oj => oj.after.all fun e => !Region.binds .any e || decide (e.on < j) | none => true) &&
  ((List.range ops.size).all fun j => (List.range ops.size).all fun i =>
    if ks.getD j 0 = 0 then (if ks.getD i 0 = 0 then decide (j ≤ i) || waitsT ops 4 j i || apartB ops i j else true)
    else (if ks.getD i 0 = 0 then waitsT ops 4 j i || apartB ops i j else true))
structure FactsT (ops : Array Oper) (ks : List Nat) : Prop where
  sel : ∀ (j : Nat) (o : Oper) cs b, ops[j]? = some o → o.op ≠ .select cs b
  back : ∀ (j : Nat) (o : Oper), ops[j]? = some o → ∀ e ∈ o.after, Region.binds .any e = true → e.on < j
  pair : ∀ i j, i < j → j < ops.size → ks.getD i 0 = 0 → ks.getD j 0 = 0 → waitsT ops 4 j i = true ∨ ∀ oi oj, ops[i]? = some oi → ops[j]? = some oj → oi.apart ops oj = true
  mix : ∀ i t, i < ops.size → t < ops.size → ks.getD i 0 = 0 → ks.getD t 0 ≠ 0 → waitsT ops 4 t i = true ∨ ∀ oi ot, ops[i]? = some oi → ops[t]? = some ot → oi.apart ops ot = true
theorem FactsT.of_chk {ks : List Nat} (h : chkT ops ks = true) : FactsT ops ks := by
  simp only [chkT, Bool.and_eq_true, List.all_eq_true, List.mem_range] at h
  obtain ⟨⟨h1, h3⟩, h4⟩ := h
  refine ⟨Region.noSelect_spec h1, fun j o ho e he hb => ?_, fun i j hij hj ki kj => ?_, fun i t hi ht ki kt => ?_⟩
  · have := h3 j (Array.getElem?_eq_some_iff.1 ho).1
    rw [ho] at this
    have h10 := Array.all_eq_true_iff_forall_mem.1 this e he
    simp only [hb, Bool.not_true, Bool.false_or, decide_eq_true_eq] at h10
    exact h10
  · have := h4 j hj i (by omega)
    rw [if_pos kj, if_pos ki, Bool.or_eq_true, Bool.or_eq_true, decide_eq_true_eq] at this
    rcases this with (h5 | h5) | h5
    · omega
    · exact .inl h5
    · exact .inr (apartB_spec h5)
  · have := h4 t ht i hi
    rw [if_neg kt, if_pos ki, Bool.or_eq_true] at this
    exact this.imp id apartB_spec
theorem RestS.takeE {ks : List Nat} {listed : Array Bool} {R T : List Nat} {t : Nat} (h : RestS ops ks listed R T) (ht : t ∈ T) (hi : t < listed.size) (hrd : t ∈ Region.ready .any ops listed) : RestS ops ks (listed.setIfInBounds t true) R (T.erase t) := by
  have hk := (h.hT t ht).2
  have hnd : T.Nodup := h.sT.imp (fun hab => Nat.ne_of_lt hab)
  refine ⟨left_set hi h.left (fun j hj => ?_) ?_, h.sR, h.sT.sublist List.erase_sublist, h.hR, fun j hj => h.hT j (List.mem_of_mem_erase hj), h.clos.set hrd⟩
  · rw [List.mem_erase_of_ne hj]
  · rintro (h1 | h1)
    · exact hk (h.hR t h1).2
    · exact (List.Nodup.not_mem_erase hnd) h1
theorem some_readyT {ks : List Nat} {listed : Array Bool} {R T : List Nat} (F : FactsT ops ks) (h : RestS ops ks listed R T) (hsz : listed.size = ops.size) (hne : R ++ T ≠ []) : Region.ready .any ops listed ≠ [] := by
  have key : ∀ n i, i < n → (i ∈ R ∨ i ∈ T) → Region.ready .any ops listed ≠ [] := by
    intro n
    induction n with
    | zero => intro i hi; omega
    | succ n ih =>
      intro i hi hm
      have hlt : i < ops.size := by
        rcases hm with hm | hm
        · exact (h.hR i hm).1
        · exact (h.hT i hm).1
      by_cases hall : ∀ e ∈ ops[i].after, Region.binds .any e = true → listed.getD e.on false = true
      · have hr : i ∈ Region.ready .any ops listed := mem_ready.2 ⟨(h.left i).2 hm, ops[i], Array.getElem?_eq_getElem hlt, hall⟩
        intro h0
        rw [h0] at hr
        cases hr
      · obtain ⟨e, he, hb, hn⟩ : ∃ e, e ∈ ops[i].after ∧ Region.binds .any e = true ∧ ¬ listed.getD e.on false = true := by
          refine Classical.byContradiction fun hno => hall fun e he hb => Classical.byContradiction fun hn => hno ⟨e, he, hb, hn⟩
        have hb' := F.back i ops[i] (Array.getElem?_eq_getElem hlt) e he hb
        have hl : e.on < listed.size := by omega
        refine ih e.on (by omega) ((h.left e.on).1 ?_)
        simp [hl] at hn ⊢
        exact hn
  rcases hm : R with _ | ⟨i, R'⟩
  · rcases hm2 : T with _ | ⟨i, T'⟩
    · rw [hm, hm2] at hne; exact absurd rfl hne
    · exact key (i + 1) i (by omega) (.inr (by rw [hm2]; simp))
  · exact key (i + 1) i (by omega) (.inl (by rw [hm]; simp))
theorem wpAny_tree {ks : List Nat} (F : FactsT ops ks) (hQ : ∀ c (a : Act) d v w, Qx (.panic c) (a.put d v) w → Qx (.panic c) a w) : ∀ (fuel : Nat) (listed : Array Bool) (R T : List Nat) (a : Act) (w : World),
    RestS ops ks listed R T → listed.size = ops.size → fuel = R.length + T.length →
    HS P ops S (fun a' => wpT P ops S Qx T.length T a' w) R a → wpAny P .any ops Qx fuel listed a w := by
  intro fuel
  induction fuel with
  | zero =>
    intro listed R T a w hr hsz hf h
    have hR : R = [] := List.eq_nil_of_length_eq_zero (by omega)
    have hT : T = [] := List.eq_nil_of_length_eq_zero (by omega)
    subst hR hT
    refine ⟨?_, h.2⟩
    rcases hrd : Region.ready .any ops listed with _ | ⟨i, l⟩
    · rfl
    · have : i ∈ Region.ready .any ops listed := by rw [hrd]; simp
      have := (hr.left i).1 (mem_ready.1 this).1
      simp at this
  | succ fuel ih =>
    intro listed R T a w hr hsz hf h
    have hS : S w := HS.get (fun _ h => h.cond) h
    refine ⟨fun h0 => absurd h0 (some_readyT F hr hsz (by intro h1; have := congrArg List.length h1; rw [List.length_append, List.length_nil] at this; omega)), fun i hi => ?_⟩
    have hun := (mem_ready.1 hi).1
    have hlt : i < listed.size := by
      rcases Nat.lt_or_ge i listed.size with h' | h'
      · exact h'
      · simp [Array.getElem?_eq_none h'] at hun
    rcases (hr.left i).1 hun with hm | hm
    · obtain ⟨R1, R2, rfl⟩ := List.append_of_mem hm
      have hs := hr.sR
      simp only [List.pairwise_append, List.pairwise_cons, List.mem_cons] at hs
      obtain ⟨o, v, ho, hy, hh⟩ := HS.front F.sel h (fun j hj oj oi hoj hoi => by
        have hji : j < i := hs.2.2 j hj i (.inl rfl)
        rcases F.pair j i hji (hr.hR i hm).1 (hr.hR j (by simp [hj])).2 (hr.hR i hm).2 with h1 | h1
        · exact absurd hi (not_ready hr.clos h1 ((hr.left j).2 (.inl (by simp [hj]))))
        · exact h1 oj oi hoj hoi)
      exact hy.wpOp ho hS (ih _ _ _ _ _ (hr.take hlt hi) (by simpa using hsz) (by simp at hf ⊢; omega) hh)
    · have hmin : ∀ s ∈ T, s ≠ i → waitsT ops 4 i s = false := fun s hs _ => by
        cases hw : waitsT ops 4 i s with
        | false => rfl
        | true => exact absurd hi (not_ready hr.clos hw ((hr.left s).2 (.inr hs)))
      obtain ⟨n, hn⟩ : ∃ n, T.length = n + 1 := ⟨T.length - 1, by have := List.length_pos_of_mem hm; omega⟩
      have hi' := hr.hT i hm
      rw [hn] at h
      have key : ∀ {R : List Nat} {a : Act}, (∀ j ∈ R, j < ops.size ∧ ks.getD j 0 = 0) → (∀ j ∈ R, listed.getD j true = false) → HS P ops S (fun a' => wpT P ops S Qx (n + 1) T a' w) R a →
          wpOp P ops Qx i (fun a'' w'' => HS P ops S (fun a' => wpT P ops S Qx n (T.erase i) a' w'') R a'') a w := by
        intro R
        induction R with
        | nil =>
          intro a _ _ h
          exact h.2 i hm hmin
        | cons j R ihR =>
          intro a hn1 hl1 ⟨oj, v, hoj, hy, hh⟩
          have h1 := ihR (fun k hk => hn1 k (by simp [hk])) (fun k hk => hl1 k (by simp [hk])) hh
          have hot : ops[i]? = some ops[i] := Array.getElem?_eq_getElem hi'.1
          have hap : oj.apart ops ops[i] = true := by
            rcases F.mix j i (hn1 j (by simp)).1 hi'.1 (hn1 j (by simp)).2 hi'.2 with h2 | h2
            · exact absurd hi (not_ready hr.clos h2 (hl1 j (by simp)))
            · exact h2 oj _ hoj hot
          exact wpOp_mono (fun a' w' ⟨hy', hh'⟩ => ⟨oj, v, hoj, hy', hh'⟩) (wpOp_putIf hot hap (fun cs b => F.sel j oj cs b hoj) (fun cs b => F.sel i _ cs b hot) (fun c a w => hQ c a _ _ w) hy h1)
      have hel : (T.erase i).length = n := by rw [List.length_erase_of_mem hm]; omega
      refine wpOp_mono (fun a'' w'' hh => ih _ _ _ _ _ (hr.takeE hm hlt hi) (by simpa using hsz) (by omega) ?_) (key hr.hR (fun j hj => (hr.left j).2 (.inl hj)) h)
      rw [hel]
      exact hh
/-- **The region's law, 3.** -/
theorem wp_region_t {id : Nat} (ks : List Nat) (S : World → Prop) (n : Nat) (T : List Nat) {Q : Exit → Act → World → Prop} {a : Act} {w : World} {l : List Oper} (hm : P.follows .mixedOrders = true) (hB : chkT l.toArray ks = true) (hn : T.length = n) (hT : others ks 0 l.length = T)
    (h : HLS P l.toArray S (fun a' => ∀ w', Ext w w' → ∀ Qy : Exit → Act → World → Prop, (∀ a w, Q .normal a w → Qy .normal a w) → wpT P l.toArray S Qy n T a' w') l ks a) : (Code.region id l.toArray true).wp P Q a w := by
  subst hT hn
  have F := FactsT.of_chk hB
  refine Code.wp_mono (Q := QN Q) (fun e a w h => QN.le h) (wp_region_any hm ?_)
  have hh := HLS.hs (ks0 := ks) l ks 0 a (fun j o ho => by simpa using ho) (fun j x hx => by simp [hx]) h
  have h2 := hh.mono (Q' := fun a' => wpT P l.toArray S (QN Q) (others ks 0 l.length).length (others ks 0 l.length) a' w.drew) (fun a' h' => h' w.drew (Ext.refl w).drew _ (fun _ _ h => h))
  refine wpAny_tree (S := S) F (fun c a d v w h => h) _ _ (readers ks 0 l.length) (others ks 0 l.length) a w.drew ⟨fun i => ?_, ?_, ?_, fun i hi => ?_, fun i hi => ?_, fun k o hk => ?_⟩ (by simp) ?_ h2
  · simp only [readers, others, List.mem_filter, List.mem_range'_1, Array.getD_eq_getD_getElem?, Array.getElem?_replicate, List.size_toArray]
    constructor
    · intro h0
      by_cases hi : i < l.length
      · by_cases hk : ks.getD i 0 = 0
        · exact .inl ⟨by omega, by simpa using hk⟩
        · exact .inr ⟨by omega, by simpa using hk⟩
      · simp [hi] at h0
    · intro h0
      have hi : i < l.length := by omega
      simp [hi]
  · exact List.Pairwise.filter _ List.pairwise_lt_range'
  · exact List.Pairwise.filter _ List.pairwise_lt_range'
  · simp only [readers, List.mem_filter, List.mem_range'_1, List.size_toArray] at hi ⊢
    exact ⟨by omega, by simpa using hi.2⟩
  · simp only [others, List.mem_filter, List.mem_range'_1, List.size_toArray] at hi ⊢
    exact ⟨by omega, by simpa using hi.2⟩
  · simp only [Array.getD_eq_getD_getElem?, Array.getElem?_replicate] at hk
    split at hk <;> simp at hk
  · have : ∀ (p : Nat → Bool) (L : List Nat), L.length = (L.filter p).length + (L.filter (fun i => !p i)).length := by
      intro p L
      induction L with
      | nil => rfl
      | cons x L ih =>
        by_cases hp : p x = true
        · rw [List.filter_cons_of_pos hp, List.filter_cons_of_neg (by simp [hp])]; simp; omega
        · rw [List.filter_cons_of_neg hp, List.filter_cons_of_pos (by simp at hp; simp [hp])]; simp; omega
    have h3 := this (fun i => ks.getD i 0 == 0) (List.range' 0 l.length)
    simp only [List.length_range', List.size_toArray] at h3 ⊢
    exact h3
/-- Those that may come next. -/
def headsT (ops : Array Oper) (T : List Nat) : List Nat := T.filter (fun t => T.all (fun s => s == t || !waitsT ops 4 t s))
theorem tree_step {n : Nat} {T : List Nat} {a : Act} {w : World} (L : List Nat) (hL : headsT ops T = L) (hS : S w) (h : ∀ t ∈ L, wpOp P ops Qx t (fun a' w' => wpT P ops S Qx n (T.erase t) a' w') a w) : wpT P ops S Qx (n + 1) T a w := by
  refine ⟨hS, fun t ht hmin => h t ?_⟩
  rw [← hL]
  refine List.mem_filter.2 ⟨ht, List.all_eq_true.2 fun s hs => ?_⟩
  by_cases e : s = t
  · simp [e]
  · simp [hmin s hs e]
theorem tree_op {n i : Nat} {o : Oper} {T : List Nat} {a : Act} {w : World} (ho : ops[i]? = some o) (h : ∀ K' : Exit → Act → World → Prop, (∀ a' w', wpT P ops S Qx n T a' w' → K' .normal a' w') → wpList P ops K' [o] a w) : wpOp P ops Qx i (fun a' w' => wpT P ops S Qx n T a' w') a w :=
  one_op ho (fun _ _ h => h) (h _ (fun _ _ h => h))
theorem tree_one {n : Nat} {T T' : List Nat} {a : Act} {w : World} (i : Nat) (hL : headsT ops T = [i]) (hT : T.erase i = T') (hS : S w) (h : wpOp P ops Qx i (fun a' w' => wpT P ops S Qx n T' a' w') a w) : wpT P ops S Qx (n + 1) T a w :=
  tree_step [i] hL hS (fun t ht => by
    obtain rfl := List.mem_singleton.1 ht
    rw [hT]
    exact h)
theorem tree_fork {n : Nat} {T T1 T2 : List Nat} {a : Act} {w : World} (i j : Nat) (hL : headsT ops T = [i, j]) (hT1 : T.erase i = T1) (hT2 : T.erase j = T2) (hS : S w) (h1 : wpOp P ops Qx i (fun a' w' => wpT P ops S Qx n T1 a' w') a w) (h2 : wpOp P ops Qx j (fun a' w' => wpT P ops S Qx n T2 a' w') a w) : wpT P ops S Qx (n + 1) T a w :=
  tree_step [i, j] hL hS (fun t ht => by
    rcases List.mem_cons.1 ht with rfl | ht
    · rw [hT1]; exact h1
    · obtain rfl := List.mem_singleton.1 ht
      rw [hT2]; exact h2)
theorem tree_end {T : List Nat} {a : Act} {w : World} (hS : S w) (h : Qx .normal a w) : wpT P ops S Qx 0 T a w := ⟨hS, h⟩
end
end Go.Proofs.Ytfbpmngdamaobaa
/- Regions that draw their order, 5: as 3, but what is done last (it waits for all that only reads) may turn what was read. No condition beyond what 'chkU' reckons. -/
namespace Go.Proofs.Ytfbpmngdamaobaa
open Go.RowKit
section
variable {P : Program} {ops : Array Oper} {S : World → Prop} {Qx : Exit → Act → World → Prop} {Q : Act → Prop}
/-- The walk of the others, whatever order they take; behind the last one nothing is read. -/
def wpU (P : Program) (ops : Array Oper) (S : World → Prop) (Qx : Exit → Act → World → Prop) : Nat → List Nat → Act → World → Prop
  | 0, _, a, w => Qx .normal a w
  | n + 1, T, a, w => S w ∧ ∀ t ∈ T, (∀ s ∈ T, s ≠ t → waitsT ops 4 t s = false) → wpOp P ops Qx t (fun a' w' => wpU P ops S Qx n (T.erase t) a' w') a w
theorem wpU.cond {n : Nat} {T : List Nat} {a : Act} {w : World} (h : wpU P ops S Qx (n + 1) T a w) : S w := h.1
def chkU (ops : Array Oper) (ks : List Nat) : Bool :=
  chkT ops ks && ((List.range ops.size).any fun z => (ks.getD z 0 != 0) && ((List.range ops.size).all fun i => ks.getD i 0 != 0 || waitsT ops 4 z i))
theorem chkU_fin {ks : List Nat} (h : chkU ops ks = true) : FactsT ops ks ∧ ∃ z, z < ops.size ∧ ks.getD z 0 ≠ 0 ∧ ∀ i, i < ops.size → ks.getD i 0 = 0 → waitsT ops 4 z i = true := by
  unfold chkU at h
  rw [Bool.and_eq_true] at h
  refine ⟨FactsT.of_chk h.1, ?_⟩
  obtain ⟨z, hz, h2⟩ := List.any_eq_true.1 h.2
  rw [Bool.and_eq_true] at h2
  refine ⟨z, List.mem_range.1 hz, by simpa using h2.1, fun i hi hk => ?_⟩
  have := List.all_eq_true.1 h2.2 i (List.mem_range.2 hi)
  rw [hk] at this
  simpa using this
theorem fin_none {ks : List Nat} {listed : Array Bool} {R : List Nat} (h : RestS ops ks listed R []) (hsz : listed.size = ops.size) {z : Nat} (hz : z < ops.size) (hk : ks.getD z 0 ≠ 0) (hw : ∀ i, i < ops.size → ks.getD i 0 = 0 → waitsT ops 4 z i = true) : R = [] := by
  have hzl : listed.getD z false = true := by
    have hz' : z < listed.size := by omega
    cases hc : listed.getD z true with
    | true => simpa [hz'] using hc
    | false =>
      rcases (h.left z).1 hc with h1 | h1
      · exact absurd (h.hR z h1).2 hk
      · cases h1
  rcases hm : R with _ | ⟨j, R'⟩
  · rfl
  · exfalso
    have hj : j ∈ R := by rw [hm]; simp
    have hjl := (h.left j).2 (.inl hj)
    have hjn := h.hR j hj
    have h1 := waits_listed h.clos 4 z (fun o ho e he hb => h.clos z o hzl ho e he hb) (hw j hjn.1 hjn.2)
    have hj' : j < listed.size := by omega
    simp [hj'] at hjl h1
    rw [hjl] at h1
    cases h1
theorem wpAny_treeU {ks : List Nat} (F : FactsT ops ks) {z : Nat} (hz : z < ops.size) (hzk : ks.getD z 0 ≠ 0) (hzw : ∀ i, i < ops.size → ks.getD i 0 = 0 → waitsT ops 4 z i = true) (hQ : ∀ c (a : Act) d v w, Qx (.panic c) (a.put d v) w → Qx (.panic c) a w) : ∀ (fuel : Nat) (listed : Array Bool) (R T : List Nat) (a : Act) (w : World),
    RestS ops ks listed R T → listed.size = ops.size → fuel = R.length + T.length →
    HS P ops S (fun a' => wpU P ops S Qx T.length T a' w) R a → wpAny P .any ops Qx fuel listed a w := by
  intro fuel
  induction fuel with
  | zero =>
    intro listed R T a w hr hsz hf h
    have hR : R = [] := List.eq_nil_of_length_eq_zero (by omega)
    have hT : T = [] := List.eq_nil_of_length_eq_zero (by omega)
    subst hR hT
    refine ⟨?_, h⟩
    rcases hrd : Region.ready .any ops listed with _ | ⟨i, l⟩
    · rfl
    · have : i ∈ Region.ready .any ops listed := by rw [hrd]; simp
      have := (hr.left i).1 (mem_ready.1 this).1
      simp at this
  | succ fuel ih =>
    intro listed R T a w hr hsz hf h
    obtain ⟨m, hm0⟩ : ∃ m, T.length = m + 1 := by
      rcases T with _ | ⟨t0, T0⟩
      · have := fin_none hr hsz hz hzk hzw
        subst this
        simp at hf
      · exact ⟨T0.length, rfl⟩
    have hS : S w := by
      rw [hm0] at h
      exact HS.get (fun _ h => h.cond) h
    refine ⟨fun h0 => absurd h0 (some_readyT F hr hsz (by intro h1; have := congrArg List.length h1; rw [List.length_append, List.length_nil] at this; omega)), fun i hi => ?_⟩
    have hun := (mem_ready.1 hi).1
    have hlt : i < listed.size := by
      rcases Nat.lt_or_ge i listed.size with h' | h'
      · exact h'
      · simp [Array.getElem?_eq_none h'] at hun
    rcases (hr.left i).1 hun with hm | hm
    · obtain ⟨R1, R2, rfl⟩ := List.append_of_mem hm
      have hs := hr.sR
      simp only [List.pairwise_append, List.pairwise_cons, List.mem_cons] at hs
      obtain ⟨o, v, ho, hy, hh⟩ := HS.front F.sel h (fun j hj oj oi hoj hoi => by
        have hji : j < i := hs.2.2 j hj i (.inl rfl)
        rcases F.pair j i hji (hr.hR i hm).1 (hr.hR j (by simp [hj])).2 (hr.hR i hm).2 with h1 | h1
        · exact absurd hi (not_ready hr.clos h1 ((hr.left j).2 (.inl (by simp [hj]))))
        · exact h1 oj oi hoj hoi)
      exact hy.wpOp ho hS (ih _ _ _ _ _ (hr.take hlt hi) (by simpa using hsz) (by simp at hf ⊢; omega) hh)
    · have hmin : ∀ s ∈ T, s ≠ i → waitsT ops 4 i s = false := fun s hs _ => by
        cases hw : waitsT ops 4 i s with
        | false => rfl
        | true => exact absurd hi (not_ready hr.clos hw ((hr.left s).2 (.inr hs)))
      obtain ⟨n, hn⟩ : ∃ n, T.length = n + 1 := ⟨T.length - 1, by have := List.length_pos_of_mem hm; omega⟩
      have hi' := hr.hT i hm
      rw [hn] at h
      have key : ∀ {R : List Nat} {a : Act}, (∀ j ∈ R, j < ops.size ∧ ks.getD j 0 = 0) → (∀ j ∈ R, listed.getD j true = false) → HS P ops S (fun a' => wpU P ops S Qx (n + 1) T a' w) R a →
          wpOp P ops Qx i (fun a'' w'' => HS P ops S (fun a' => wpU P ops S Qx n (T.erase i) a' w'') R a'') a w := by
        intro R
        induction R with
        | nil =>
          intro a _ _ h
          exact h.2 i hm hmin
        | cons j R ihR =>
          intro a hn1 hl1 ⟨oj, v, hoj, hy, hh⟩
          have h1 := ihR (fun k hk => hn1 k (by simp [hk])) (fun k hk => hl1 k (by simp [hk])) hh
          have hot : ops[i]? = some ops[i] := Array.getElem?_eq_getElem hi'.1
          have hap : oj.apart ops ops[i] = true := by
            rcases F.mix j i (hn1 j (by simp)).1 hi'.1 (hn1 j (by simp)).2 hi'.2 with h2 | h2
            · exact absurd hi (not_ready hr.clos h2 (hl1 j (by simp)))
            · exact h2 oj _ hoj hot
          exact wpOp_mono (fun a' w' ⟨hy', hh'⟩ => ⟨oj, v, hoj, hy', hh'⟩) (wpOp_putIf hot hap (fun cs b => F.sel j oj cs b hoj) (fun cs b => F.sel i _ cs b hot) (fun c a w => hQ c a _ _ w) hy h1)
      have hel : (T.erase i).length = n := by rw [List.length_erase_of_mem hm]; omega
      refine wpOp_mono (fun a'' w'' hh => ih _ _ _ _ _ (hr.takeE hm hlt hi) (by simpa using hsz) (by omega) ?_) (key hr.hR (fun j hj => (hr.left j).2 (.inl hj)) h)
      rw [hel]
      exact hh
/-- **The region's law, 5.** -/
theorem wp_region_u {id : Nat} (ks : List Nat) (S : World → Prop) (n : Nat) (T : List Nat) {Q : Exit → Act → World → Prop} {a : Act} {w : World} {l : List Oper} (hm : P.follows .mixedOrders = true) (hB : chkU l.toArray ks = true) (hn : T.length = n) (hT : others ks 0 l.length = T)
    (h : HLS P l.toArray S (fun a' => ∀ w', Ext w w' → ∀ Qy : Exit → Act → World → Prop, (∀ a w, Q .normal a w → Qy .normal a w) → wpU P l.toArray S Qy n T a' w') l ks a) : (Code.region id l.toArray true).wp P Q a w := by
  subst hT hn
  obtain ⟨F, z, hz, hzk, hzw⟩ := chkU_fin hB
  refine Code.wp_mono (Q := QN Q) (fun e a w h => QN.le h) (wp_region_any hm ?_)
  have hh := HLS.hs (ks0 := ks) l ks 0 a (fun j o ho => by simpa using ho) (fun j x hx => by simp [hx]) h
  have h2 := hh.mono (Q' := fun a' => wpU P l.toArray S (QN Q) (others ks 0 l.length).length (others ks 0 l.length) a' w.drew) (fun a' h' => h' w.drew (Ext.refl w).drew _ (fun _ _ h => h))
  refine wpAny_treeU (S := S) F hz hzk hzw (fun c a d v w h => h) _ _ (readers ks 0 l.length) (others ks 0 l.length) a w.drew ⟨fun i => ?_, ?_, ?_, fun i hi => ?_, fun i hi => ?_, fun k o hk => ?_⟩ (by simp) ?_ h2
  · simp only [readers, others, List.mem_filter, List.mem_range'_1, Array.getD_eq_getD_getElem?, Array.getElem?_replicate, List.size_toArray]
    constructor
    · intro h0
      by_cases hi : i < l.length
      · by_cases hk : ks.getD i 0 = 0
        · exact .inl ⟨by omega, by simpa using hk⟩
        · exact .inr ⟨by omega, by simpa using hk⟩
      · simp [hi] at h0
    · intro h0
      have hi : i < l.length := by omega
      simp [hi]
  · exact List.Pairwise.filter _ List.pairwise_lt_range'
  · exact List.Pairwise.filter _ List.pairwise_lt_range'
  · simp only [readers, List.mem_filter, List.mem_range'_1, List.size_toArray] at hi ⊢
    exact ⟨by omega, by simpa using hi.2⟩
  · simp only [others, List.mem_filter, List.mem_range'_1, List.size_toArray] at hi ⊢
    exact ⟨by omega, by simpa using hi.2⟩
  · simp only [Array.getD_eq_getD_getElem?, Array.getElem?_replicate] at hk
    split at hk <;> simp at hk
  · have : ∀ (p : Nat → Bool) (L : List Nat), L.length = (L.filter p).length + (L.filter (fun i => !p i)).length := by
      intro p L
      induction L with
      | nil => rfl
      | cons x L ih =>
        by_cases hp : p x = true
        · rw [List.filter_cons_of_pos hp, List.filter_cons_of_neg (by simp [hp])]; simp; omega
        · rw [List.filter_cons_of_neg hp, List.filter_cons_of_pos (by simp at hp; simp [hp])]; simp; omega
    have h3 := this (fun i => ks.getD i 0 == 0) (List.range' 0 l.length)
    simp only [List.length_range', List.size_toArray] at h3 ⊢
    exact h3
theorem utree_step {n : Nat} {T : List Nat} {a : Act} {w : World} (L : List Nat) (hL : headsT ops T = L) (hS : S w) (h : ∀ t ∈ L, wpOp P ops Qx t (fun a' w' => wpU P ops S Qx n (T.erase t) a' w') a w) : wpU P ops S Qx (n + 1) T a w := by
  refine ⟨hS, fun t ht hmin => h t ?_⟩
  rw [← hL]
  refine List.mem_filter.2 ⟨ht, List.all_eq_true.2 fun s hs => ?_⟩
  by_cases e : s = t
  · simp [e]
  · simp [hmin s hs e]
theorem utree_op {n i : Nat} {o : Oper} {T : List Nat} {a : Act} {w : World} (ho : ops[i]? = some o) (h : ∀ K' : Exit → Act → World → Prop, (∀ a' w', wpU P ops S Qx n T a' w' → K' .normal a' w') → wpList P ops K' [o] a w) : wpOp P ops Qx i (fun a' w' => wpU P ops S Qx n T a' w') a w :=
  one_op ho (fun _ _ h => h) (h _ (fun _ _ h => h))
theorem utree_one {n : Nat} {T T' : List Nat} {a : Act} {w : World} (i : Nat) (hL : headsT ops T = [i]) (hT : T.erase i = T') (hS : S w) (h : wpOp P ops Qx i (fun a' w' => wpU P ops S Qx n T' a' w') a w) : wpU P ops S Qx (n + 1) T a w :=
  utree_step [i] hL hS (fun t ht => by
    obtain rfl := List.mem_singleton.1 ht
    rw [hT]
    exact h)
theorem utree_fork {n : Nat} {T T1 T2 : List Nat} {a : Act} {w : World} (i j : Nat) (hL : headsT ops T = [i, j]) (hT1 : T.erase i = T1) (hT2 : T.erase j = T2) (hS : S w) (h1 : wpOp P ops Qx i (fun a' w' => wpU P ops S Qx n T1 a' w') a w) (h2 : wpOp P ops Qx j (fun a' w' => wpU P ops S Qx n T2 a' w') a w) : wpU P ops S Qx (n + 1) T a w :=
  utree_step [i, j] hL hS (fun t ht => by
    rcases List.mem_cons.1 ht with rfl | ht
    · rw [hT1]; exact h1
    · obtain rfl := List.mem_singleton.1 ht
      rw [hT2]; exact h2)
theorem utree_end {T : List Nat} {a : Act} {w : World} (h : Qx .normal a w) : wpU P ops S Qx 0 T a w := h
end
end Go.Proofs.Ytfbpmngdamaobaa
