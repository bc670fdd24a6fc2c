/- Regions that draw their order: one walk in the order of the text serves every order, where the first operations are pure, or quiet (they read, or call what only makes memory), or make one thing, and the last ones, in one order, do as they like. No condition beyond what 'chk' reckons. -/
import Derived.Test.YtfbpmngdamaobaaSl
import Derived.OrdersHeld
namespace Go.Proofs.Ytfbpmngdamaobaa
open Go.RowKit

/-- A world behind W. -/
structure Later (W : World) where
  val : World
  ext : Ext W val
instance (W : World) : Nonempty (Later W) := ⟨⟨W, Ext.refl W⟩⟩

section
variable {P : Program} {ops : Array Oper} {W : World}

def QUpon (P : Program) (w : World) (v : Value) : Result Next → Prop
  | .ok (.value u) w' => w' = w ∧ u = v
  | .ok (.enter f args) w' => w' = w ∧ Calls P f args w (fun e w'' => e = .returned v ∧ Ext w w'')
  | _ => False
def QAt (P : Program) (ops : Array Oper) (W : World) (o : Oper) (v : Value) (a : Act) : Prop :=
  (Region.wanted o (yielded ops a.tmps) = true ∧ ∀ x : Later W, QUpon P x.1 v ((execOp a.eval o).run P x.1)) ∨ (Region.wanted o (yielded ops a.tmps) = false ∧ v = undef)
def MUpon (Φ : Value → World → Prop) (w : World) : Result Next → Prop
  | .ok (.value u) w' => Ext w w' ∧ Φ u w'
  | _ => False
def MAt (P : Program) (ops : Array Oper) (W : World) (Φ : Value → World → Prop) (o : Oper) (a : Act) : Prop :=
  Region.wanted o (yielded ops a.tmps) = true ∧ ∀ x : Later W, MUpon Φ x.1 ((execOp a.eval o).run P x.1)

theorem QAt.of_same {o : Oper} {v : Value} {a a' : Act} (hy : QAt P ops W o v a) (he : execOp a'.eval o = execOp a.eval o) (hw : Region.wanted o (yielded ops a'.tmps) = Region.wanted o (yielded ops a.tmps)) : QAt P ops W o v a' := by
  unfold QAt at *
  rw [he, hw]
  exact hy
theorem MAt.of_same {Φ : Value → World → Prop} {o : Oper} {a a' : Act} (hy : MAt P ops W Φ o a) (he : execOp a'.eval o = execOp a.eval o) (hw : Region.wanted o (yielded ops a'.tmps) = Region.wanted o (yielded ops a.tmps)) : MAt P ops W Φ o a' := by
  unfold MAt at *
  rw [he, hw]
  exact hy
theorem QAt.wpOp {Q : Exit → Act → World → Prop} {i : Nat} {o : Oper} {v : Value} {a : Act} (hi : ops[i]? = some o) (hy : QAt P ops W o v a) {w : World} (hW : Ext W w) {K : Act → World → Prop} (h : ∀ w', Ext w w' → K (a.put o.dst v) w') : wpOp P ops Q i K a w := by
  unfold Go.wpOp
  simp only [hi]
  rcases hy with ⟨hw, hv⟩ | ⟨hw, rfl⟩
  · simp only [hw, if_true]
    refine .inl ?_
    have h1 := hv ⟨w, hW⟩
    unfold Oper.wp
    generalize (execOp a.eval o).run P w = r at *
    cases r with
    | ok n w' =>
      cases n <;> simp only [QUpon] at h1 <;> simp only [Oper.upon]
      case value u =>
        obtain ⟨rfl, rfl⟩ := h1
        exact h _ (Ext.refl _)
      case enter f args =>
        obtain ⟨rfl, h2⟩ := h1
        exact h2.mono fun e w'' ⟨he, hx⟩ => by subst he; exact h _ hx
    | halt x w' => simp only [QUpon] at h1
  · simp only [hw, Bool.false_eq_true, if_false]
    exact h _ (Ext.refl _)
theorem MAt.wpOp {Q : Exit → Act → World → Prop} {Φ : Value → World → Prop} {i : Nat} {o : Oper} {a : Act} (hi : ops[i]? = some o) (hy : MAt P ops W Φ o a) {w : World} (hW : Ext W w) {K : Act → World → Prop} (h : ∀ u w', Ext w w' → Φ u w' → K (a.put o.dst u) w') : wpOp P ops Q i K a w := by
  unfold Go.wpOp
  simp only [hi]
  obtain ⟨hw, hv⟩ := hy
  simp only [hw, if_true]
  refine .inl ?_
  have h1 := hv ⟨w, hW⟩
  unfold Oper.wp
  generalize (execOp a.eval o).run P w = r at *
  cases r with
  | ok n w' =>
    cases n <;> simp only [MUpon] at h1
    case value u => exact h u w' h1.1 h1.2
  | halt x w' => simp only [MUpon] at h1

/-- The walk of the first operations, by their numbers. -/
def HW (P : Program) (ops : Array Oper) (W : World) (Φ : Value → World → Prop) (kd : Nat → Nat) (Q : Act → Prop) : List Nat → Act → Prop
  | [], a => Q a
  | i :: r, a => ∃ o, ops[i]? = some o ∧ ((kd i = 0 ∧ ∃ v, Yields P ops o v a ∧ HW P ops W Φ kd Q r (a.put o.dst v)) ∨
      (kd i = 1 ∧ ∃ v, QAt P ops W o v a ∧ HW P ops W Φ kd Q r (a.put o.dst v)) ∨ (kd i = 2 ∧ MAt P ops W Φ o a ∧ HW P ops W Φ kd Q r a))

variable {Φ : Value → World → Prop} {kd : Nat → Nat} {Q : Act → Prop}

theorem HW.mono {Q' : Act → Prop} (hq : ∀ a, Q a → Q' a) : ∀ {R : List Nat} {a : Act}, HW P ops W Φ kd Q R a → HW P ops W Φ kd Q' R a
  | [], _, h => hq _ h
  | i :: r, a, ⟨o, ho, h⟩ => ⟨o, ho, h.imp (fun ⟨k, v, y, h⟩ => ⟨k, v, y, HW.mono hq h⟩) (fun h => h.imp (fun ⟨k, v, y, h⟩ => ⟨k, v, y, HW.mono hq h⟩) (fun ⟨k, y, h⟩ => ⟨k, y, HW.mono hq h⟩))⟩

/-- An operation that is apart from those ahead of it may come first. -/
theorem HW.front (hsel : ∀ (j : Nat) (o : Oper) cs b, ops[j]? = some o → o.op ≠ .select cs b) {i : Nat} {R2 : List Nat} : ∀ {R1 : List Nat} {a : Act}, HW P ops W Φ kd Q (R1 ++ i :: R2) a →
    (∀ j ∈ R1, ∀ oj oi, ops[j]? = some oj → ops[i]? = some oi → oj.apart ops oi = true) →
    ∃ o, ops[i]? = some o ∧ ((kd i = 0 ∧ ∃ v, Yields P ops o v a ∧ HW P ops W Φ kd Q (R1 ++ R2) (a.put o.dst v)) ∨
      (kd i = 1 ∧ ∃ v, QAt P ops W o v a ∧ HW P ops W Φ kd Q (R1 ++ R2) (a.put o.dst v)) ∨ (kd i = 2 ∧ MAt P ops W Φ o a ∧ HW P ops W Φ kd Q (R1 ++ R2) a))
  | [], a, h, _ => h
  | j :: R1, a, ⟨oj, hj, h⟩, hap => by
    have hap' : ∀ k ∈ R1, ∀ ok oi, ops[k]? = some ok → ops[i]? = some oi → ok.apart ops oi = true := fun k hk => hap k (by simp [hk])
    -- what the first one left
    have key : ∀ (vj : Value) (a' : Act), a' = a.put oj.dst vj → ∀ (oi : Oper), ops[i]? = some oi →
        (execOp a'.eval oi = execOp a.eval oi ∧ Region.wanted oi (yielded ops a'.tmps) = Region.wanted oi (yielded ops a.tmps)) ∧
        (∀ v, a'.put oi.dst v = (a.put oi.dst v).put oj.dst vj) ∧
        (∀ v, execOp (a.put oi.dst v).eval oj = execOp a.eval oj ∧ Region.wanted oj (yielded ops (a.put oi.dst v).tmps) = Region.wanted oj (yielded ops a.tmps)) := by
      rintro vj a' rfl oi hoi
      obtain ⟨h1, h2, h3⟩ := Oper.apart_spec (hap j (by simp) oj oi hj hoi)
      exact ⟨⟨execOp_put oi (fun cs b => hsel i oi cs b hoi) a oj.dst vj h1, wanted_put oi a oj.dst vj h1⟩, fun v => Act.put_comm a vj v h2,
        fun v => ⟨execOp_put oj (fun cs b => hsel j oj cs b hj) a oi.dst v h3, wanted_put oj a oi.dst v h3⟩⟩
    rcases h with ⟨hk, vj, hy, hr⟩ | ⟨hk, vj, hy, hr⟩ | ⟨hk, hy, hr⟩
    · obtain ⟨oi, hoi, hc⟩ := HW.front hsel hr hap'
      obtain ⟨⟨e1, e2⟩, e3, e4⟩ := key vj _ rfl oi hoi
      refine ⟨oi, hoi, ?_⟩
      rcases hc with ⟨k, v, y, hh⟩ | ⟨k, v, y, hh⟩ | ⟨k, y, hh⟩
      · exact .inl ⟨k, v, y.of_same e1.symm e2.symm, oj, hj, .inl ⟨hk, vj, hy.of_same (e4 v).1 (e4 v).2, (e3 v) ▸ hh⟩⟩
      · exact .inr (.inl ⟨k, v, y.of_same e1.symm e2.symm, oj, hj, .inl ⟨hk, vj, hy.of_same (e4 v).1 (e4 v).2, (e3 v) ▸ hh⟩⟩)
      · exact .inr (.inr ⟨k, y.of_same e1.symm e2.symm, oj, hj, .inl ⟨hk, vj, hy, hh⟩⟩)
    · obtain ⟨oi, hoi, hc⟩ := HW.front hsel hr hap'
      obtain ⟨⟨e1, e2⟩, e3, e4⟩ := key vj _ rfl oi hoi
      refine ⟨oi, hoi, ?_⟩
      rcases hc with ⟨k, v, y, hh⟩ | ⟨k, v, y, hh⟩ | ⟨k, y, hh⟩
      · exact .inl ⟨k, v, y.of_same e1.symm e2.symm, oj, hj, .inr (.inl ⟨hk, vj, hy.of_same (e4 v).1 (e4 v).2, (e3 v) ▸ hh⟩)⟩
      · exact .inr (.inl ⟨k, v, y.of_same e1.symm e2.symm, oj, hj, .inr (.inl ⟨hk, vj, hy.of_same (e4 v).1 (e4 v).2, (e3 v) ▸ hh⟩)⟩)
      · exact .inr (.inr ⟨k, y.of_same e1.symm e2.symm, oj, hj, .inr (.inl ⟨hk, vj, hy, hh⟩)⟩)
    · obtain ⟨oi, hoi, hc⟩ := HW.front hsel hr hap'
      obtain ⟨_, _, e4⟩ := key undef _ rfl oi hoi
      refine ⟨oi, hoi, ?_⟩
      rcases hc with ⟨k, v, y, hh⟩ | ⟨k, v, y, hh⟩ | ⟨k, y, hh⟩
      · exact .inl ⟨k, v, y, oj, hj, .inr (.inr ⟨hk, hy.of_same (e4 v).1 (e4 v).2, hh⟩)⟩
      · exact .inr (.inl ⟨k, v, y, oj, hj, .inr (.inr ⟨hk, hy.of_same (e4 v).1 (e4 v).2, hh⟩)⟩)
      · exact .inr (.inr ⟨k, y, oj, hj, .inr (.inr ⟨hk, hy, hh⟩)⟩)

/-- What is made lies in a slot that nobody else looks at. -/
theorem HW.under (hsel : ∀ (j : Nat) (o : Oper) cs b, ops[j]? = some o → o.op ≠ .select cs b) {om : Oper} (u : Value) : ∀ {R : List Nat} {a : Act}, HW P ops W Φ kd Q R a → (∀ j ∈ R, ∀ oj, ops[j]? = some oj → om.apart ops oj = true) →
    HW P ops W Φ kd (fun a' => ∃ a0, a' = a0.put om.dst u ∧ Q a0) R (a.put om.dst u)
  | [], a, h, _ => ⟨a, rfl, h⟩
  | j :: R, a, ⟨oj, hj, h⟩, hap => by
    have hap' : ∀ k ∈ R, ∀ ok, ops[k]? = some ok → om.apart ops ok = true := fun k hk => hap k (by simp [hk])
    obtain ⟨h1, h2, h3⟩ := Oper.apart_spec (hap j (by simp) oj hj)
    have e1 := execOp_put oj (fun cs b => hsel j oj cs b hj) a om.dst u h1
    have e2 := wanted_put oj a om.dst u h1
    refine ⟨oj, hj, ?_⟩
    rcases h with ⟨hk, v, hy, hr⟩ | ⟨hk, v, hy, hr⟩ | ⟨hk, hy, hr⟩
    · exact .inl ⟨hk, v, hy.of_same e1 e2, by rw [Act.put_comm a u v h2]; exact HW.under hsel u hr hap'⟩
    · exact .inr (.inl ⟨hk, v, hy.of_same e1 e2, by rw [Act.put_comm a u v h2]; exact HW.under hsel u hr hap'⟩)
    · exact .inr (.inr ⟨hk, hy.of_same e1 e2, HW.under hsel u hr hap'⟩)

def waits (ops : Array Oper) (j i : Nat) : Bool :=
  match ops[j]? with
  | some oj => oj.after.any fun e => Region.binds .any e && e.on == i
  | none => false
/-- .. or waits for one that does. -/
def waitsT (ops : Array Oper) : Nat → Nat → Nat → Bool
  | 0, j, i => waits ops j i
  | f + 1, j, i => waits ops j i || match ops[j]? with
    | some oj => oj.after.any fun e => Region.binds .any e && waitsT ops f e.on i
    | none => false
def apartB (ops : Array Oper) (i j : Nat) : Bool :=
  match ops[i]?, ops[j]? with
  | some oi, some oj => oi.apart ops oj
  | _, _ => false

/-- What is asked of a region with n first operations of these kinds (0: pure, 1: quiet, 2: it makes something). -/
def chk (ops : Array Oper) (n : Nat) (ks : List Nat) : Bool :=
  Region.noSelect ops && decide (n ≤ ops.size) &&
  ((List.range ops.size).all fun j => match ops[j]? with | some oj => oj.after.all fun e => !Region.binds .any e || decide (e.on < j) | none => true) &&
  ((List.range n).all fun j => (List.range j).all fun i => waitsT ops 3 j i || apartB ops i j) &&
  ((List.range n).all fun m => ks.getD m 0 != 2 || (List.range n).all fun j => j == m || ((waitsT ops 3 m j || apartB ops m j) && ks.getD j 0 != 2)) &&
  ((List.range ops.size).all fun t => decide (t < n) || ((List.range n).all fun i => waitsT ops 3 t i || (ks.getD i 0 == 0 && apartB ops i t)) && (List.range t).all fun s => decide (s < n) || waitsT ops 3 t s)

/-- Whatever is listed, what it waits for is, too. -/
def Closed (ops : Array Oper) (listed : Array Bool) : Prop := ∀ (k : Nat) (o : Oper), listed.getD k false = true → ops[k]? = some o → ∀ e ∈ o.after, Region.binds .any e = true → listed.getD e.on false = true
theorem waits_listed {i : Nat} {listed : Array Bool} (hc : Closed ops listed) : ∀ (f j : Nat), (∀ o, ops[j]? = some o → ∀ e ∈ o.after, Region.binds .any e = true → listed.getD e.on false = true) → waitsT ops f j i = true → listed.getD i false = true := by
  have base : ∀ j, (∀ o, ops[j]? = some o → ∀ e ∈ o.after, Region.binds .any e = true → listed.getD e.on false = true) → waits ops j i = true → listed.getD i false = true := by
    intro j hd h
    unfold waits at h
    cases ho : ops[j]? with
    | none => simp [ho] at h
    | some o =>
      simp only [ho] at h
      obtain ⟨e, he, hb⟩ := Array.any_eq_true'.1 h
      simp only [Bool.and_eq_true, beq_iff_eq] at hb
      have h1 := hd o ho e he hb.1
      rwa [hb.2] at h1
  intro f
  induction f with
  | zero => exact base
  | succ f ih =>
    intro j hd h
    unfold waitsT at h
    rw [Bool.or_eq_true] at h
    rcases h with h | h
    · exact base j hd h
    · cases ho : ops[j]? with
      | none => simp [ho] at h
      | some o =>
        simp only [ho] at h
        obtain ⟨e, he, hb⟩ := Array.any_eq_true'.1 h
        simp only [Bool.and_eq_true] at hb
        have h1 := hd o ho e he hb.1
        exact ih e.on (fun o' ho' e' he' hb' => hc e.on o' h1 ho' e' he' hb') hb.2
theorem not_ready {i j f : Nat} {listed : Array Bool} (hc : Closed ops listed) (h : waitsT ops f j i = true) (hi : listed.getD i true = false) : j ∉ Region.ready .any ops listed := by
  intro hr
  obtain ⟨_, o, ho, hall⟩ := mem_ready.1 hr
  have h1 := waits_listed hc f j (fun o' ho' => by rw [ho] at ho'; injection ho' with ho'; subst ho'; exact hall) h
  rcases Nat.lt_or_ge i listed.size with h' | h'
  · simp [h'] at hi h1; rw [hi] at h1; cases h1
  · simp [Array.getElem?_eq_none h'] at h1
theorem Closed.set {i : Nat} {listed : Array Bool} (hc : Closed ops listed) (hi : i ∈ Region.ready .any ops listed) : Closed ops (listed.setIfInBounds i true) := by
  intro k o hk ho e he hb
  by_cases hki : k = i
  · subst hki
    obtain ⟨_, o', ho', hall⟩ := mem_ready.1 hi
    rw [ho] at ho'
    injection ho' with ho'
    subst ho'
    exact getD_set_true (hall e he hb)
  · rw [getD_set_ne false (Ne.symm hki)] at hk
    exact getD_set_true (hc k o hk ho e he hb)

variable {Qx : Exit → Act → World → Prop}

/-- Facts of the region, and of the numbers that are left: R of the first ones, S of the last. -/
structure Rest (ops : Array Oper) (n : Nat) (ks : List Nat) (listed : Array Bool) (R S : List Nat) : Prop where
  left : ∀ i, listed.getD i true = false ↔ i ∈ R ∨ i ∈ S
  sort : (R ++ S).Pairwise (· < ·)
  hR : ∀ i ∈ R, i < n
  hS : ∀ i ∈ S, n ≤ i ∧ i < ops.size
  clos : Closed ops listed

structure Facts (ops : Array Oper) (n : Nat) (ks : List Nat) : Prop where
  sel : ∀ (j : Nat) (o : Oper) cs b, ops[j]? = some o → o.op ≠ .select cs b
  hn : n ≤ ops.size
  back : ∀ (j : Nat) (o : Oper), ops[j]? = some o → ∀ e ∈ o.after, Region.binds .any e = true → e.on < j
  pair : ∀ i j, i < j → j < n → waitsT ops 3 j i = true ∨ ∀ oi oj, ops[i]? = some oi → ops[j]? = some oj → oi.apart ops oj = true
  make : ∀ m, m < n → ks.getD m 0 = 2 → ∀ j, j < n → j ≠ m → ks.getD j 0 ≠ 2 ∧ (waitsT ops 3 m j = true ∨ ∀ om oj, ops[m]? = some om → ops[j]? = some oj → om.apart ops oj = true)
  tail : ∀ t i, n ≤ t → t < ops.size → i < n → waitsT ops 3 t i = true ∨ (ks.getD i 0 = 0 ∧ ∀ oi ot, ops[i]? = some oi → ops[t]? = some ot → oi.apart ops ot = true)
  chain : ∀ s t, n ≤ s → s < t → t < ops.size → waitsT ops 3 t s = true

theorem apartB_spec {i j : Nat} (h : apartB ops i j = true) : ∀ oi oj, ops[i]? = some oi → ops[j]? = some oj → oi.apart ops oj = true := by
  intro oi oj hi hj
  unfold apartB at h
  rw [hi, hj] at h
  exact h

theorem Facts.of_chk {n : Nat} {ks : List Nat} (h : chk ops n ks = true) : Facts ops n ks := by
  simp only [chk, Bool.and_eq_true, List.all_eq_true, List.mem_range, decide_eq_true_eq] at h
  obtain ⟨⟨⟨⟨⟨h1, h2⟩, h3⟩, h4⟩, h5⟩, h6⟩ := h
  refine ⟨Region.noSelect_spec h1, h2, fun j o ho e he hb => ?_, fun i j hij hj => ?_, fun m hm hk j hj hne => ?_, fun t i h7 h8 h9 => ?_, fun s t h7 h8 h9 => ?_⟩
  · have := h3 j (Array.getElem?_eq_some_iff.1 ho).1
    rw [ho] at this
    have h10 := Array.all_eq_true_iff_forall_mem.1 this e he
    simp only [hb, Bool.not_true, Bool.false_or, decide_eq_true_eq] at h10
    exact h10
  · have := h4 j hj i hij
    rw [Bool.or_eq_true] at this
    exact this.imp id apartB_spec
  · have := h5 m hm
    simp only [hk, bne_self_eq_false, Bool.false_or, List.all_eq_true, List.mem_range] at this
    have h7 := this j hj
    have h8 : (j == m) = false := by simpa using hne
    simp only [h8, Bool.false_or, Bool.and_eq_true, Bool.or_eq_true, bne_iff_ne] at h7
    exact ⟨h7.2, h7.1.imp id apartB_spec⟩
  · have := h6 t h8
    have h10 : decide (t < n) = false := by simp; omega
    simp only [h10, Bool.false_or, Bool.and_eq_true, List.all_eq_true, List.mem_range] at this
    have h11 := this.1 i h9
    rw [Bool.or_eq_true, Bool.and_eq_true, beq_iff_eq] at h11
    exact h11.imp id (fun ⟨x, y⟩ => ⟨x, apartB_spec y⟩)
  · have := h6 t h9
    have h10 : decide (t < n) = false := by simp; omega
    have h11 : decide (s < n) = false := by simp; omega
    simp only [h10, Bool.false_or, Bool.and_eq_true, List.all_eq_true, List.mem_range] at this
    have h12 := this.2 s h8
    simpa [h11] using h12

theorem Rest.take {n : Nat} {ks : List Nat} {listed : Array Bool} {R1 R2 S : List Nat} {i : Nat} (h : Rest ops n ks listed (R1 ++ i :: R2) S) (hi : i < listed.size) (hrd : i ∈ Region.ready .any ops listed) : Rest ops n ks (listed.setIfInBounds i true) (R1 ++ R2) S := by
  have hs := h.sort
  have hne : ∀ j, (j ∈ R1 ++ R2 ∨ j ∈ S) → j ≠ i := by
    rintro j hj rfl
    simp only [List.append_assoc, List.cons_append, List.pairwise_append, List.pairwise_cons, List.mem_append, List.mem_cons] at hs
    obtain ⟨_, ⟨h2, _⟩, h3⟩ := hs
    rcases hj with hj | hj
    · rcases List.mem_append.1 hj with hj | hj
      · exact absurd (h3 j hj j (.inl rfl)) (Nat.lt_irrefl _)
      · exact absurd (h2 j (.inl hj)) (Nat.lt_irrefl _)
    · exact absurd (h2 j (.inr hj)) (Nat.lt_irrefl _)
  refine ⟨fun j => ?_, ?_, fun j hj => h.hR j (by simp at hj ⊢; rcases hj with hj | hj <;> simp [hj]), h.hS, h.clos.set hrd⟩
  · by_cases hji : j = i
    · subst hji
      constructor
      · intro h0
        simp [hi] at h0
      · intro h0
        exact absurd rfl (hne j h0)
    · rw [getD_set_ne true (Ne.symm hji), h.left j]
      simp only [List.mem_append, List.mem_cons]
      constructor
      · rintro ((h0 | h0 | h0) | h0)
        · exact .inl (.inl h0)
        · exact absurd h0 hji
        · exact .inl (.inr h0)
        · exact .inr h0
      · rintro ((h0 | h0) | h0)
        · exact .inl (.inl h0)
        · exact .inl (.inr (.inr h0))
        · exact .inr h0
  · refine hs.sublist ?_
    simp only [List.append_assoc, List.cons_append]
    exact List.Sublist.append (List.Sublist.refl _) (List.sublist_cons_self _ _)

theorem Rest.takeS {n : Nat} {ks : List Nat} {listed : Array Bool} {R S : List Nat} {t : Nat} (h : Rest ops n ks listed R (t :: S)) (hi : t < listed.size) (hrd : t ∈ Region.ready .any ops listed) : Rest ops n ks (listed.setIfInBounds t true) R S := by
  have hs := h.sort
  have hne : ∀ j, (j ∈ R ∨ j ∈ S) → j ≠ t := by
    rintro j hj rfl
    simp only [List.pairwise_append, List.pairwise_cons, List.mem_cons] at hs
    obtain ⟨_, ⟨h2, _⟩, h3⟩ := hs
    rcases hj with hj | hj
    · exact absurd (h3 j hj j (.inl rfl)) (Nat.lt_irrefl _)
    · exact absurd (h2 j hj) (Nat.lt_irrefl _)
  refine ⟨fun j => ?_, ?_, h.hR, fun j hj => h.hS j (by simp [hj]), h.clos.set hrd⟩
  · by_cases hji : j = t
    · subst hji
      constructor
      · intro h0; simp [hi] at h0
      · intro h0; exact absurd rfl (hne j h0)
    · rw [getD_set_ne true (Ne.symm hji), h.left j]
      simp only [List.mem_cons]
      constructor
      · rintro (h0 | h0 | h0)
        · exact .inl h0
        · exact absurd h0 hji
        · exact .inr h0
      · rintro (h0 | h0)
        · exact .inl h0
        · exact .inr (.inr h0)
  · exact hs.sublist (List.Sublist.append (List.Sublist.refl _) (List.sublist_cons_self _ _))

/-- While something is left, something may come up. -/
theorem Rest.some_ready {n : Nat} {ks : List Nat} {listed : Array Bool} {R S : List Nat} (F : Facts ops n ks) (h : Rest ops n ks listed R S) (hsz : listed.size = ops.size) (hne : R ++ S ≠ []) : Region.ready .any ops listed ≠ [] := by
  cases hRS : R ++ S with
  | nil => exact absurd hRS hne
  | cons i L =>
    have hs := h.sort
    rw [hRS, List.pairwise_cons] at hs
    have hmem : i ∈ R ∨ i ∈ S := List.mem_append.1 (by rw [hRS]; simp)
    have hlt : i < ops.size := by
      rcases hmem with hm | hm
      · exact Nat.lt_of_lt_of_le (h.hR i hm) F.hn
      · exact (h.hS i hm).2
    have hr : i ∈ Region.ready .any ops listed := by
      refine mem_ready.2 ⟨(h.left i).2 hmem, ops[i], Array.getElem?_eq_getElem hlt, fun e he hb => ?_⟩
      have hb' := F.back i ops[i] (Array.getElem?_eq_getElem hlt) e he hb
      have : ¬ (listed.getD e.on true = false) := by
        rw [h.left]
        intro h1
        have h2 : e.on ∈ R ++ S := List.mem_append.2 h1
        rw [hRS] at h2
        rcases List.mem_cons.1 h2 with h3 | h3
        · omega
        · have := hs.1 _ h3; omega
      have hl : e.on < listed.size := by omega
      simp [hl] at this ⊢
      exact this
    intro h0
    rw [h0] at hr
    cases hr

/-- Behind the first of the last ones: only pure ones are left of the first. -/
theorem wpAny_late {n : Nat} {ks : List Nat} (F : Facts ops n ks) (hQ : ∀ c (a : Act) d v w, Qx (.panic c) (a.put d v) w → Qx (.panic c) a w) : ∀ (fuel : Nat) (listed : Array Bool) (R S : List Nat) (a : Act) (w : World),
    Rest ops n ks listed R S → listed.size = ops.size → fuel = R.length + S.length → (∀ i ∈ R, ks.getD i 0 = 0) →
    HW P ops W Φ (fun i => ks.getD i 0) (fun a' => wpOps P ops Qx S a' w) R a → wpAny P .any ops Qx fuel listed a w := by
  intro fuel
  induction fuel with
  | zero =>
    intro listed R S a w hr hsz hf hk h
    have hR : R = [] := List.eq_nil_of_length_eq_zero (by omega)
    have hS : S = [] := List.eq_nil_of_length_eq_zero (by omega)
    subst hR hS
    refine ⟨?_, h⟩
    rcases hrd : Region.ready .any ops listed with _ | ⟨i, l⟩
    · rfl
    · have : i ∈ Region.ready .any ops listed := by rw [hrd]; simp
      have := (hr.left i).1 (mem_ready.1 this).1
      simp at this
  | succ fuel ih =>
    intro listed R S a w hr hsz hf hk h
    refine ⟨fun h0 => absurd h0 (hr.some_ready F hsz (by intro h1; have := congrArg List.length h1; rw [List.length_append, List.length_nil] at this; omega)), fun i hi => ?_⟩
    have hun := (mem_ready.1 hi).1
    have hlt : i < listed.size := by
      rcases Nat.lt_or_ge i listed.size with h' | h'
      · exact h'
      · simp [Array.getElem?_eq_none h'] at hun
    rcases (hr.left i).1 hun with hm | hm
    · obtain ⟨R1, R2, rfl⟩ := List.append_of_mem hm
      have hs := hr.sort
      simp only [List.append_assoc, List.cons_append, List.pairwise_append, List.mem_append, List.mem_cons] at hs
      obtain ⟨o, ho, hc⟩ := HW.front F.sel h (fun j hj oj oi hoj hoi => by
        have hji : j < i := hs.2.2 j hj i (.inl rfl)
        rcases F.pair j i hji (hr.hR i hm) with h1 | h1
        · exact absurd hi (not_ready hr.clos h1 ((hr.left j).2 (.inl (by simp [hj]))))
        · exact h1 oj oi hoj hoi)
      have hki := hk i hm
      rcases hc with ⟨_, v, hy, hh⟩ | ⟨k1, _⟩ | ⟨k1, _⟩
      · exact hy.wpOp ho (ih _ _ _ _ _ (hr.take hlt hi) (by simpa using hsz) (by simp at hf ⊢; omega) (fun j hj => hk j (by simp at hj ⊢; rcases hj with hj | hj <;> simp [hj])) hh)
      · exact absurd (show ks.getD i 0 = 1 from k1) (by rw [hki]; decide)
      · exact absurd (show ks.getD i 0 = 2 from k1) (by rw [hki]; decide)
    · cases S with
      | nil => cases hm
      | cons t S' =>
        have hit : i = t := by
          rcases List.mem_cons.1 hm with h1 | h1
          · exact h1
          · have hs := hr.sort
            simp only [List.pairwise_append, List.pairwise_cons] at hs
            exact absurd hi (not_ready hr.clos (F.chain t i (hr.hS t (by simp)).1 (hs.2.1.1 i h1) (hr.hS i hm).2) ((hr.left t).2 (.inr (by simp))))
        subst hit
        have hi' := hr.hS i hm
        have key : ∀ {R : List Nat} {a : Act}, (∀ j ∈ R, j < n) → (∀ j ∈ R, listed.getD j true = false) → (∀ j ∈ R, ks.getD j 0 = 0) → HW P ops W Φ (fun i => ks.getD i 0) (fun a' => wpOps P ops Qx (i :: S') a' w) R a →
            wpOp P ops Qx i (fun a'' w'' => HW P ops W Φ (fun i => ks.getD i 0) (fun a' => wpOps P ops Qx S' a' w'') R a'') a w := by
          intro R
          induction R with
          | nil =>
            intro a _ _ _ h
            have h' : wpOps P ops Qx (i :: S') a w := h
            rw [wpOps_cons] at h'
            exact h'
          | cons j R ihR =>
            intro a hn1 hl1 hk1 ⟨oj, hoj, h⟩
            rcases h with ⟨k1, v, hy, hh⟩ | ⟨k1, _⟩ | ⟨k1, _⟩
            · have h1 := ihR (fun k hk => hn1 k (by simp [hk])) (fun k hk => hl1 k (by simp [hk])) (fun k hk => hk1 k (by simp [hk])) hh
              have hot : ops[i]? = some ops[i] := Array.getElem?_eq_getElem hi'.2
              have hap : oj.apart ops ops[i] = true := by
                rcases F.tail i j hi'.1 hi'.2 (hn1 j (by simp)) with h2 | h2
                · exact absurd hi (not_ready hr.clos h2 (hl1 j (by simp)))
                · exact h2.2 oj _ hoj hot
              exact wpOp_mono (fun a' w' ⟨hy', hh'⟩ => ⟨oj, hoj, .inl ⟨k1, v, hy', hh'⟩⟩) (wpOp_put hot hap (fun cs b => F.sel j oj cs b hoj) (fun cs b => F.sel i _ cs b hot) (fun c a w => hQ c a _ _ w) hy h1)
            · exact absurd (show ks.getD j 0 = 1 from k1) (by rw [hk1 j (by simp)]; decide)
            · exact absurd (show ks.getD j 0 = 2 from k1) (by rw [hk1 j (by simp)]; decide)
        exact wpOp_mono (fun a'' w'' hh => ih _ _ _ _ _ (hr.takeS hlt hi) (by simpa using hsz) (by simp at hf ⊢; omega) hk hh) (key hr.hR (fun j hj => (hr.left j).2 (.inl hj)) hk h)

/-- Where the walk stands with what is made: not yet (or there is nothing to be made), or made. -/
inductive Stand (P : Program) (ops : Array Oper) (W : World) (Φ : Value → World → Prop) (ks : List Nat) (R : List Nat) (tl : Act → World → Prop) (a : Act) (w : World) : Prop
  | plain (hk : ∀ i ∈ R, ks.getD i 0 ≠ 2) (h : HW P ops W Φ (fun i => ks.getD i 0) (fun a' => ∀ w', Ext W w' → tl a' w') R a)
  | pending (m : Nat) (om : Oper) (hm : m ∈ R) (ho : ops[m]? = some om) (hk : ks.getD m 0 = 2) (h : HW P ops W Φ (fun i => ks.getD i 0) (fun a' => ∀ u w', Ext W w' → Φ u w' → tl (a'.put om.dst u) w') R a)
  | made (u : Value) (hu : Φ u w) (hk : ∀ i ∈ R, ks.getD i 0 ≠ 2) (h : HW P ops W Φ (fun i => ks.getD i 0) (fun a' => ∀ w', Ext W w' → Φ u w' → tl a' w') R a)

theorem wpAny_early {n : Nat} {ks : List Nat} (F : Facts ops n ks) (hQ : ∀ c (a : Act) d v w, Qx (.panic c) (a.put d v) w → Qx (.panic c) a w) (hΦ : ∀ u w w', Φ u w → Ext w w' → Φ u w') (T : List Nat) : ∀ (fuel : Nat) (listed : Array Bool) (R : List Nat) (a : Act) (w : World),
    Rest ops n ks listed R T → listed.size = ops.size → fuel = R.length + T.length → Ext W w →
    Stand P ops W Φ ks R (fun a' w' => wpOps P ops Qx T a' w') a w → wpAny P .any ops Qx fuel listed a w := by
  intro fuel
  induction fuel with
  | zero =>
    intro listed R a w hr hsz hf hW h
    have hR : R = [] := List.eq_nil_of_length_eq_zero (by omega)
    subst hR
    refine wpAny_late (W := W) (Φ := Φ) F hQ 0 listed [] T a w hr hsz hf (fun i hi => by cases hi) ?_
    rcases h with ⟨_, h⟩ | ⟨m, om, hm, _⟩ | ⟨u, hu, _, h⟩
    · exact h w hW
    · cases hm
    · exact h w hW hu
  | succ fuel ih =>
    intro listed R a w hr hsz hf hW h
    by_cases hpure : ∀ i ∈ R, ks.getD i 0 = 0
    · refine wpAny_late (W := W) (Φ := Φ) F hQ _ listed R T a w hr hsz hf hpure ?_
      rcases h with ⟨_, h⟩ | ⟨m, om, hm, _, hk, _⟩ | ⟨u, hu, _, h⟩
      · exact h.mono (fun a' h' => h' w hW)
      · rw [hpure m hm] at hk; cases hk
      · exact h.mono (fun a' h' => h' w hW hu)
    · have ⟨j0, hj0, hk0⟩ : ∃ j0, j0 ∈ R ∧ ks.getD j0 0 ≠ 0 := by
        refine Classical.byContradiction fun hno => hpure fun i hi => Classical.byContradiction fun hne => hno ⟨i, hi, hne⟩
      refine ⟨fun h0 => absurd h0 (hr.some_ready F hsz (by intro h1; have := congrArg List.length h1; rw [List.length_append, List.length_nil] at this; omega)), fun i hi => ?_⟩
      have hun := (mem_ready.1 hi).1
      have hlt : i < listed.size := by
        rcases Nat.lt_or_ge i listed.size with h' | h'
        · exact h'
        · simp [Array.getElem?_eq_none h'] at hun
      rcases (hr.left i).1 hun with hm | hm
      · obtain ⟨R1, R2, rfl⟩ := List.append_of_mem hm
        have hs := hr.sort
        simp only [List.append_assoc, List.cons_append, List.pairwise_append, List.pairwise_cons, List.mem_append, List.mem_cons] at hs
        have hap : ∀ j ∈ R1, ∀ oj oi, ops[j]? = some oj → ops[i]? = some oi → oj.apart ops oi = true := fun j hj oj oi hoj hoi => by
          have hji : j < i := hs.2.2 j hj i (.inl rfl)
          rcases F.pair j i hji (hr.hR i hm) with h1 | h1
          · exact absurd hi (not_ready hr.clos h1 ((hr.left j).2 (.inl (by simp [hj]))))
          · exact h1 oj oi hoj hoi
        have hin : ∀ j, j ∈ R1 ++ R2 → j ∈ R1 ++ i :: R2 := fun j hj => by simp at hj ⊢; rcases hj with hj | hj <;> simp [hj]
        have hni : ∀ j, j ∈ R1 ++ R2 → j ≠ i := by
          rintro j hj rfl
          rcases List.mem_append.1 hj with hj | hj
          · exact absurd (hs.2.2 j hj j (.inl rfl)) (Nat.lt_irrefl _)
          · exact absurd (hs.2.1.1 j (.inl hj)) (Nat.lt_irrefl _)
        have hR' := hr.take hlt hi
        have hz' : (listed.setIfInBounds i true).size = ops.size := by simpa using hsz
        have hf' : fuel = (R1 ++ R2).length + T.length := by simp at hf ⊢; omega
        rcases h with ⟨hk, h⟩ | ⟨m, om, hmm, hom, hk, h⟩ | ⟨u, hu, hk, h⟩
        · obtain ⟨o, ho, hc⟩ := HW.front F.sel h hap
          rcases hc with ⟨_, v, hy, hh⟩ | ⟨_, v, hy, hh⟩ | ⟨k1, _⟩
          · exact hy.wpOp ho (ih _ _ _ _ hR' hz' hf' hW (.plain (fun j hj => hk j (hin j hj)) hh))
          · exact hy.wpOp ho hW (fun w' hx => ih _ _ _ _ hR' hz' hf' (hW.trans hx) (.plain (fun j hj => hk j (hin j hj)) hh))
          · exact absurd k1 (hk i hm)
        · obtain ⟨o, ho, hc⟩ := HW.front F.sel h hap
          rcases hc with ⟨k1, v, hy, hh⟩ | ⟨k1, v, hy, hh⟩ | ⟨k1, hy, hh⟩
          · have hmi : m ≠ i := fun e => by rw [e] at hk; exact absurd (show ks.getD i 0 = 0 from k1) (by rw [hk]; decide)
            refine hy.wpOp ho (ih _ _ _ _ hR' hz' hf' hW (.pending m om ?_ hom hk hh))
            simp at hmm ⊢
            rcases hmm with h1 | h1 | h1
            · exact .inl h1
            · exact absurd h1 hmi
            · exact .inr h1
          · have hmi : m ≠ i := fun e => by rw [e] at hk; exact absurd (show ks.getD i 0 = 1 from k1) (by rw [hk]; decide)
            refine hy.wpOp ho hW (fun w' hx => ih _ _ _ _ hR' hz' hf' (hW.trans hx) (.pending m om ?_ hom hk hh))
            simp at hmm ⊢
            rcases hmm with h1 | h1 | h1
            · exact .inl h1
            · exact absurd h1 hmi
            · exact .inr h1
          · have hmi : m = i := Classical.byContradiction fun hne => (F.make i (hr.hR i hm) k1 m (hr.hR m hmm) hne).1 hk
            subst hmi
            have : om = o := by rw [ho] at hom; injection hom with hom; exact hom.symm
            subst this
            refine hy.wpOp ho hW (fun u w' hx hu => ih _ _ _ _ hR' hz' hf' (hW.trans hx) (.made u hu (fun j hj => (F.make m (hr.hR m hm) hk j (hr.hR j (hin j hj)) (hni j hj)).1) ?_))
            refine (HW.under F.sel u hh (fun j hj oj hoj => by
              rcases (F.make m (hr.hR m hm) hk j (hr.hR j (hin j hj)) (hni j hj)).2 with h1 | h1
              · exact absurd hi (not_ready hr.clos h1 ((hr.left j).2 (.inl (hin j hj))))
              · exact h1 om oj ho hoj)).mono ?_
            rintro a' ⟨a0, rfl, h0⟩ w'' hw'' hu''
            exact h0 u w'' hw'' hu''
        · obtain ⟨o, ho, hc⟩ := HW.front F.sel h hap
          rcases hc with ⟨_, v, hy, hh⟩ | ⟨_, v, hy, hh⟩ | ⟨k1, _⟩
          · exact hy.wpOp ho (ih _ _ _ _ hR' hz' hf' hW (.made u hu (fun j hj => hk j (hin j hj)) hh))
          · exact hy.wpOp ho hW (fun w' hx => ih _ _ _ _ hR' hz' hf' (hW.trans hx) (.made u (hΦ u w w' hu hx) (fun j hj => hk j (hin j hj)) hh))
          · exact absurd k1 (hk i hm)
      · rcases F.tail i j0 (hr.hS i hm).1 (hr.hS i hm).2 (hr.hR j0 hj0) with h1 | h1
        · exact absurd hi (not_ready hr.clos h1 ((hr.left j0).2 (.inl hj0)))
        · exact absurd h1.1 hk0

/-- The walk, over the operations written out. 'mk': the slot of what is made. -/
def HL (P : Program) (ops : Array Oper) (W : World) (Φ : Value → World → Prop) (Q : Act → Prop) : List Oper → List Nat → Act → Prop
  | [], _, a => Q a
  | o :: r, k :: ks, a => (k = 0 ∧ ∃ v, Yields P ops o v a ∧ HL P ops W Φ Q r ks (a.put o.dst v)) ∨ (k = 1 ∧ ∃ v, QAt P ops W o v a ∧ HL P ops W Φ Q r ks (a.put o.dst v)) ∨ (k = 2 ∧ MAt P ops W Φ o a ∧ HL P ops W Φ Q r ks a)
  | _ :: _, [], _ => False

theorem HL.hw {ks0 : List Nat} : ∀ (l : List Oper) (ks : List Nat) (k : Nat) (a : Act), (∀ j o, l[j]? = some o → ops[k + j]? = some o) → (∀ j x, ks[j]? = some x → ks0.getD (k + j) 0 = x) → HL P ops W Φ Q l ks a → HW P ops W Φ (fun i => ks0.getD i 0) Q (List.range' k l.length) a
  | [], _, _, _, _, _, h => h
  | o :: l, [], _, _, _, _, h => h.elim
  | o :: l, x :: ks, k, a, hl, hk, h => by
    have h0 : ops[k]? = some o := hl 0 o rfl
    have hx : ks0.getD k 0 = x := hk 0 x rfl
    have ih := fun a => HL.hw (ks0 := ks0) l ks (k + 1) a (fun j o ho => by rw [Nat.add_assoc, Nat.add_comm 1 j]; exact hl (j + 1) o (by simpa using ho)) (fun j y hy => by rw [Nat.add_assoc, Nat.add_comm 1 j]; exact hk (j + 1) y (by simpa using hy))
    rw [List.length_cons, List.range'_succ]
    refine ⟨o, h0, ?_⟩
    rcases h with ⟨h1, v, h2, h3⟩ | ⟨h1, v, h2, h3⟩ | ⟨h1, h2, h3⟩
    · exact .inl ⟨hx.trans h1, v, h2, ih _ h3⟩
    · exact .inr (.inl ⟨hx.trans h1, v, h2, ih _ h3⟩)
    · exact .inr (.inr ⟨hx.trans h1, h2, ih _ h3⟩)

theorem hl_pure {o : Oper} {r : List Oper} {ks : List Nat} {a : Act}
    (h : ∀ K : Act → Prop, (∀ a, HL P ops W Φ Q r ks a → K a) → if Region.wanted o (yielded ops a.tmps) then ∃ v, (∀ w, (execOp a.eval o).run P w = .ok (.value v) w) ∧ K (a.put o.dst v) else K (a.put o.dst undef)) : HL P ops W Φ Q (o :: r) (0 :: ks) a := by
  have := h _ (fun _ h => h)
  refine .inl ⟨rfl, ?_⟩
  by_cases hw : Region.wanted o (yielded ops a.tmps) = true
  · rw [if_pos hw] at this
    obtain ⟨v, h1, h2⟩ := this
    exact ⟨v, .inl ⟨hw, h1⟩, h2⟩
  · rw [if_neg hw] at this
    exact ⟨undef, .inr ⟨by simpa using hw, rfl⟩, this⟩
theorem hl_quiet {o : Oper} {r : List Oper} {ks : List Nat} {a : Act}
    (h : ∀ K : Act → Prop, (∀ a, HL P ops W Φ Q r ks a → K a) → if Region.wanted o (yielded ops a.tmps) then ∃ v, (∀ x : Later W, QUpon P x.1 v ((execOp a.eval o).run P x.1)) ∧ K (a.put o.dst v) else K (a.put o.dst undef)) : HL P ops W Φ Q (o :: r) (1 :: ks) a := by
  have := h _ (fun _ h => h)
  refine .inr (.inl ⟨rfl, ?_⟩)
  by_cases hw : Region.wanted o (yielded ops a.tmps) = true
  · rw [if_pos hw] at this
    obtain ⟨v, h1, h2⟩ := this
    exact ⟨v, .inl ⟨hw, h1⟩, h2⟩
  · rw [if_neg hw] at this
    exact ⟨undef, .inr ⟨by simpa using hw, rfl⟩, this⟩
theorem hl_make {o : Oper} {r : List Oper} {ks : List Nat} {a : Act} (hg : o.guard = none) (hm : ∀ x : Later W, MUpon Φ x.1 ((execOp a.eval o).run P x.1)) (h : HL P ops W Φ Q r ks a) : HL P ops W Φ Q (o :: r) (2 :: ks) a :=
  .inr (.inr ⟨rfl, ⟨by simp [Region.wanted, hg], hm⟩, h⟩)
theorem hl_nil {ks : List Nat} {a : Act} (h : Q a) : HL P ops W Φ Q [] ks a := h

def QN (Q : Exit → Act → World → Prop) : Exit → Act → World → Prop
  | .normal, a, w => Q .normal a w
  | _, _, _ => False
theorem QN.le {Q : Exit → Act → World → Prop} {e : Exit} {a : Act} {w : World} (h : QN Q e a w) : Q e a w := by
  cases e <;> first | exact h | exact h.elim

theorem region_core {id n : Nat} {ks : List Nat} {Q : Exit → Act → World → Prop} {a : Act} {w : World} {l : List Oper} (hm : P.follows .mixedOrders = true) (hB : chk l.toArray n ks = true)
    (hΦ : ∀ u w w', Φ u w → Ext w w' → Φ u w') (h : Stand P l.toArray w Φ ks (List.range' 0 n) (fun a' w' => wpOps P l.toArray (QN Q) (List.range' n (l.length - n)) a' w') a w.drew) : (Code.region id l.toArray true).wp P Q a w := by
  have F := Facts.of_chk hB
  have hn : n ≤ l.length := by simpa using F.hn
  refine Code.wp_mono (Q := QN Q) (fun e a w h => QN.le h) (wp_region_any hm ?_)
  refine wpAny_early (W := w) (Φ := Φ) F (fun c a d v w h => h) hΦ (List.range' n (l.length - n)) _ _ (List.range' 0 n) a w.drew ⟨fun i => ?_, ?_, fun i hi => ?_, fun i hi => ?_, fun k o hk => ?_⟩ (by simp) (by simp; omega) (Ext.refl w).drew h
  · simp only [List.mem_range'_1, Array.getD_eq_getD_getElem?, Array.getElem?_replicate, List.size_toArray]
    constructor
    · intro h0
      by_cases hi : i < l.length
      · omega
      · simp [hi] at h0
    · intro h0
      have hi : i < l.length := by omega
      simp [hi]
  · rw [List.pairwise_append]
    refine ⟨List.pairwise_lt_range', List.pairwise_lt_range', fun a ha b hb => ?_⟩
    simp only [List.mem_range'_1] at ha hb
    omega
  · simp only [List.mem_range'_1] at hi; omega
  · simp only [List.mem_range'_1, List.size_toArray] at hi ⊢; omega
  · simp only [Array.getD_eq_getD_getElem?, Array.getElem?_replicate] at hk
    split at hk <;> simp at hk

theorem wpOps_list {Q : Exit → Act → World → Prop} {l : List Oper} {n : Nat} (hn : n ≤ l.length) {a : Act} {w : World} (h : wpList P l.toArray Q (l.drop n) a w) : wpOps P l.toArray Q (List.range' n (l.length - n)) a w := by
  have := wpOps_eq_wpList (P := P) (Q := Q) (ops := l.toArray) (l.drop n) n (fun j => by simp)
  rw [List.length_drop] at this
  rw [this]
  exact h

/-- **The region's law.** Nothing is made among the first n operations. -/
theorem wp_region_x {id : Nat} (n : Nat) (ks : List Nat) {Q : Exit → Act → World → Prop} {a : Act} {w : World} {l : List Oper} (hm : P.follows .mixedOrders = true) (hB : chk l.toArray n ks = true) (hk : (ks.length == n && ks.all (· != 2)) = true)
    (h : HL P l.toArray w (fun _ _ => True) (fun a' => ∀ w', Ext w w' → ∀ K : Exit → Act → World → Prop, (∀ a w, Q .normal a w → K .normal a w) → wpList P l.toArray K (l.drop n) a' w') (l.take n) ks a) : (Code.region id l.toArray true).wp P Q a w := by
  have hn : n ≤ l.length := by simpa using (Facts.of_chk hB).hn
  simp only [Bool.and_eq_true, beq_iff_eq, List.all_eq_true, bne_iff_ne] at hk
  refine region_core (Φ := fun _ _ => True) hm hB (fun _ _ _ _ _ => trivial) (.plain (fun i hi => ?_) ?_)
  · simp only [List.mem_range'_1] at hi
    have hi' : i < ks.length := by omega
    rw [List.getD_eq_getElem?_getD, List.getElem?_eq_getElem hi', Option.getD_some]
    exact hk.2 _ (List.getElem_mem hi')
  · have := HL.hw (ks0 := ks) (l.take n) ks 0 a (fun j o ho => by
      rw [List.getElem?_take] at ho
      split at ho
      · simpa using ho
      · cases ho) (fun j x hx => by simp [hx]) h
    rw [List.length_take, Nat.min_eq_left hn] at this
    exact this.mono (fun a' h' w' hw' => wpOps_list hn (h' w' hw' (QN Q) (fun _ _ h => h)))

/-- The same where operation number m makes something of Φ. -/
theorem wp_region_m {id : Nat} (n : Nat) (ks : List Nat) (m : Nat) (Φ : Value → World → Prop) {Q : Exit → Act → World → Prop} {a : Act} {w : World} {l : List Oper} (om : Oper) (hm : P.follows .mixedOrders = true) (hB : chk l.toArray n ks = true) (ho : l[m]? = some om) (hmn : m < n) (hk : ks.getD m 0 = 2)
    (hΦ : ∀ u w w', Φ u w → Ext w w' → Φ u w')
    (h : HL P l.toArray w Φ (fun a' => ∀ u w', Ext w w' → Φ u w' → ∀ K : Exit → Act → World → Prop, (∀ a w, Q .normal a w → K .normal a w) → wpList P l.toArray K (l.drop n) (a'.put om.dst u) w') (l.take n) ks a) : (Code.region id l.toArray true).wp P Q a w := by
  have hn : n ≤ l.length := by simpa using (Facts.of_chk hB).hn
  refine region_core (Φ := Φ) hm hB hΦ (.pending m om (by simp only [List.mem_range'_1]; omega) (by simpa using ho) hk ?_)
  have := HL.hw (ks0 := ks) (l.take n) ks 0 a (fun j o ho => by
    rw [List.getElem?_take] at ho
    split at ho
    · simpa using ho
    · cases ho) (fun j x hx => by simp [hx]) h
  rw [List.length_take, Nat.min_eq_left hn] at this
  exact this.mono (fun a' h' u w' hw' hu => wpOps_list hn (h' u w' hw' hu (QN Q) (fun _ _ h => h)))

/-- A new block of these cells. -/
def Made (W : World) (t : TypeId) (cs : Array Value) (u : Value) (w : World) : Prop := ∃ g, u = .pointer (some ⟨g, 0, none⟩) ∧ W.heap.size ≤ g ∧ At w g t cs
theorem Made.ext {W : World} {t : TypeId} {cs : Array Value} : ∀ u w w', Made W t cs u w → Ext w w' → Made W t cs u w' := fun _ _ _ ⟨g, h1, h2, h3⟩ hx => ⟨g, h1, h2, h3.ext hx⟩
/-- A new slice of these cells. -/
def MadeS (W : World) (t : TypeId) (n : Nat) (cs : Array Value) (u : Value) (w : World) : Prop := ∃ g, u = .slice (some ⟨g, 0, none⟩) n n ∧ W.heap.size ≤ g ∧ At w g t cs
theorem MadeS.ext {W : World} {t : TypeId} {n : Nat} {cs : Array Value} : ∀ u w w', MadeS W t n cs u w → Ext w w' → MadeS W t n cs u w' := fun _ _ _ ⟨g, h1, h2, h3⟩ hx => ⟨g, h1, h2, h3.ext hx⟩
theorem Later.mades (x : Later W) (t : TypeId) (n : Nat) (cs : Array Value) : Ext x.1 (x.1.alloc (.cells cs t)) ∧ MadeS W t n cs (.slice (some ⟨x.1.heap.size, 0, none⟩) n n) (x.1.alloc (.cells cs t)) := ⟨(Ext.refl _).alloc _, _, rfl, x.2.size, At.new _ _ _⟩
theorem Later.cell (x : Later W) (b o : Nat) (h : b < W.heap.size) : x.1.cell? ⟨b, o, none⟩ = W.cell? ⟨b, o, none⟩ := x.2.facts.1 b o h
theorem Later.made (x : Later W) (t : TypeId) (cs : Array Value) : Ext x.1 (x.1.alloc (.cells cs t)) ∧ Made W t cs (.pointer (some ⟨x.1.heap.size, 0, none⟩)) (x.1.alloc (.cells cs t)) := ⟨(Ext.refl _).alloc _, _, rfl, x.2.size, At.new _ _ _⟩
theorem QUpon_value (P : Program) (w : World) (u v : Value) (w' : World) : QUpon P w v (.ok (.value u) w') = (w' = w ∧ u = v) := rfl
theorem QUpon_enter (P : Program) (w : World) (v : Value) (f : FuncId) (args : Array Value) (w' : World) : QUpon P w v (.ok (.enter f args) w') = (w' = w ∧ Calls P f args w (fun e w'' => e = .returned v ∧ Ext w w'')) := rfl
theorem MUpon_value (Φ : Value → World → Prop) (w : World) (u : Value) (w' : World) : MUpon Φ w (.ok (.value u) w') = (Ext w w' ∧ Φ u w') := rfl
end
end Go.Proofs.Ytfbpmngdamaobaa
