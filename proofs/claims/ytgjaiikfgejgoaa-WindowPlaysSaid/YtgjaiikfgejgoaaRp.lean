/- Regions that draw their order, 4: one list in the order of the text: what only reads, or calls what only makes memory, under a condition that may turn with each of the others; the others in one order; nothing of the text behind one of the others may come ahead of it. No condition beyond what 'chkP' reckons. -/
import Derived.Test.YtgjaiikfgejgoaaRs
namespace Go.Proofs.Ytgjaiikfgejgoaa
open Go.RowKit
section
variable {P : Program} {ops : Array Oper}
/-- Which ones an operation waits for, as bits. -/
def grow (o : Oper) (m : List Nat) : Nat := o.after.toList.foldl (fun acc e => if Region.binds .any e then acc ||| (2 ^ e.on ||| m.getD e.on 0) else acc) 0
def masks (ops : Array Oper) : Nat → List Nat
  | 0 => []
  | n + 1 => (fun m => m ++ [match ops[n]? with | some o => grow o m | none => 0]) (masks ops n)
theorem masks_len : ∀ n, (masks ops n).length = n
  | 0 => rfl
  | n + 1 => by simp [masks, masks_len n]
theorem masks_get (j : Nat) : ∀ n, j < n → (masks ops n).getD j 0 = (match ops[j]? with | some o => grow o (masks ops j) | none => 0)
  | 0, h => absurd h (Nat.not_lt_zero _)
  | n + 1, h => by
    show (masks ops n ++ [_]).getD j 0 = _
    rw [List.getD_eq_getElem?_getD]
    rcases Nat.lt_or_ge j n with h1 | h1
    · rw [List.getElem?_append_left (by rw [masks_len]; exact h1), ← List.getD_eq_getElem?_getD]
      exact masks_get j n h1
    · obtain rfl : j = n := by omega
      rw [List.getElem?_append_right (by rw [masks_len]; exact Nat.le_refl _), masks_len, Nat.sub_self]
      rfl
theorem grow_bits {o : Oper} {m : List Nat} {i : Nat} (h : (grow o m).testBit i = true) : ∃ e ∈ o.after, Region.binds .any e = true ∧ (e.on = i ∨ (m.getD e.on 0).testBit i = true) := by
  have key : ∀ (l : List _) (acc : Nat), (l.foldl (fun acc e => if Region.binds .any e then acc ||| (2 ^ e.on ||| m.getD e.on 0) else acc) acc).testBit i = true → acc.testBit i = true ∨ ∃ e ∈ l, Region.binds .any e = true ∧ (e.on = i ∨ (m.getD e.on 0).testBit i = true) := by
    intro l
    induction l with
    | nil => intro acc h; exact .inl h
    | cons e l ih =>
      intro acc h
      rw [List.foldl_cons] at h
      rcases ih _ h with h1 | ⟨e', he', h1⟩
      · by_cases hb : Region.binds .any e = true
        · rw [if_pos hb, Nat.testBit_or, Nat.testBit_or, Bool.or_eq_true, Bool.or_eq_true, Nat.testBit_two_pow, decide_eq_true_eq] at h1
          rcases h1 with h1 | h1 | h1
          · exact .inl h1
          · exact .inr ⟨e, by simp, hb, .inl h1⟩
          · exact .inr ⟨e, by simp, hb, .inr h1⟩
        · rw [if_neg hb] at h1
          exact .inl h1
      · exact .inr ⟨e', by simp [he'], h1⟩
  rcases key _ _ h with h1 | ⟨e, he, h1⟩
  · simp at h1
  · exact ⟨e, by simpa using he, h1⟩
theorem masks_listed {i : Nat} {listed : Array Bool} (hc : Closed ops listed) : ∀ (k j : Nat), j < k → (∀ o, ops[j]? = some o → ∀ e ∈ o.after, Region.binds .any e = true → listed.getD e.on false = true) → ∀ n, j < n → ((masks ops n).getD j 0).testBit i = true → listed.getD i false = true := by
  intro k
  induction k with
  | zero => intro j hj; omega
  | succ k ih =>
    intro j hj hd n hn h
    rw [masks_get j n hn] at h
    cases ho : ops[j]? with
    | none => rw [ho] at h; simp at h
    | some o =>
      rw [ho] at h
      obtain ⟨e, he, hb, h1⟩ := grow_bits h
      have h2 := hd o ho e he hb
      rcases h1 with h1 | h1
      · rwa [h1] at h2
      · rcases Nat.lt_or_ge e.on j with h3 | h3
        · exact ih e.on (by omega) (fun o' ho' e' he' hb' => hc e.on o' h2 ho' e' he' hb') j h3 h1
        · rw [List.getD_eq_getElem?_getD, List.getElem?_eq_none (by rw [masks_len]; exact h3)] at h1
          simp at h1
theorem not_readyM {i j n : Nat} {listed : Array Bool} (hc : Closed ops listed) (hn : j < n) (h : ((masks ops n).getD j 0).testBit i = true) (hi : listed.getD i true = false) : j ∉ Region.ready .any ops listed := by
  intro hr
  obtain ⟨_, o, ho, hall⟩ := mem_ready.1 hr
  have h1 := masks_listed hc (j + 1) j (Nat.lt_succ_self _) (fun o' ho' => by rw [ho] at ho'; injection ho' with ho'; subst ho'; exact hall) n hn h
  rcases Nat.lt_or_ge i listed.size with h' | h'
  · simp [h'] at hi h1; rw [hi] at h1; cases h1
  · simp [Array.getElem?_eq_none h'] at h1
def relB (ops : Array Oper) (m : List Nat) (x y : Nat × Bool) : Bool := (m.getD y.1 0).testBit x.1 || (!x.2 && apartB ops x.1 y.1)
def pairsB (f : Nat × Bool → Nat × Bool → Bool) : List (Nat × Bool) → Bool
  | [] => true
  | x :: l => l.all (fun y => f x y) && pairsB f l
theorem pairsB_spec {f : Nat × Bool → Nat × Bool → Bool} : ∀ {l : List (Nat × Bool)}, pairsB f l = true → l.Pairwise (fun x y => f x y = true)
  | [], _ => .nil
  | x :: l, h => by
    unfold pairsB at h
    rw [Bool.and_eq_true, List.all_eq_true] at h
    exact .cons h.1 (pairsB_spec h.2)
def chkP (ops : Array Oper) (C : List (Nat × Bool)) : Bool :=
  Region.noSelect ops &&
  ((List.range ops.size).all fun j => match ops[j]? with | some oj => oj.after.all fun e => !Region.binds .any e || decide (e.on < j) | none => true) &&
  (C.length == ops.size) && ((List.range ops.size).all fun i => C.any fun x => x.1 == i) && (C.all fun x => decide (x.1 < ops.size)) && pairsB (fun x y => x.1 != y.1) C &&
  (fun m : List Nat => pairsB (relB ops m) C) (masks ops ops.size)
def Rel (ops : Array Oper) (x y : Nat × Bool) : Prop := ((masks ops ops.size).getD y.1 0).testBit x.1 = true ∨ (x.2 = false ∧ ∀ oi oj, ops[x.1]? = some oi → ops[y.1]? = some oj → oi.apart ops oj = true)
structure FactsP (ops : Array Oper) (C : List (Nat × Bool)) : Prop where
  sel : ∀ (j : Nat) (o : Oper) cs b, ops[j]? = some o → o.op ≠ .select cs b
  back : ∀ (j : Nat) (o : Oper), ops[j]? = some o → ∀ e ∈ o.after, Region.binds .any e = true → e.on < j
  len : C.length = ops.size
  all : ∀ i, i < ops.size → i ∈ C.map Prod.fst
  lt : ∀ x ∈ C, x.1 < ops.size
  nd : C.Pairwise (fun x y => x.1 ≠ y.1)
  pair : C.Pairwise (Rel ops)
theorem FactsP.of_chk {C : List (Nat × Bool)} (h : chkP ops C = true) : FactsP ops C := by
  simp only [chkP, Bool.and_eq_true, beq_iff_eq] at h
  obtain ⟨⟨⟨⟨⟨⟨h1, h3⟩, h4⟩, h8⟩, h5⟩, h6⟩, h7⟩ := h
  refine ⟨Region.noSelect_spec h1, fun j o ho e he hb => ?_, h4, fun i hi => ?_, fun x hx => of_decide_eq_true (List.all_eq_true.1 h5 x hx), (pairsB_spec h6).imp (fun h => by simpa using h), (pairsB_spec h7).imp (fun {x y} h => ?_)⟩
  · have := List.all_eq_true.1 h3 j (List.mem_range.2 (Array.getElem?_eq_some_iff.1 ho).1)
    rw [ho] at this
    have h10 := Array.all_eq_true_iff_forall_mem.1 this e he
    simp only [hb, Bool.not_true, Bool.false_or, decide_eq_true_eq] at h10
    exact h10
  · obtain ⟨x, hx, he⟩ := List.any_eq_true.1 (List.all_eq_true.1 h8 i (List.mem_range.2 hi))
    exact List.mem_map.2 ⟨x, hx, by simpa using he⟩
  · unfold relB at h
    rw [Bool.or_eq_true, Bool.and_eq_true, Bool.not_eq_true'] at h
    exact h.imp id (fun h => ⟨h.1, apartB_spec h.2⟩)
/-- It answers v, in whatever world meets the condition; where it calls, what is called only makes memory. -/
def YQ (P : Program) (ops : Array Oper) (S : World → Prop) (o : Oper) (v : Value) (a : Act) : Prop :=
  (Region.wanted o (yielded ops a.tmps) = true ∧ ∀ x, S x → QUpon P x v ((execOp a.eval o).run P x)) ∨ (Region.wanted o (yielded ops a.tmps) = false ∧ v = undef)
theorem YQ.of_same {S : World → Prop} {o : Oper} {v : Value} {a a' : Act} (hy : YQ P ops S o v a) (he : execOp a'.eval o = execOp a.eval o) (hw : Region.wanted o (yielded ops a'.tmps) = Region.wanted o (yielded ops a.tmps)) : YQ P ops S o v a' := by
  unfold YQ at *
  rw [he, hw]
  exact hy
theorem YQ.less {S S' : World → Prop} (hS : ∀ x, S' x → S x) {o : Oper} {v : Value} {a : Act} (hy : YQ P ops S o v a) : YQ P ops S' o v a := hy.imp (fun ⟨h1, h2⟩ => ⟨h1, fun x hx => h2 x (hS x hx)⟩) id
theorem YQ.wpOp {S : World → Prop} {Q : Exit → Act → World → Prop} {i : Nat} {o : Oper} {v : Value} {a : Act} (hi : ops[i]? = some o) (hy : YQ P ops S o v a) {w : World} (hW : S w) {K : Act → World → Prop} (h : ∀ w', Ext w w' → K (a.put o.dst v) w') : wpOp P ops Q i K a w := by
  unfold Go.wpOp
  simp only [hi]
  rcases hy with ⟨hw, hv⟩ | ⟨hw, rfl⟩
  · simp only [hw, if_true]
    refine .inl ?_
    have h1 := hv w hW
    unfold Oper.wp
    generalize (execOp a.eval o).run P w = r at *
    cases r with
    | ok n w' =>
      cases n <;> simp only [QUpon] at h1 <;> simp only [Oper.upon]
      case value u =>
        obtain ⟨rfl, rfl⟩ := h1
        exact h _ (Ext.refl _)
      case enter f args =>
        obtain ⟨rfl, h2⟩ := h1
        exact h2.mono fun e w'' ⟨he, hx⟩ => by subst he; exact h _ hx
    | halt x w' => simp only [QUpon] at h1
  · simp only [hw, Bool.false_eq_true, if_false]
    exact h _ (Ext.refl _)
variable {Qx : Exit → Act → World → Prop}
/-- The walk by the numbers. -/
def PW (P : Program) (ops : Array Oper) (Qx : Exit → Act → World → Prop) : List (Nat × Bool) → World → (World → Prop) → Act → Prop
  | [], W, _, a => ∀ w, Ext W w → Qx .normal a w
  | (i, false) :: C, W, S, a => ∃ o v, ops[i]? = some o ∧ YQ P ops S o v a ∧ PW P ops Qx C W S (a.put o.dst v)
  | (t, true) :: C, W, S, a => ∀ w, Ext W w → wpOp P ops Qx t (fun a' w' => ∃ S' : World → Prop, (∀ x, S' x → S x) ∧ (∀ x, Ext w' x → S' x) ∧ PW P ops Qx C w' S' a') a w
def fls (R : List Nat) : List (Nat × Bool) := R.map fun i => (i, false)
theorem PW.ext : ∀ {C : List (Nat × Bool)} {W W' : World} {S : World → Prop} {a : Act}, Ext W W' → PW P ops Qx C W S a → PW P ops Qx C W' S a
  | [], _, _, _, _, hx, h => fun w hw => h w (hx.trans hw)
  | (_, false) :: _, _, _, _, _, hx, ⟨o, v, ho, y, h⟩ => ⟨o, v, ho, y, PW.ext hx h⟩
  | (_, true) :: _, _, _, _, _, hx, h => fun w hw => h w (hx.trans hw)
theorem PW.front (hsel : ∀ (j : Nat) (o : Oper) cs b, ops[j]? = some o → o.op ≠ .select cs b) {i : Nat} {C : List (Nat × Bool)} {W : World} {S : World → Prop} : ∀ {R : List Nat} {a : Act}, PW P ops Qx (fls R ++ (i, false) :: C) W S a →
    (∀ j ∈ R, ∀ oj oi, ops[j]? = some oj → ops[i]? = some oi → oj.apart ops oi = true) →
    ∃ o v, ops[i]? = some o ∧ YQ P ops S o v a ∧ PW P ops Qx (fls R ++ C) W S (a.put o.dst v)
  | [], _, h, _ => h
  | j :: R, a, ⟨oj, vj, hj, hy, hr⟩, hap => by
    obtain ⟨oi, v, hoi, y, hh⟩ := PW.front hsel hr (fun k hk => hap k (by simp [hk]))
    obtain ⟨h1, h2, h3⟩ := Oper.apart_spec (hap j (by simp) oj oi hj hoi)
    refine ⟨oi, v, hoi, y.of_same (execOp_put oi (fun cs b => hsel i oi cs b hoi) a oj.dst vj h1).symm (wanted_put oi a oj.dst vj h1).symm, oj, vj, hj, hy.of_same (execOp_put oj (fun cs b => hsel j oj cs b hj) a oi.dst v h3) (wanted_put oj a oi.dst v h3), ?_⟩
    rw [← Act.put_comm a vj v h2]
    exact hh
theorem wpOp_putQ {S : World → Prop} {j : Nat} {oi oj : Oper} {v : Value} (hj : ops[j]? = some oj) (hap : oi.apart ops oj = true)
    (hsi : ∀ cs b, oi.op ≠ .select cs b) (hsj : ∀ cs b, oj.op ≠ .select cs b)
    (hQ : ∀ c a w, Qx (.panic c) (a.put oi.dst v) w → Qx (.panic c) a w) {K : Act → World → Prop} {a : Act} {w : World}
    (hy : YQ P ops S oi v a) (h : wpOp P ops Qx j K (a.put oi.dst v) w) :
    wpOp P ops Qx j (fun a' w' => YQ P ops S oi v a' ∧ K (a'.put oi.dst v) w') a w := by
  obtain ⟨h1, h2, h3⟩ := Oper.apart_spec hap
  have keep : ∀ (a : Act), YQ P ops S oi v a → ∀ u, YQ P ops S oi v (a.put oj.dst u) := fun a hy u =>
    hy.of_same (execOp_put oi hsi a oj.dst u h3) (wanted_put oi a oj.dst u h3)
  have keepD : ∀ d, YQ P ops S oi v { a with defers := d :: a.defers } := fun d => hy.of_same rfl rfl
  unfold Go.wpOp at *
  simp only [hj] at *
  rw [wanted_put oj a oi.dst v h1] at h
  split
  · rename_i hw
    simp only [hw, if_true] at h
    rcases h with h | ⟨hasks, hlets⟩
    case inr => exact .inr ⟨by unfold Oper.asks at *; rw [execOp_put oj hsj a oi.dst v h1] at hasks; exact hasks, hlets⟩
    refine .inl ?_
    unfold Oper.wp at *
    rw [execOp_put oj hsj a oi.dst v h1] at h
    generalize (execOp a.eval oj).run P w = r at *
    cases r with
    | ok n w' =>
      cases n <;> simp only [Oper.upon] at h ⊢
      case value u => exact ⟨keep a hy u, by rw [← Act.put_comm a v u h2]; exact h⟩
      case skip => exact ⟨keep a hy _, by rw [← Act.put_comm a v undef h2]; exact h⟩
      case defer d =>
        refine ⟨keep _ (keepD d) _, ?_⟩
        rw [← Act.put_comm _ v undef h2, ← Act.put_defers]
        exact h
      case enter f args =>
        refine Calls.mono h fun e w'' he => ?_
        cases e with
        | returned u => exact ⟨keep a hy u, by rw [← Act.put_comm a v u h2]; exact he⟩
        | panicked c => exact hQ _ _ _ he
        | outgrown => exact he
      case row row args => exact Rows.mono h fun u w'' he => ⟨keep a hy u, by rw [← Act.put_comm a v u h2]; exact he⟩
    | halt x w' =>
      cases x <;> simp only [Oper.upon] at h ⊢
      case panic u => exact hQ _ _ _ h
  · rename_i hw
    simp only [hw] at h
    exact ⟨keep a hy _, by rw [← Act.put_comm a v undef h2]; exact h⟩
theorem PW.main (hsel : ∀ (j : Nat) (o : Oper) cs b, ops[j]? = some o → o.op ≠ .select cs b) (hQ : ∀ c (a : Act) d v w, Qx (.panic c) (a.put d v) w → Qx (.panic c) a w) {t : Nat} (ht : t < ops.size) {C : List (Nat × Bool)} {W : World} {S : World → Prop} : ∀ {R : List Nat} {a : Act}, PW P ops Qx (fls R ++ (t, true) :: C) W S a →
    (∀ j ∈ R, ∀ oj ot, ops[j]? = some oj → ops[t]? = some ot → oj.apart ops ot = true) →
    ∀ w, Ext W w → wpOp P ops Qx t (fun a' w' => ∃ S' : World → Prop, (∀ x, S' x → S x) ∧ (∀ x, Ext w' x → S' x) ∧ PW P ops Qx (fls R ++ C) w' S' a') a w
  | [], _, h, _ => h
  | j :: R, a, ⟨oj, vj, hj, hy, hr⟩, hap => fun w hw => by
    have hot : ops[t]? = some ops[t] := Array.getElem?_eq_getElem ht
    have h1 := PW.main hsel hQ ht hr (fun k hk => hap k (by simp [hk])) w hw
    refine wpOp_mono ?_ (wpOp_putQ hot (hap j (by simp) oj _ hj hot) (fun cs b => hsel j oj cs b hj) (fun cs b => hsel t _ cs b hot) (fun c a w => hQ c a _ _ w) hy h1)
    rintro a' w' ⟨hy', S', hS, hE, hp⟩
    exact ⟨S', hS, hE, oj, vj, hj, hy'.less hS, hp⟩
structure RestP (ops : Array Oper) (listed : Array Bool) (C : List (Nat × Bool)) : Prop where
  left : ∀ i, listed.getD i true = false ↔ i ∈ C.map Prod.fst
  nd : C.Pairwise (fun x y => x.1 ≠ y.1)
  pair : C.Pairwise (Rel ops)
  lt : ∀ x ∈ C, x.1 < ops.size
  clos : Closed ops listed
theorem RestP.take {listed : Array Bool} {X Y : List (Nat × Bool)} {x : Nat × Bool} (h : RestP ops listed (X ++ x :: Y)) (hi : x.1 < listed.size) (hrd : x.1 ∈ Region.ready .any ops listed) : RestP ops (listed.setIfInBounds x.1 true) (X ++ Y) := by
  have hs := h.nd
  rw [List.pairwise_append, List.pairwise_cons] at hs
  obtain ⟨s1, ⟨s2, s3⟩, s4⟩ := hs
  refine ⟨left_set hi h.left (fun j hj => ?_) (fun h1 => ?_), ?_, ?_, fun y hy => h.lt y (by simp at hy ⊢; rcases hy with hy | hy <;> simp [hy]), h.clos.set hrd⟩
  · rw [List.map_append, List.map_cons, List.map_append]
    simp only [List.mem_append, List.mem_cons, hj, false_or]
  · obtain ⟨y, hy, he⟩ := List.mem_map.1 h1
    rcases List.mem_append.1 hy with h2 | h2
    · exact s4 y h2 x (by simp) he
    · exact s2 y h2 he.symm
  · exact h.nd.sublist (List.Sublist.append (List.Sublist.refl _) (List.sublist_cons_self _ _))
  · exact h.pair.sublist (List.Sublist.append (List.Sublist.refl _) (List.sublist_cons_self _ _))
theorem RestP.some_ready {listed : Array Bool} {x : Nat × Bool} {C C0 : List (Nat × Bool)} (F : FactsP ops C0) (h : RestP ops listed (x :: C)) (hsz : listed.size = ops.size) : Region.ready .any ops listed ≠ [] := by
  have key : ∀ n i, i < n → i ∈ (x :: C).map Prod.fst → Region.ready .any ops listed ≠ [] := by
    intro n
    induction n with
    | zero => intro i hi; omega
    | succ n ih =>
      intro i hi hm
      obtain ⟨y, hy, rfl⟩ := List.mem_map.1 hm
      have hlt := h.lt y hy
      by_cases hall : ∀ e ∈ ops[y.1].after, Region.binds .any e = true → listed.getD e.on false = true
      · have hr : y.1 ∈ Region.ready .any ops listed := mem_ready.2 ⟨(h.left y.1).2 hm, ops[y.1], Array.getElem?_eq_getElem hlt, hall⟩
        intro h0
        rw [h0] at hr
        cases hr
      · obtain ⟨e, he, hb, hn⟩ : ∃ e, e ∈ ops[y.1].after ∧ Region.binds .any e = true ∧ ¬ listed.getD e.on false = true := by
          refine Classical.byContradiction fun hno => hall fun e he hb => Classical.byContradiction fun hn => hno ⟨e, he, hb, hn⟩
        have hb' := F.back y.1 ops[y.1] (Array.getElem?_eq_getElem hlt) e he hb
        have hl : e.on < listed.size := by omega
        refine ih e.on (by omega) ((h.left e.on).1 ?_)
        simp [hl] at hn ⊢
        exact hn
  exact key (x.1 + 1) x.1 (Nat.lt_succ_self _) (by simp)
theorem fls_of : ∀ (X : List (Nat × Bool)), (∀ y ∈ X, y.2 = false) → X = fls (X.map Prod.fst)
  | [], _ => rfl
  | (i, b) :: X, h => by
    have hb : b = false := h (i, b) (by simp)
    subst hb
    show _ = (i, false) :: fls (X.map Prod.fst)
    rw [← fls_of X (fun y hy => h y (by simp [hy]))]
theorem wpAny_pw {C0 : List (Nat × Bool)} (F : FactsP ops C0) (hQ : ∀ c (a : Act) d v w, Qx (.panic c) (a.put d v) w → Qx (.panic c) a w) : ∀ (fuel : Nat) (listed : Array Bool) (C : List (Nat × Bool)) (W : World) (S : World → Prop) (a : Act) (w : World),
    RestP ops listed C → listed.size = ops.size → fuel = C.length → Ext W w → (∀ x, Ext W x → S x) →
    PW P ops Qx C W S a → wpAny P .any ops Qx fuel listed a w := by
  intro fuel
  induction fuel with
  | zero =>
    intro listed C W S a w hr hsz hf hx hS h
    have hC : C = [] := List.eq_nil_of_length_eq_zero hf.symm
    subst hC
    refine ⟨?_, h w hx⟩
    rcases hrd : Region.ready .any ops listed with _ | ⟨i, l⟩
    · rfl
    · have : i ∈ Region.ready .any ops listed := by rw [hrd]; simp
      have := (hr.left i).1 (mem_ready.1 this).1
      simp at this
  | succ fuel ih =>
    intro listed C W S a w hr hsz hf hx hS h
    obtain ⟨x0, C0, rfl⟩ : ∃ x C', C = x :: C' := by
      cases C with
      | nil => simp at hf
      | cons x C' => exact ⟨x, C', rfl⟩
    refine ⟨fun h0 => absurd h0 (hr.some_ready F hsz), fun i hi => ?_⟩
    have hun := (mem_ready.1 hi).1
    have hlt : i < listed.size := by
      rcases Nat.lt_or_ge i listed.size with h' | h'
      · exact h'
      · simp [Array.getElem?_eq_none h'] at hun
    have hm := (hr.left i).1 hun
    obtain ⟨x, hxm, rfl⟩ := List.mem_map.1 hm
    obtain ⟨X, Y, hXY⟩ := List.append_of_mem hxm
    rw [hXY] at hr h hf
    have hs := hr.pair
    rw [List.pairwise_append] at hs
    have hlti := hr.lt x (by simp)
    have hX : ∀ y ∈ X, y.2 = false ∧ ∀ oi oj, ops[y.1]? = some oi → ops[x.1]? = some oj → oi.apart ops oj = true := by
      intro y hy
      rcases hs.2.2 y hy x (by simp) with h1 | h1
      · exact absurd hi (not_readyM hr.clos hlti h1 ((hr.left y.1).2 (by rw [List.map_append]; exact List.mem_append_left _ (List.mem_map.2 ⟨y, hy, rfl⟩))))
      · exact h1
    have hfl := fls_of X (fun y hy => (hX y hy).1)
    have hap : ∀ j ∈ X.map Prod.fst, ∀ oj oi, ops[j]? = some oj → ops[x.1]? = some oi → oj.apart ops oi = true := by
      intro j hj
      obtain ⟨y, hy, rfl⟩ := List.mem_map.1 hj
      exact (hX y hy).2
    have hr' := hr.take hlt hi
    have hlen : (X ++ Y).length = fuel := by simp at hf ⊢; omega
    obtain ⟨i, b⟩ := x
    cases b with
    | false =>
      rw [hfl] at h
      obtain ⟨o, v, ho, hy, hh⟩ := PW.front F.sel h hap
      rw [← hfl] at hh
      exact hy.wpOp ho (hS w hx) (fun w' hw' => ih _ _ _ _ _ _ hr' (by simpa using hsz) hlen.symm (hx.trans hw') hS hh)
    | true =>
      rw [hfl] at h
      have h1 := PW.main F.sel hQ hlti h hap w hx
      refine wpOp_mono ?_ h1
      rintro a' w' ⟨S', _, hE, hp⟩
      rw [← hfl] at hp
      exact ih _ _ _ _ _ _ hr' (by simpa using hsz) hlen.symm (Ext.refl _) hE hp
/-- **The region's law, 4.** -/
theorem wp_region_q {id : Nat} (C : List (Nat × Bool)) (S : World → Prop) {Q : Exit → Act → World → Prop} {a : Act} {w : World} {l : List Oper} (hm : P.follows .mixedOrders = true) (hB : chkP l.toArray C = true) (hS : ∀ x, Ext w x → S x)
    (h : ∀ Qy : Exit → Act → World → Prop, (∀ a w, Q .normal a w → Qy .normal a w) → PW P l.toArray Qy C w S a) : (Code.region id l.toArray true).wp P Q a w := by
  have F := FactsP.of_chk hB
  refine Code.wp_mono (Q := QN Q) (fun e a w h => QN.le h) (wp_region_any hm ?_)
  refine wpAny_pw F (fun c a d v w h => h) _ _ C w S a w.drew ⟨fun i => ?_, F.nd, F.pair, F.lt, fun k o hk => ?_⟩ (by simp) F.len.symm ((Ext.refl w).drew) hS (h (QN Q) (fun _ _ h => h))
  · have hmem : i ∈ C.map Prod.fst ↔ i < l.length := by
      constructor
      · intro hi
        obtain ⟨x, hx, rfl⟩ := List.mem_map.1 hi
        have := F.lt x hx
        simpa using this
      · intro hi
        exact F.all i (by simpa using hi)
    rw [hmem]
    simp only [Array.getD_eq_getD_getElem?, Array.getElem?_replicate, List.size_toArray]
    constructor
    · intro h0
      by_cases hi : i < l.length
      · exact hi
      · simp [hi] at h0
    · intro h0
      simp [h0]
  · simp only [Array.getD_eq_getD_getElem?, Array.getElem?_replicate] at hk
    split at hk <;> simp at hk
theorem pw_nil {W : World} {S : World → Prop} {a : Act} (h : ∀ w, Ext W w → Qx .normal a w) : PW P ops Qx [] W S a := h
theorem pw_main {i : Nat} {o : Oper} {C : List (Nat × Bool)} {W : World} {S : World → Prop} {a : Act} (ho : ops[i]? = some o) (h : ∀ w, Ext W w → ∀ K' : Exit → Act → World → Prop, (∀ a' w' (S' : World → Prop), (∀ x, S' x → S x) → (∀ x, Ext w' x → S' x) → PW P ops Qx C w' S' a' → K' .normal a' w') → wpList P ops K' [o] a w) : PW P ops Qx ((i, true) :: C) W S a :=
  fun w hw => one_op ho (fun _ _ h => h) (h w hw (QK (fun a' w' => ∃ S' : World → Prop, (∀ x, S' x → S x) ∧ (∀ x, Ext w' x → S' x) ∧ PW P ops Qx C w' S' a')) (fun a' w' S' h1 h2 h3 => ⟨S', h1, h2, h3⟩))
/-- A reader where these blocks are as they were in W0. -/
theorem pw_same {W0 : World} {bl : List Nat} {i : Nat} {o : Oper} {C : List (Nat × Bool)} {W : World} {a : Act} (ho : ops[i]? = some o)
    (h : ∀ K2 : Act → Prop, (∀ a, PW P ops Qx C W (fun x => ∀ b ∈ bl, x.heap[b]? = W0.heap[b]?) a → K2 a) → if Region.wanted o (yielded ops a.tmps) then ∃ v, (∀ x : Same W0 bl, (execOp a.eval o).run P x.1 = .ok (.value v) x.1) ∧ K2 (a.put o.dst v) else K2 (a.put o.dst undef)) : PW P ops Qx ((i, false) :: C) W (fun x => ∀ b ∈ bl, x.heap[b]? = W0.heap[b]?) a := by
  have := h _ (fun _ h => h)
  by_cases hw : Region.wanted o (yielded ops a.tmps) = true
  · rw [if_pos hw] at this
    obtain ⟨v, h1, h2⟩ := this
    exact ⟨o, v, ho, .inl ⟨hw, fun x hx => by rw [h1 ⟨x, hx⟩]; exact ⟨rfl, rfl⟩⟩, h2⟩
  · rw [if_neg hw] at this
    exact ⟨o, undef, ho, .inr ⟨by simpa using hw, rfl⟩, this⟩
/-- A reader, or a call that only makes memory, in a world behind W0. -/
theorem pw_later {W0 : World} {i : Nat} {o : Oper} {C : List (Nat × Bool)} {W : World} {a : Act} (ho : ops[i]? = some o)
    (h : ∀ K2 : Act → Prop, (∀ a, PW P ops Qx C W (fun x => Ext W0 x) a → K2 a) → if Region.wanted o (yielded ops a.tmps) then ∃ v, (∀ x : Later W0, QUpon P x.1 v ((execOp a.eval o).run P x.1)) ∧ K2 (a.put o.dst v) else K2 (a.put o.dst undef)) : PW P ops Qx ((i, false) :: C) W (fun x => Ext W0 x) a := by
  have := h _ (fun _ h => h)
  by_cases hw : Region.wanted o (yielded ops a.tmps) = true
  · rw [if_pos hw] at this
    obtain ⟨v, h1, h2⟩ := this
    exact ⟨o, v, ho, .inl ⟨hw, fun x hx => h1 ⟨x, hx⟩⟩, h2⟩
  · rw [if_neg hw] at this
    exact ⟨o, undef, ho, .inr ⟨by simpa using hw, rfl⟩, this⟩
end
end Go.Proofs.Ytgjaiikfgejgoaa
