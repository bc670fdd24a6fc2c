/- Loops over an iterator, whose variable has a block of its own. No condition. -/
import Derived.Test.YthophidcgkjdeaaRi
namespace Go.Proofs.Ythophidcgkjdeaa
open Go.RowKit Go.Shelf
section
variable {F : Fence} {n : Nat} {P : Program} {α : Type}
/-- What an iterator promises: V says what may come behind what has come. -/
def HandsP (F : Fence) (n : Nat) (P : Program) (g : Nat) (lb : Array Value) (encs : α → Array Value) (V : List α → α → Prop) (Kp : World → World → Prop) (S Sp : List α → Prop) (W0 : World) : Prop :=
  ∀ (l : Nat) (J Jx : List α → World → Prop) (W : World), Below W0.heap.size W0 W → AbidesFrom W.heap.size J → AbidesFrom W.heap.size Jx →
    (∀ pre x X, J pre X → V pre x → YieldAt F (n - 1) P l (encs x) X fun e X' => (e = .returned (.bool true) ∧ J (pre ++ [x]) X' ∧ Kp X X') ∨ (e = .returned (.bool false) ∧ Jx (pre ++ [x]) X')) →
    J [] W → CallsIn F n P g (#[.func (.yield l) #[] #[]] ++ lb) W fun e W' => (∃ v, e = .returned v) ∧ ((∃ xs, S xs ∧ J xs W') ∨ ∃ pre, Sp pre ∧ Jx pre W')
set_option maxHeartbeats 1000000 in
/-- **The law, where the loop's variable has a block of its own.** -/
theorem range_b {g : Operand} {ps : Array Tmp} {assign body : Code} {Q : Exit → Act → World → Prop} {a : Act} {w : World} (hro : F.round = none) (h1 : 1 ≤ n) {gf : Nat} {lb : Array Value}
    (hg : a.eval g = .func (.func gf) #[] lb) (hF : F.fn gf) (eg : ∀ args w, (callFunc gf args).run P w = .ok (.enter gf args) w)
    {encs : α → Array Value} {V : List α → α → Prop} {Kp : World → World → Prop} {S Sp : List α → Prop} {W0 : World} (hseq : HandsP F (n - 1) P gf lb encs V Kp S Sp W0) (hb0 : Below W0.heap.size W0 w) (hps : ∀ x, (encs x).size = ps.size)
    (hKt : ∀ {A B C : World}, Kp A B → Kp B C → Kp A C) (hKb : ∀ (W : World) (l : Nat) (o o' : Obj), w.heap.size ≤ l → W.heap[l]? = some o → o.isCells = false → Kp W (W.putObj l o'))
    (I : List α → World → Prop) (Ix : Code → List α → World → Prop) (hI : OwnFrom w.heap.size I) (hIx : ∀ c, OwnFrom w.heap.size (Ix c)) (h0 : I [] w) (Ax : α → Act → World → Prop) (hAx : ∀ x a', OwnFrom w.heap.size (fun (_ : Unit) W => Ax x a' W))
    (hassign : ∀ (l : Nat) (pre : List α) (x : α) (W : World) (K : Act → World → Prop), I pre W → V pre x → (∀ a' W', KeepsOthers W W' → Kp W W' → I pre W' → Ax x a' W' → K a' W') → assign.wpIn (F.inRound l) (n - 1 - 1) P (Exit.then K (fun _ _ _ => False)) { tmps := (ps.zip (encs x)).foldl (fun t (p, v) => t.setIfInBounds p v) a.tmps, defers := [] } W)
    (hbody : ∀ (l : Nat) (pre : List α) (x : α) (a' : Act) (W : World), I pre W → Ax x a' W → V pre x → body.wpIn (F.inRound l) (n - 1 - 1) P (ownPostK Kp I Ix (pre ++ [x]) W) a' W)
    (hdone : ∀ (D : Nat) (xs : List α) (W : World), w.heap.size ≤ D → S xs → I xs W → W.heap[D]? = some (.deferred (some [])) → Q .normal { a with defers := { target := .collected D, args := #[] } :: a.defers } W)
    (hstop : ∀ (D : Nat) (c : Code) (pre : List α) (W : World), w.heap.size ≤ D → Sp pre → Ix c pre W → W.heap[D]? = some (.deferred (some [])) → c.wpIn F n P Q { a with defers := { target := .collected D, args := #[] } :: a.defers } W) :
    (Code.rangeFunc g ps assign body).wpIn F n P Q a w := by
  refine wpIn_rangeFunc fun fn hfn => ?_
  rw [hro]
  obtain ⟨R, hR⟩ : ∃ R : LoopState → Option Code → Loop, R = fun st pe => { state := st, pending := pe, fn, tmps := a.tmps, params := ps, assign, body, defers := w.heap.size } := ⟨_, rfl⟩
  obtain ⟨w1, hw1⟩ : ∃ w1, w1 = (w.alloc (.deferred (some []))).alloc (.loop (R .ready none)) := ⟨_, rfl⟩
  have s1 : w1.heap.size = w.heap.size + 1 + 1 := by rw [hw1, World.size_alloc, World.size_alloc]
  have B1 : Book w.heap.size (R .ready none) w1 := by
    rw [hw1]
    refine ⟨(Below.heap_alloc _ _ _ (by simp)).trans (World.alloc_heap_new w _), ?_⟩
    have := World.alloc_heap_new (w.alloc (.deferred (some []))) (.loop (R .ready none))
    rwa [World.size_alloc] at this
  have I1 : I [] w1 := by rw [hw1]; exact hI.alloc _ (hI.alloc _ h0)
  have b1 : Below W0.heap.size W0 w1 := by
    rw [hw1]
    exact hb0.trans ((((Below.refl _ w).alloc (Nat.le_refl _) _).alloc (by simp) _).mono hb0.size)
  have up : ∀ {A : World} {row : Option Nat}, (∀ k, row = some k → w1.heap.size ≤ k ∧ ∃ o : Obj, A.heap[k]? = some o ∧ o.isWalk = true) → ∀ k, row = some k → w.heap.size ≤ k ∧ ∃ o : Obj, A.heap[k]? = some o ∧ o.isCells = false := fun h k e => by
    obtain ⟨h2, o, h3, h4⟩ := h k e
    exact ⟨by omega, o, h3, Obj.not_cells_of_walk h4⟩
  have go := hseq (w.heap.size + 1) (fun pre W => I pre W ∧ Book w.heap.size (R .ready none) W) (fun pre W => ∃ c, Ix c pre W ∧ Book w.heap.size (R .done (some c)) W) w1 b1
    (fun s A B row h hgr hr => ⟨hI s A B row h.1 hgr (up hr), h.2.step hgr (fun k e => (hr k e).2)⟩)
    (fun s A B row ⟨c, h2, h3⟩ hgr hr => ⟨c, hIx c s A B row h2 hgr (up hr), h3.step hgr (fun k e => (hr k e).2)⟩)
    (fun pre x W hJ hVx => by
      obtain ⟨hi, bk⟩ := hJ
      have hy := run_yield (P := P) (args := encs x) bk.rcd (by rw [hR]; exact hps x)
      have hround : RoundIn F (n - 1 - 1) P (w.heap.size + 1) fn ((ps.zip (encs x)).foldl (fun t (p, v) => t.setIfInBounds p v) a.tmps) assign body W _ := roundIn_of_wpIn (R := fun e X' => (e = .returned (.bool true) ∧ (I (pre ++ [x]) X' ∧ Book w.heap.size (R .ready none) X') ∧ Kp W X') ∨ (e = .returned (.bool false) ∧ ∃ c, Ix c (pre ++ [x]) X' ∧ Book w.heap.size (R .done (some c)) X')) hfn (hassign _ pre x W _ hi hVx (fun a' W' hko hkp hi' hax => by
        have bk' := bk.keeps hko
        have hb := run_beginRound (P := P) bk'.rcd (by rw [hR])
        have bk2 := bk'.put { R .ready none with state := .busy }
        have hk2 : Kp W' (W'.putObj (w.heap.size + 1) (.loop { R .ready none with state := .busy })) := hKb _ _ _ _ (by omega) bk'.rcd rfl
        have hi2 := bk'.own hI hi' { R .ready none with state := .busy }
        have hv2 : Ax x a' (W'.putObj (w.heap.size + 1) (.loop { R .ready none with state := .busy })) := bk'.own (hAx x a') (s := ()) hax _
        have hend : ∀ (jump : Option Code) (W3 : World), Book w.heap.size { R .ready none with state := .busy } W3 → (Instr.endRound (w.heap.size + 1) jump).run P W3 = .ok (.bool jump.isNone) (W3.putObj (w.heap.size + 1) (.loop (R (if jump.isNone then .ready else .done) jump))) := fun jump W3 b3 => by
          have := run_endRound (P := P) jump b3.rcd
          rw [hR] at this ⊢
          exact this
        have hkt := hKt hkp hk2
        generalize W'.putObj (w.heap.size + 1) (.loop { R .ready none with state := .busy }) = W2 at *
        exact ⟨W2, hb, wpIn_mono (hbody _ pre x a' W2 hi2 hv2 hVx) (by
          have left : ∀ (c : Code) (W3 : World), KeepsOthers W2 W3 → Ix c (pre ++ [x]) W3 → ∃ c', Ix c' (pre ++ [x]) (W3.putObj (w.heap.size + 1) (.loop (R .done (some c)))) ∧ Book w.heap.size (R .done (some c')) (W3.putObj (w.heap.size + 1) (.loop (R .done (some c)))) := fun c W3 k3 i3 =>
            ⟨c, (bk2.keeps k3).own (hIx c) i3 _, (bk2.keeps k3).put _⟩
          intro e a3 W3 hp
          cases e with
          | normal =>
            obtain ⟨k3, kp3, i3⟩ := hp
            have b3 := bk2.keeps k3
            exact ⟨_, _, hend none W3 b3, .inl ⟨rfl, ⟨b3.own hI i3 _, b3.put _⟩, hKt (hKt hkt kp3) (hKb _ _ _ _ (by omega) b3.rcd rfl)⟩⟩
          | ret => exact ⟨_, _, hend (some .ret) W3 (bk2.keeps hp.1), .inr ⟨rfl, left _ _ hp.1 hp.2⟩⟩
          | exit id => exact ⟨_, _, hend (some (.exit id)) W3 (bk2.keeps hp.1), .inr ⟨rfl, left _ _ hp.1 hp.2⟩⟩
          | goto t => exact ⟨_, _, hend (some (.goto t)) W3 (bk2.keeps hp.1), .inr ⟨rfl, left _ _ hp.1 hp.2⟩⟩
          | panic ch => exact hp.elim
          | outgrown => exact hp.elim)⟩))
      rw [hR] at hy
      refine ⟨fn, _, assign, body, hy, hround⟩)
    ⟨I1, B1⟩
  refine ⟨w.heap.size + 1, [{ target := .collected w.heap.size, args := #[] }], w1, { target := .fn (.func gf) lb, args := #[.func (.yield (w.heap.size + 1)) #[] #[]] }, w1, gf, #[.func (.yield (w.heap.size + 1)) #[] #[]] ++ lb, w1, ?_, ?_, ?_, ?_, fun _ => h1, ?_⟩
  · rw [hw1, hR]
    exact run_enterLoop_outer _ _ _ _ _
  · simp only [resolve, hg]
    simp [go_sem]
  · intro f' hf'
    simp [Target.leads] at hf'
    subst hf'
    exact hF
  · simp [invoke, go_sem, eg]
  · refine go.mono ?_
    clear go
    have fin : ∀ (st : LoopState) (pe : Option Code) (W2 : World), st ≠ .busy → Book w.heap.size (R st pe) W2 → (Instr.endLoop (w.heap.size + 1)).run P W2 = .ok pe (W2.putObj (w.heap.size + 1) (.loop (R .exhausted pe))) := fun st pe W2 hst b2 => by
      have := run_endLoop (P := P) b2.rcd (by rw [hR]; exact hst)
      rw [hR] at this ⊢
      exact this
    rintro e W2 ⟨⟨v, rfl⟩, (⟨xs, hS, hi, b2⟩ | ⟨pre, hSp, c, hi, b2⟩)⟩
    · exact ⟨none, _, fin _ _ _ (by simp) b2, hdone _ xs _ (Nat.le_refl _) hS (b2.own hI hi _) (b2.put _).dfr⟩
    · exact ⟨some c, _, fin _ _ _ (by simp) b2, hstop _ c pre _ (Nat.le_refl _) hSp (b2.own (hIx c) hi _) (b2.put _).dfr⟩
/-- The same; the loop's variable: a block of type T. -/
theorem range_f {g : Operand} {ps : Array Tmp} {assign body : Code} {Q : Exit → Act → World → Prop} {a : Act} {w : World} (hro : F.round = none) (h1 : 1 ≤ n) {gf : Nat} {lb : Array Value}
    (hg : a.eval g = .func (.func gf) #[] lb) (hF : F.fn gf) (eg : ∀ args w, (callFunc gf args).run P w = .ok (.enter gf args) w)
    {encs : α → Array Value} {V : List α → α → Prop} {Kp : World → World → Prop} {S Sp : List α → Prop} {W0 : World} (hseq : HandsP F (n - 1) P gf lb encs V Kp S Sp W0) (hb0 : Below W0.heap.size W0 w) (hps : ∀ x, (encs x).size = ps.size)
    (hKt : ∀ {A B C : World}, Kp A B → Kp B C → Kp A C) (hKb : ∀ (W : World) (l : Nat) (o o' : Obj), w.heap.size ≤ l → W.heap[l]? = some o → o.isCells = false → Kp W (W.putObj l o'))
    (I : List α → World → Prop) (Ix : Code → List α → World → Prop) (hI : OwnFrom w.heap.size I) (hIx : ∀ c, OwnFrom w.heap.size (Ix c)) (h0 : I [] w) (T : TypeId) (cl : α → Array Value) (f : α → Nat → Act)
    (hassign : ∀ (l : Nat) (pre : List α) (x : α) (W : World) (K : Act → World → Prop), I pre W → V pre x → (∀ B W', KeepsOthers W W' → Kp W W' → I pre W' → w.heap.size ≤ B → At W' B T (cl x) → K (f x B) W') → assign.wpIn (F.inRound l) (n - 1 - 1) P (Exit.then K (fun _ _ _ => False)) { tmps := (ps.zip (encs x)).foldl (fun t (p, v) => t.setIfInBounds p v) a.tmps, defers := [] } W)
    (hbody : ∀ (l : Nat) (pre : List α) (x : α) (B : Nat) (W : World), I pre W → w.heap.size ≤ B → At W B T (cl x) → V pre x → body.wpIn (F.inRound l) (n - 1 - 1) P (ownPostK Kp I Ix (pre ++ [x]) W) (f x B) W)
    (hdone : ∀ (D : Nat) (xs : List α) (W : World), w.heap.size ≤ D → S xs → I xs W → W.heap[D]? = some (.deferred (some [])) → Q .normal { a with defers := { target := .collected D, args := #[] } :: a.defers } W)
    (hstop : ∀ (D : Nat) (c : Code) (pre : List α) (W : World), w.heap.size ≤ D → Sp pre → Ix c pre W → W.heap[D]? = some (.deferred (some [])) → c.wpIn F n P Q { a with defers := { target := .collected D, args := #[] } :: a.defers } W) :
    (Code.rangeFunc g ps assign body).wpIn F n P Q a w := by
  refine range_b hro h1 hg hF eg hseq hb0 hps hKt hKb I Ix hI hIx h0 (fun x a' X => ∃ B, w.heap.size ≤ B ∧ At X B T (cl x) ∧ a' = f x B) (fun x a' _ X Y row ⟨B, h1, h2, h3⟩ hg hr => ⟨B, h1, h2.turn hg (fun r e => (hr r e).2), h3⟩) (fun l pre x W K hi hv hk => ?_) (fun l pre x a' W hi ⟨B, h1, h2, h3⟩ hv => ?_) hdone hstop
  · exact hassign l pre x W K hi hv (fun B W' k1 k2 k3 k4 k5 => hk _ W' k1 k2 k3 ⟨B, k4, k5, rfl⟩)
  · subst h3
    exact hbody l pre x B W hi h1 h2 hv
end
end Go.Proofs.Ythophidcgkjdeaa
