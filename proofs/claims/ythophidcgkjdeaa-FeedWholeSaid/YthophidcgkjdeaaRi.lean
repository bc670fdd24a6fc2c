/- Loops over an iterator whose rounds are promised something of what they are handed, in the world in which they are handed it. No condition. -/
import Derived.Test.YthophidcgkjdeaaRo
import Derived.RangeFuncNested
import Derived.RangeFuncBound
import Derived.RangeFuncCalls
import Derived.RangeFuncLeaves
import Derived.Shelf.Abstract
import Derived.Shelf.RegionOpen
import Derived.WalkKit
import Derived.OwnWalkIn
import Derived.TacticsInMore
import Derived.LoopNIn
import Derived.LoopIn
namespace Go.Proofs.Ythophidcgkjdeaa
open Go.RowKit Go.Shelf
section
variable {F : Fence} {n : Nat} {P : Program} {α : Type}
/-- What an iterator promises: V says what holds of an element when it is handed over. -/
def Hands (F : Fence) (n : Nat) (P : Program) (g : Nat) (lb : Array Value) (encs : α → Array Value) (V : α → World → Prop) (Kp : World → World → Prop) (S Sp : List α → Prop) (N : Nat) (W0 : World) : Prop :=
  ∀ (l : Nat) (J Jx : List α → World → Prop) (W : World), Below W0.heap.size W0 W → AbidesFrom W.heap.size J → AbidesFrom W.heap.size Jx →
    (∀ pre x X, J pre X → V x X → pre.length < N → YieldAt F (n - 1) P l (encs x) X fun e X' => (e = .returned (.bool true) ∧ J (pre ++ [x]) X' ∧ Kp X X') ∨ (e = .returned (.bool false) ∧ Jx (pre ++ [x]) X')) →
    J [] W → CallsIn F n P g (#[.func (.yield l) #[] #[]] ++ lb) W fun e W' => (∃ v, e = .returned v) ∧ ((∃ xs, S xs ∧ J xs W') ∨ ∃ pre, Sp pre ∧ Jx pre W')
/-- The loop's two blocks. -/
structure Book (B : Nat) (r : Loop) (W : World) : Prop where
  dfr : W.heap[B]? = some (.deferred (some []))
  rcd : W.heap[B + 1]? = some (.loop r)
theorem Book.lt {B : Nat} {r : Loop} {W : World} (h : Book B r W) : B + 1 < W.heap.size := (Array.getElem?_eq_some_iff.1 h.rcd).1
theorem Book.put {B : Nat} {r : Loop} {W : World} (h : Book B r W) (r' : Loop) : Book B r' (W.putObj (B + 1) (.loop r')) :=
  ⟨(World.putObj_heap_other (by omega)).trans h.dfr, World.putObj_heap_same h.lt⟩
theorem Book.step {B : Nat} {r : Loop} {W W' : World} {row : Option Nat} (h : Book B r W) (hg : W.grownBy W' row) (hr : ∀ k, row = some k → ∃ o : Obj, W.heap[k]? = some o ∧ o.isWalk = true) : Book B r W' :=
  ⟨(grownBy_keeps hg hr h.dfr rfl).trans h.dfr, (grownBy_keeps hg hr h.rcd rfl).trans h.rcd⟩
theorem Book.keeps {B : Nat} {r : Loop} {W W' : World} (h : Book B r W) (k : KeepsOthers W W') : Book B r W' := ⟨k.same _ _ h.dfr rfl, k.same _ _ h.rcd rfl⟩
theorem Book.own {B : Nat} {r : Loop} {W : World} {β : Type} {I : β → World → Prop} (h : Book B r W) (hI : OwnFrom B I) {s : β} (hs : I s W) (r' : Loop) : I s (W.putObj (B + 1) (.loop r')) := hI.putObj _ hs (by omega) h.rcd rfl
set_option maxHeartbeats 1000000 in
/-- **The law.** -/
theorem range_v {g : Operand} {ps : Array Tmp} {assign body : Code} {Q : Exit → Act → World → Prop} {a : Act} {w : World} (hro : F.round = none) (h1 : 1 ≤ n) {gf : Nat} {lb : Array Value}
    (hg : a.eval g = .func (.func gf) #[] lb) (hF : F.fn gf) (eg : ∀ args w, (callFunc gf args).run P w = .ok (.enter gf args) w)
    {encs : α → Array Value} {V : α → World → Prop} {Kp : World → World → Prop} {S Sp : List α → Prop} {N : Nat} {W0 : World} (hseq : Hands F (n - 1) P gf lb encs V Kp S Sp N W0) (hb0 : Below W0.heap.size W0 w) (hps : ∀ x, (encs x).size = ps.size)
    (hV : ∀ x, OwnFrom w.heap.size (fun (_ : Unit) W => V x W)) (hKt : ∀ {A B C : World}, Kp A B → Kp B C → Kp A C) (hKb : ∀ (W : World) (l : Nat) (o o' : Obj), w.heap.size ≤ l → W.heap[l]? = some o → o.isCells = false → Kp W (W.putObj l o'))
    (I : List α → World → Prop) (Ix : Code → List α → World → Prop) (hI : OwnFrom w.heap.size I) (hIx : ∀ c, OwnFrom w.heap.size (Ix c)) (h0 : I [] w) (a₁ : α → Act)
    (hassign : ∀ (l : Nat) (x : α) (W : World) (K : Act → World → Prop), K (a₁ x) W → assign.wpIn (F.inRound l) (n - 1 - 1) P (Exit.then K (fun _ _ _ => False)) { tmps := (ps.zip (encs x)).foldl (fun t (p, v) => t.setIfInBounds p v) a.tmps, defers := [] } W)
    (hbody : ∀ (l : Nat) (pre : List α) (x : α) (W : World), I pre W → V x W → pre.length < N → body.wpIn (F.inRound l) (n - 1 - 1) P (ownPostK Kp I Ix (pre ++ [x]) W) (a₁ x) W)
    (hdone : ∀ (D : Nat) (xs : List α) (W : World), w.heap.size ≤ D → S xs → I xs W → W.heap[D]? = some (.deferred (some [])) → Q .normal { a with defers := { target := .collected D, args := #[] } :: a.defers } W)
    (hstop : ∀ (D : Nat) (c : Code) (pre : List α) (W : World), w.heap.size ≤ D → Sp pre → Ix c pre W → W.heap[D]? = some (.deferred (some [])) → c.wpIn F n P Q { a with defers := { target := .collected D, args := #[] } :: a.defers } W) :
    (Code.rangeFunc g ps assign body).wpIn F n P Q a w := by
  refine wpIn_rangeFunc fun fn hfn => ?_
  rw [hro]
  obtain ⟨R, hR⟩ : ∃ R : LoopState → Option Code → Loop, R = fun st pe => { state := st, pending := pe, fn, tmps := a.tmps, params := ps, assign, body, defers := w.heap.size } := ⟨_, rfl⟩
  obtain ⟨w1, hw1⟩ : ∃ w1, w1 = (w.alloc (.deferred (some []))).alloc (.loop (R .ready none)) := ⟨_, rfl⟩
  have s1 : w1.heap.size = w.heap.size + 1 + 1 := by rw [hw1, World.size_alloc, World.size_alloc]
  have B1 : Book w.heap.size (R .ready none) w1 := by
    rw [hw1]
    refine ⟨(Below.heap_alloc _ _ _ (by simp)).trans (World.alloc_heap_new w _), ?_⟩
    have := World.alloc_heap_new (w.alloc (.deferred (some []))) (.loop (R .ready none))
    rwa [World.size_alloc] at this
  have I1 : I [] w1 := by rw [hw1]; exact hI.alloc _ (hI.alloc _ h0)
  have b1 : Below W0.heap.size W0 w1 := by
    rw [hw1]
    exact hb0.trans ((((Below.refl _ w).alloc (Nat.le_refl _) _).alloc (by simp) _).mono hb0.size)
  have up : ∀ {A : World} {row : Option Nat}, (∀ k, row = some k → w1.heap.size ≤ k ∧ ∃ o : Obj, A.heap[k]? = some o ∧ o.isWalk = true) → ∀ k, row = some k → w.heap.size ≤ k ∧ ∃ o : Obj, A.heap[k]? = some o ∧ o.isCells = false := fun h k e => by
    obtain ⟨h2, o, h3, h4⟩ := h k e
    exact ⟨by omega, o, h3, Obj.not_cells_of_walk h4⟩
  have go := hseq (w.heap.size + 1) (fun pre W => I pre W ∧ Book w.heap.size (R .ready none) W) (fun pre W => ∃ c, Ix c pre W ∧ Book w.heap.size (R .done (some c)) W) w1 b1
    (fun s A B row h hgr hr => ⟨hI s A B row h.1 hgr (up hr), h.2.step hgr (fun k e => (hr k e).2)⟩)
    (fun s A B row ⟨c, h2, h3⟩ hgr hr => ⟨c, hIx c s A B row h2 hgr (up hr), h3.step hgr (fun k e => (hr k e).2)⟩)
    (fun pre x W hJ hVx hlen => by
      obtain ⟨hi, bk⟩ := hJ
      have hy := run_yield (P := P) (args := encs x) bk.rcd (by rw [hR]; exact hps x)
      have hb := run_beginRound (P := P) bk.rcd (by rw [hR])
      have bk2 := bk.put { R .ready none with state := .busy }
      have hk2 : Kp W (W.putObj (w.heap.size + 1) (.loop { R .ready none with state := .busy })) := hKb _ _ _ _ (by omega) bk.rcd rfl
      have hi2 := bk.own hI hi { R .ready none with state := .busy }
      have hv2 : V x (W.putObj (w.heap.size + 1) (.loop { R .ready none with state := .busy })) := bk.own (hV x) (s := ()) hVx _
      have hend : ∀ (jump : Option Code) (W3 : World), Book w.heap.size { R .ready none with state := .busy } W3 → (Instr.endRound (w.heap.size + 1) jump).run P W3 = .ok (.bool jump.isNone) (W3.putObj (w.heap.size + 1) (.loop (R (if jump.isNone then .ready else .done) jump))) := fun jump W3 b3 => by
        have := run_endRound (P := P) jump b3.rcd
        rw [hR] at this ⊢
        exact this
      generalize W.putObj (w.heap.size + 1) (.loop { R .ready none with state := .busy }) = W2 at *
      have hround : RoundIn F (n - 1 - 1) P (w.heap.size + 1) fn ((ps.zip (encs x)).foldl (fun t (p, v) => t.setIfInBounds p v) a.tmps) assign body W _ := roundIn_of_wpIn (R := fun e X' => (e = .returned (.bool true) ∧ (I (pre ++ [x]) X' ∧ Book w.heap.size (R .ready none) X') ∧ Kp W X') ∨ (e = .returned (.bool false) ∧ ∃ c, Ix c (pre ++ [x]) X' ∧ Book w.heap.size (R .done (some c)) X')) hfn (hassign _ x W _ ⟨W2, hb, wpIn_mono (hbody _ pre x W2 hi2 hv2 hlen) (by
        have left : ∀ (c : Code) (W3 : World), KeepsOthers W2 W3 → Ix c (pre ++ [x]) W3 → ∃ c', Ix c' (pre ++ [x]) (W3.putObj (w.heap.size + 1) (.loop (R .done (some c)))) ∧ Book w.heap.size (R .done (some c')) (W3.putObj (w.heap.size + 1) (.loop (R .done (some c)))) := fun c W3 k3 i3 =>
          ⟨c, (bk2.keeps k3).own (hIx c) i3 _, (bk2.keeps k3).put _⟩
        intro e a3 W3 hp
        cases e with
        | normal =>
          obtain ⟨k3, kp3, i3⟩ := hp
          have b3 := bk2.keeps k3
          exact ⟨_, _, hend none W3 b3, .inl ⟨rfl, ⟨b3.own hI i3 _, b3.put _⟩, hKt (hKt hk2 kp3) (hKb _ _ _ _ (by omega) b3.rcd rfl)⟩⟩
        | ret => exact ⟨_, _, hend (some .ret) W3 (bk2.keeps hp.1), .inr ⟨rfl, left _ _ hp.1 hp.2⟩⟩
        | exit id => exact ⟨_, _, hend (some (.exit id)) W3 (bk2.keeps hp.1), .inr ⟨rfl, left _ _ hp.1 hp.2⟩⟩
        | goto t => exact ⟨_, _, hend (some (.goto t)) W3 (bk2.keeps hp.1), .inr ⟨rfl, left _ _ hp.1 hp.2⟩⟩
        | panic ch => exact hp.elim
        | outgrown => exact hp.elim)⟩)
      rw [hR] at hy
      refine ⟨fn, _, assign, body, hy, hround⟩)
    ⟨I1, B1⟩
  refine ⟨w.heap.size + 1, [{ target := .collected w.heap.size, args := #[] }], w1, { target := .fn (.func gf) lb, args := #[.func (.yield (w.heap.size + 1)) #[] #[]] }, w1, gf, #[.func (.yield (w.heap.size + 1)) #[] #[]] ++ lb, w1, ?_, ?_, ?_, ?_, fun _ => h1, ?_⟩
  · rw [hw1, hR]
    exact run_enterLoop_outer _ _ _ _ _
  · simp only [resolve, hg]
    simp [go_sem]
  · intro f' hf'
    simp [Target.leads] at hf'
    subst hf'
    exact hF
  · simp [invoke, go_sem, eg]
  · refine go.mono ?_
    clear go
    have fin : ∀ (st : LoopState) (pe : Option Code) (W2 : World), st ≠ .busy → Book w.heap.size (R st pe) W2 → (Instr.endLoop (w.heap.size + 1)).run P W2 = .ok pe (W2.putObj (w.heap.size + 1) (.loop (R .exhausted pe))) := fun st pe W2 hst b2 => by
      have := run_endLoop (P := P) b2.rcd (by rw [hR]; exact hst)
      rw [hR] at this ⊢
      exact this
    rintro e W2 ⟨⟨v, rfl⟩, (⟨xs, hS, hi, b2⟩ | ⟨pre, hSp, c, hi, b2⟩)⟩
    · exact ⟨none, _, fin _ _ _ (by simp) b2, hdone _ xs _ (Nat.le_refl _) hS (b2.own hI hi _) (b2.put _).dfr⟩
    · exact ⟨some c, _, fin _ _ _ (by simp) b2, hstop _ c pre _ (Nat.le_refl _) hSp (b2.own (hIx c) hi _) (b2.put _).dfr⟩
/-- Elements more, in a walk within a fence. -/
theorem wpListIn_rowcat {ops : Array Oper} {rest : List Oper} {o : Oper} {a : Act} {Q : Exit → Act → World → Prop} (hgd : o.guard = none) (s x : Operand) (T E size bytes : Nat) (zero : Value)
    (ho : o.op = .call { callee := .builtin .append, args := #[s, x], argTypes := #[T, T] }) (hU : P.underlying T = some (.slice E))
    (hI : (P.info? E).map (fun i => (i.zero, i.size, i.bytes)) = some (some zero, size, bytes)) (hzs : zero.cells.size = size) (hpos : 0 < size)
    (W : World) (A : Option Addr) (n1 c : Nat) (xs : List Value) (hs : a.eval s = .slice A n1 c) (h : Row W E size A n1 c xs)
    (B : Option Addr) (k cc : Nat) (news : List Value) (hx : a.eval x = .slice B k cc) (hS : Src W size B k news) (h1 : news.all (·.oneCell') = true) (hm : n1 + k ≤ maxLen) (hlen : (n1 + k) * bytes ≤ 140737488355328)
    (hK : ∀ A' c' w', Row w' E size A' (n1 + k) c' (xs ++ news) → Chg W w' (ablk A) → (∀ g ∈ ablk A', g ∈ ablk A ∨ (W.heap.size ≤ g ∧ g < w'.heap.size)) → wpListIn F n P ops Q rest (a.put o.dst (.slice A' (n1 + k) c')) w') :
    wpListIn F n P ops Q (o :: rest) a W := by
  obtain ⟨i0, hi, hz0, hz1, hz2⟩ := info_parts hI
  refine wpListIn_plain hgd fun K hK' => ?_
  obtain ⟨A', c', w', hr, h2, h3, h4⟩ := run_row_cat (P := P) (w := W) h T o.type i0 zero bytes hU hi hz0 hz1 hz2 hzs hpos hS cc (List.all_eq_true.1 h1) hm hlen
  refine ⟨by simp [Oper.about, ho, resolve, Target.leads, Sem.run_pure], ?_⟩
  rw [Oper.semAt_plain F _ _ (by rw [ho]; intro c hc'; cases hc')]
  simp only [execOp, ho, resolve, invoke, builtin, List.map_toArray, List.map_cons, List.map_nil, hs, hx, Sem.run_bind, Sem.run_pure, hr, Result.andThen]
  exact hK' _ _ (hK A' c' w' h2 h3 h4)
/-! ### what a turn of a block that holds no cells leaves -/
theorem Chg.turn {W X Y : World} {m : List Nat} {row : Option Nat} (h : Chg W X m) (hg : X.grownBy Y row) (hr : ∀ r, row = some r → W.heap.size ≤ r) : Chg W Y m :=
  ⟨hg.os.trans h.os, hg.tape.trans h.tape, hg.output.trans h.output, Nat.le_trans h.size hg.size, fun k hk hm => (hg.block k (Nat.lt_of_lt_of_le hk h.size) (fun e => by have := hr k e.symm; omega)).trans (h.block k hk hm)⟩
theorem At.turn {X Y : World} {g : Nat} {t : TypeId} {cs : Array Value} {row : Option Nat} (h : At X g t cs) (hg : X.grownBy Y row) (hr : ∀ r, row = some r → ∃ o : Obj, X.heap[r]? = some o ∧ o.isCells = false) : At Y g t cs := (grownBy_keeps_cells hg hr h rfl).trans h
theorem Src.turn {X Y : World} {n k : Nat} {A : Option Addr} {xs : List Value} {row : Option Nat} (h : Src X n A k xs) (hg : X.grownBy Y row) (hr : ∀ r, row = some r → ∃ o : Obj, X.heap[r]? = some o ∧ o.isCells = false) : Src Y n A k xs := ⟨h.len, fun h0 => by
  obtain ⟨ad, h1, h2⟩ := h.at_ h0
  exact ⟨ad, h1, fun j u hj => cell_kept (h2 j u hj) hg hr⟩⟩
theorem Row.turn {X Y : World} {e : TypeId} {size n c : Nat} {A : Option Addr} {xs : List Value} {row : Option Nat} (h : Row X e size A n c xs) (hg : X.grownBy Y row) (hr : ∀ r, row = some r → ∃ o : Obj, X.heap[r]? = some o ∧ o.isCells = false) : Row Y e size A n c xs := ⟨h.le, h.max, h.len, fun h0 => by
  obtain ⟨g, off, cur, h1, h2, h3⟩ := h.at_ h0
  exact ⟨g, off, cur, h1, (grownBy_keeps_cells hg hr h2 rfl).trans h2, h3⟩⟩
theorem Ext.putObj {w X : World} (h : Ext w X) {D : Nat} (hD : w.heap.size ≤ D) (o : Obj) : Ext w (X.putObj D o) := ⟨h.os, h.tape, h.output, by rw [World.putObj_size]; exact h.size, fun k hk => (World.putObj_heap_other (by omega)).trans (h.block k hk)⟩
theorem At.putObj {X : World} {g : Nat} {t : TypeId} {cs : Array Value} (h : At X g t cs) {D : Nat} (hD : g ≠ D) (o : Obj) : At (X.putObj D o) g t cs := (World.putObj_heap_other hD).trans h
theorem Row.putObj {X : World} {e : TypeId} {size n c : Nat} {A : Option Addr} {xs : List Value} (h : Row X e size A n c xs) {D : Nat} {o0 : Obj} (hD : X.heap[D]? = some o0) (h0 : o0.isCells = false) (o : Obj) : Row (X.putObj D o) e size A n c xs := h.turn (grownBy_putObj' X D o) (fun r e => by cases e; exact ⟨_, hD, h0⟩)
theorem others_ext {X Y : World} (h : Ext X Y) : KeepsOthers X Y := ⟨h.size, fun k o hk _ => (h.block k (Array.getElem?_eq_some_iff.1 hk).1).trans hk⟩
theorem others_chg {e : TypeId} {size n c : Nat} {A : Option Addr} {xs : List Value} {X Y : World} (h : Chg X Y (ablk A)) (hR : Row X e size A n c xs) (hc : c = 0 → Ext X Y) : KeepsOthers X Y := by
  rcases Nat.eq_zero_or_pos c with h0 | h0
  · exact others_ext (hc h0)
  · obtain ⟨g, off, cur, rfl, h2, _⟩ := hR.at_ h0
    refine ⟨h.size, fun k o hk ho => (h.block k (Array.getElem?_eq_some_iff.1 hk).1 (fun hm => ?_)).trans hk⟩
    simp [ablk] at hm
    subst hm
    rw [h2] at hk
    injection hk with hk
    subst hk
    cases ho
end
end Go.Proofs.Ythophidcgkjdeaa
