/- Arguments opened, whatever a struct's number of fields. No condition. -/
import Derived.Test.YtfbpmngdamaobaaFP
import Derived.Test.YtfbpmngdamaobaaFi
import Derived.Test.YtfbpmngdamaobaaSl
import Derived.Test.YtfbpmngdamaobaaProg
import Derived.ProofKit
import Derived.Deep.Fields
import Derived.Deep.Slices
import Derived.Lib.SmallJoins
namespace Go.Proofs.Ytfbpmngdamaobaa
open Go.RowKit Go.WideShapes Go.ChangeShapes Go.Deep Go.Joins
theorem laidOut : laidOutB Try.prog = true := by kernel_rfl
section
variable {H : Type} {enc : TypeId × Value → H} {P : Program} {w : World} {base : Nat} {spare : Nat → Bool} {held : Bool}
/-- A struct by value: its cells, each with its field's reading. -/
theorem open_agg {r : Reach} {b0 : Nat} {t : TypeId} {fs : Array Field} {v : Value} {d : DataW H} {p : List MemPlace} (hs : P.underlying t = some (.struct fs)) (hone : oneCellFields P fs = true) (hC : P.cellsOf t = fs.size)
    (hv : Value.okWide P w r b0 t v) (h : DataW.Trod enc P w base spare held t v d p) :
    ∃ cs : List Value, v = .agg cs.toArray ∧ cs.length = fs.size ∧ ∀ (j : Nat) (f : Field), fs[j]? = some f → ∃ (c : Value) (y : DataW H × List MemPlace) (n : Nat), cs[j]? = some c ∧ DataW.trod enc P w base spare held n f.type [c] = some y := by
  obtain ⟨cs, rfl, hsz⟩ := okWide_struct hs hv
  obtain ⟨l⟩ := cs
  obtain ⟨fuel, hf⟩ := h
  obtain ⟨ys, n, _, _, hlen, hyl, hg⟩ := DataW.trod_struct hs hf
  have hl : l.length = fs.size := by rw [← hC, ← hsz]; simp
  refine ⟨l, rfl, hl, fun j f hj => ?_⟩
  obtain ⟨ho, hk⟩ := hone_of hone j f hj
  have hjl : j < fs.size := (Array.getElem?_eq_some_iff.1 hj).1
  have h1 := hg j f hj
  rw [ho, hk] at h1
  have hone' : ((Value.agg ⟨l⟩).cells.toList.drop j).take 1 = [l[j]'(by omega)] := by
    have e : (Value.agg ⟨l⟩).cells.toList = l := rfl
    rw [e, List.drop_eq_getElem_cons (by omega)]
    rfl
  first | rw [hone'] at h1 | skip
  have hys : ys[j]? = some (ys[j]'(by omega)) := List.getElem?_eq_getElem (by omega)
  rw [hys] at h1
  exact ⟨_, _, n, List.getElem?_eq_getElem (by omega), h1⟩
def intFields (P : Program) (fs : Array Field) : Bool := fs.toList.all fun f => match P.underlying f.type with
  | some (.int .i64) => true
  | _ => false
theorem intFields_of {P : Program} {fs : Array Field} (h : intFields P fs = true) (j : Nat) (f : Field) (hj : fs[j]? = some f) : P.underlying f.type = some (.int .i64) := by
  have := List.all_eq_true.1 h f (by rw [← Array.getElem?_toList] at hj; exact List.mem_of_getElem? hj)
  split at this
  · assumption
  · cases this
/-- A struct of int64s (and ints) by value. -/
theorem open_aggI {r : Reach} {b0 : Nat} {t : TypeId} {fs : Array Field} {v : Value} {d : DataW H} {p : List MemPlace} (hs : P.underlying t = some (.struct fs)) (hone : oneCellFields P fs = true) (hC : P.cellsOf t = fs.size)
    (hint : intFields P fs = true)
    (hv : Value.okWide P w r b0 t v) (h : DataW.Trod enc P w base spare held t v d p) :
    ∃ xs : List Int, v = .agg (xs.map (Value.int .i64)).toArray ∧ xs.length = fs.size ∧ ∀ x ∈ xs, I64 x := by
  obtain ⟨cs, rfl, hl, hf⟩ := open_agg hs hone hC hv h
  have key : ∀ c ∈ cs, ∃ x, c = .int .i64 x ∧ I64 x := by
    intro c hc
    obtain ⟨j, hj, rfl⟩ := List.mem_iff_getElem.1 hc
    obtain ⟨f, hfj⟩ : ∃ f, fs[j]? = some f := ⟨fs[j]'(by omega), Array.getElem?_eq_getElem (by omega)⟩
    obtain ⟨c, y, n, hcj, ht⟩ := hf j f hfj
    rw [List.getElem?_eq_getElem hj] at hcj
    injection hcj with hcj
    obtain ⟨a, e0, _, wa⟩ := DataW.trod_int (intFields_of hint j f hfj) ht
    injection e0 with e0
    exact ⟨a, hcj.trans e0, I64.of_wf wa⟩
  refine ⟨cs.map (fun c => match c with | .int _ x => x | _ => 0), ?_, by simpa using hl, fun x hx => ?_⟩
  · congr 1
    rw [List.map_map]
    congr 1
    conv => lhs; rw [← List.map_id cs]
    refine List.map_congr_left fun c hc => ?_
    obtain ⟨x, rfl, _⟩ := key c hc
    rfl
  · obtain ⟨c, hc, rfl⟩ := List.mem_map.1 hx
    obtain ⟨x, rfl, hI⟩ := key c hc
    exact hI
end
end Go.Proofs.Ytfbpmngdamaobaa
