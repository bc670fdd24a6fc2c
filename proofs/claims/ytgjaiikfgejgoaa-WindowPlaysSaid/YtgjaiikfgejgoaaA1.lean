/- Arrays of 128 bools in memory, and the walk's rules for them. No condition. -/
import Derived.Test.YtgjaiikfgejgoaaCa
import Derived.Test.YtgjaiikfgejgoaaWP2
import Derived.Test.YtgjaiikfgejgoaaProg
namespace Go.Proofs.Ytgjaiikfgejgoaa
open Go.RowKit

/-- 128 bools. -/
def arr (f : Nat → Bool) : Array Value := ((List.range 128).map fun j => Value.bool (f j)).toArray
theorem arr_size (f : Nat → Bool) : (arr f).size = 128 := by simp [arr]
theorem arr_get (f : Nat → Bool) (i : Nat) (h : i < 128) : (arr f)[i]? = some (.bool (f i)) := by simp [arr, h]
theorem arr_ext {f g : Nat → Bool} (h : ∀ i, i < 128 → f i = g i) : arr f = arr g := by
  unfold arr
  congr 1
  refine List.map_congr_left fun i hi => ?_
  rw [h i (List.mem_range.1 hi)]
def upd (f : Nat → Bool) (i : Nat) (b : Bool) : Nat → Bool := fun j => if j = i then b else f j
theorem arr_set (f : Nat → Bool) (i : Nat) (b : Bool) : (arr f).setIfInBounds i (.bool b) = arr (upd f i b) := by
  apply Array.ext'
  apply List.ext_getElem?
  intro j
  simp only [arr, Array.toList_setIfInBounds, List.getElem?_set, List.getElem?_map, List.length_map, List.length_range]
  by_cases hji : i = j
  · subst hji
    by_cases hi : i < 128
    · simp [hi, upd]
    · simp [hi]
  · simp only [hji, if_false]
    by_cases hj : j < 128
    · simp [hj, upd, Ne.symm hji]
    · simp [hj]

theorem isAgg_bits (w : World) : (isAgg 72).run Try.prog w = .ok true w := by kernel_rfl
theorem sizeOf_bits (w : World) : (sizeOf 72).run Try.prog w = .ok 128 w := by kernel_rfl
theorem zero_bits (w : World) : (zeroValue 72).run Try.prog w = .ok (.agg (arr fun _ => false)) w := by kernel_rfl
theorem loadVar_bits (w : World) (g : Nat) (h : (cellsAt w g).size = 128) : (loadVar 72 ⟨g, 0, none⟩).run Try.prog w = .ok (.agg (cellsAt w g)) w := by
  have hl := run_loadCells_list (P := Try.prog) w ⟨g, 0, none⟩ (cellsAt w g).toList (fun j v hj => by
    rw [Addr.add_lit, Nat.zero_add]
    exact cellsAt_cell w g j v (by simpa using hj))
  simp only [Array.length_toList, h, Array.toArray_toList] at hl
  simp only [loadVar]
  simp [isAgg_bits, sizeOf_bits, hl]
theorem storeVar_bits (w : World) (g : Nat) (cs : Array Value) (hc : cs.size = 128) (h : (cellsAt w g).size = 128) (h1 : ∀ v ∈ cs.toList, v.oneCell' = true) : (storeVar 72 ⟨g, 0, none⟩ (.agg cs)).run Try.prog w = .ok () (w.setRow g cs) := by
  obtain ⟨t, ht⟩ := cellsAt_row h
  have hl := run_storeCells_at Try.prog g 0 t cs.toList 0 (cellsAt w g) w ht (by simp [hc, h]) h1
  simp only [Nat.zero_add, List.take_zero, List.nil_append, Array.length_toList, hc] at hl
  rw [List.drop_of_length_le (by simp [h]), List.append_nil, Array.toArray_toList] at hl
  simp only [storeVar]
  simp [sizeOf_bits, Value.cells, hc, hl]
theorem arr_one (f : Nat → Bool) : ∀ v ∈ (arr f).toList, v.oneCell' = true := by
  intro v hv
  simp only [arr, List.mem_map] at hv
  obtain ⟨j, _, rfl⟩ := hv
  rfl
theorem storeVar_arr (w : World) (g : Nat) (f : Nat → Bool) (h : (cellsAt w g).size = 128) : (storeVar 72 ⟨g, 0, none⟩ (.agg (arr f))).run Try.prog w = .ok () (w.setRow g (arr f)) :=
  storeVar_bits w g _ (arr_size f) h (arr_one f)

def isArr (cs : Array Value) : Prop := ∃ f, cs = arr f
theorem isArr_arr (f : Nat → Bool) : isArr (arr f) = True := eq_true ⟨f, rfl⟩
theorem isArr.size {cs : Array Value} (h : isArr cs) : cs.size = 128 := by obtain ⟨f, rfl⟩ := h; exact arr_size f
/-- The whole array, read and written: closed words, which the walk does not open. -/
def loadBits (a : Addr) : Sem Value := loadVar 72 a
def storeBits (a : Addr) (v : Value) : Sem Unit := storeVar 72 a v
theorem loadVar_is (a : Addr) : loadVar 72 a = loadBits a := rfl
theorem storeVar_is (a : Addr) (v : Value) : storeVar 72 a v = storeBits a v := rfl
theorem run_loadBits (w : World) (g : Nat) (h : isArr (cellsAt w g)) : (loadBits ⟨g, 0, none⟩).run Try.prog w = .ok (.agg (cellsAt w g)) w := loadVar_bits w g h.size
theorem run_storeBits (w : World) (g : Nat) (cs : Array Value) (hc : isArr cs) (h : isArr (cellsAt w g)) : (storeBits ⟨g, 0, none⟩ (.agg cs)).run Try.prog w = .ok () (w.setRow g cs) := by
  obtain ⟨f, rfl⟩ := hc
  exact storeVar_arr w g f h.size
theorem fin_bits {fn : Func} {R : Ending → World → Prop} {a : Act} {w : World} {p g : Nat} {t : TypeId} {f : Nat → Bool} (hr : fn.results = #[.cell p 72]) (hp : a.tmps.getD p undef = .pointer (some ⟨g, 0, none⟩)) (h : At w g t (arr f)) (hd : a.defers = [])
    (hR : R (.returned (.agg (arr f))) w) : bodyPost Try.prog fn R .ret a w := by
  refine ⟨hd, .agg (arr f), ?_, hR⟩
  rw [Array.getD_eq_getD_getElem?] at hp
  simp [results, hr, hp, asAddr, loadVar_bits w g (by rw [cellsAt_at h, arr_size]), cellsAt_at h]
theorem fin_bits_tmp {fn : Func} {R : Ending → World → Prop} {a : Act} {w : World} {p q g : Nat} {t : TypeId} {f : Nat → Bool} (hr : fn.results = #[.cell p 72, .tmp q]) (hp : a.tmps.getD p undef = .pointer (some ⟨g, 0, none⟩)) (h : At w g t (arr f)) (hd : a.defers = [])
    (hR : R (.returned (.tuple #[.agg (arr f), a.tmps.getD q undef])) w) : bodyPost Try.prog fn R .ret a w := by
  refine ⟨hd, .tuple #[.agg (arr f), a.tmps.getD q undef], ?_, hR⟩
  rw [results_cell_tmp hr, hp]
  simp [asAddr, loadVar_bits w g (by rw [cellsAt_at h, arr_size]), cellsAt_at h]
theorem fin_bits2 {fn : Func} {R : Ending → World → Prop} {a : Act} {w : World} {p q g k : Nat} {t : TypeId} {f f' : Nat → Bool} (hr : fn.results = #[.cell p 72, .cell q 72]) (hp : a.tmps.getD p undef = .pointer (some ⟨g, 0, none⟩)) (hq : a.tmps.getD q undef = .pointer (some ⟨k, 0, none⟩)) (h : At w g t (arr f)) (h' : At w k t (arr f')) (hd : a.defers = [])
    (hR : R (.returned (.tuple #[.agg (arr f), .agg (arr f')])) w) : bodyPost Try.prog fn R .ret a w := by
  refine ⟨hd, .tuple #[.agg (arr f), .agg (arr f')], ?_, hR⟩
  rw [Array.getD_eq_getD_getElem?] at hp hq
  simp only [results, hr]
  simp [hp, hq, asAddr, loadVar_bits w g (by rw [cellsAt_at h, arr_size]), loadVar_bits w k (by rw [cellsAt_at h', arr_size]), cellsAt_at h, cellsAt_at h']
end Go.Proofs.Ytgjaiikfgejgoaa
