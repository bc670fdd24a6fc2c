/- Frames (layer 4): Put, Take, by the program and by the document. Condition: at most 10^9 bytes. -/
import Derived.Test.YthfomohophmbaaaR1
import Derived.Test.YthfomohophmbaaaL03
namespace Go.Proofs.Ythfomohophmbaaa
open Go.RowKit
attribute [local go_sem] Later.cell QUpon_value QUpon_enter MUpon_value run_eql_slice_nil
attribute [local go_sem ↓ high] loadPrt_is storePrt_is
attribute [local go_sem] run_loadPrt run_loadPrt_at run_storePrt one_int one_bool one_slice one_ptr one_str setRow_new setRow_past cell_ca frozen_ca cellsAt_alloc_at cellsAt_alloc_past cellsAt_drew cellsAt_later cellsAt_setCell cellsAt_set_same cellsAt_setRow_same cellsAt_setRow_far subAt_alloc subAt_drew subAt_later subAt_setCell subAt_setRow ltn_2 ltn_3 ltn_4 ltn_5
/-- A slice that reads as these bytes. -/
def Bts (w : World) (v : Value) (bs : List Int) : Prop := ∃ A c, v = .slice A bs.length c ∧ Src w 1 A bs.length (bc bs)
theorem Bts.ext {w w' : World} {v : Value} {bs : List Int} (h : Bts w v bs) (hx : Ext w w') : Bts w' v bs := by
  obtain ⟨A, c, rfl, hS⟩ := h
  exact ⟨A, c, rfl, hS.ext hx⟩
theorem Own.bts {w0 w : World} {v : Value} {bs : List Int} (h : Own w0 w v bs) : Bts w v bs := by
  obtain ⟨A, c, rfl, hR, _⟩ := h
  exact ⟨A, c, rfl, hR.src⟩
theorem Bts.nil (w : World) : Bts w (.slice none 0 0) [] := ⟨none, 0, rfl, ⟨rfl, fun h => absurd h (by decide)⟩⟩
def frB (bs : List Int) : List Int := uintB bs.length 2 ++ bs
def putL (bs : List Int) : List Int := if bs.length ≤ 64 then frB bs else []
def putF (bs : List Int) : Int := if bs.length ≤ 64 then 0 else 9
theorem frB_byt {bs : List Int} (h : Byt bs) : Byt (frB bs) := (uintB_byt _ _).app h
theorem frB_len (bs : List Int) : (frB bs).length = 2 + bs.length := by unfold frB; rw [List.length_append, uintB_len]
def PutIs (bs : List Int) (w : World) (e : Ending) (w' : World) : Prop := Ext w w' ∧ ∃ v, e = .returned (.tuple #[v, .int .i64 (putF bs)]) ∧ Own w w' v (putL bs)
/-- What Take tells. -/
def takeL (bs : List Int) : List Int := if bs.length < 2 then [] else if 64 < valN (bs.take 2) then [] else if bs.length < 2 + valN (bs.take 2) then [] else (bs.drop 2).take (valN (bs.take 2))
def takeN (bs : List Int) : Int := if bs.length < 2 then 0 else if 64 < valN (bs.take 2) then 0 else if bs.length < 2 + valN (bs.take 2) then 0 else 2 + valN (bs.take 2)
def takeF (bs : List Int) : Int := if bs.length < 2 then 3 else if 64 < valN (bs.take 2) then 4 else if bs.length < 2 + valN (bs.take 2) then 3 else 0
theorem takeL_byt {bs : List Int} (h : Byt bs) : Byt (takeL bs) := by
  unfold takeL
  split
  · intro x hx; cases hx
  split
  · intro x hx; cases hx
  split
  · intro x hx; cases hx
  · exact fun x hx => h x (List.mem_of_mem_drop (List.mem_of_mem_take hx))
theorem Reads.ext0 {w0 w w1 : World} {g : Nat} {A A1 : Option Addr} {bs : List Int} {f : Int} (h : Reads w g A bs f w1 A1) (hx : Ext w0 w) (hg : w0.heap.size ≤ g) : Ext w0 w1 :=
  (Chg.step (Chg.of_ext hx []) h.chg (fun i hi => by simp at hi; right; omega)).ext (by simp)
end Go.Proofs.Ythfomohophmbaaa
