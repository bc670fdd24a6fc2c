/- Frames (layer 4): the document's All. Condition: at most 10^6 bytes. -/
import Derived.Test.YthophidcgkjdeaaJA
namespace Go.Proofs.Ythophidcgkjdeaa
open Go.RowKit
attribute [local go_sem] Later.cell QUpon_value QUpon_enter MUpon_value run_eql_slice_nil

attribute [local go_sem] one_int one_bool one_slice one_ptr one_str setRow_new setRow_past cell_ca frozen_ca cellsAt_alloc_at cellsAt_alloc_past cellsAt_drew cellsAt_later cellsAt_setCell cellsAt_set_same cellsAt_setRow_same cellsAt_setRow_far subAt_alloc subAt_drew subAt_later subAt_setCell subAt_setRow ltn_2 ltn_3 ltn_4 ltn_5
theorem Chg.extOfJ {w0 a b : World} {m : List Nat} (h : Chg a b m) (hx : Ext w0 a) (hm : ∀ i ∈ m, w0.heap.size ≤ i) : Ext w0 b := (Chg.step (Chg.of_ext hx []) h (fun i hi => .inr (hm i hi))).ext (by simp)
/-- What Take hands over: a part of what came in. -/
def TookIs (A : Option Addr) (bs : List Int) (w : World) (e : Ending) (w' : World) : Prop :=
  Ext w w' ∧ ∃ q : Bs, e = .returned (.tuple #[q.v, .int .i64 (takeN bs), .int .i64 (takeF bs)]) ∧ q.xs = takeL bs ∧ q.At w' ∧ ∀ k ∈ ablk q.A, k ∈ ablk A
theorem Bs.At.nil (W : World) : (⟨none, 0, []⟩ : Bs).At W := ⟨Nat.le_refl _, Nat.zero_le _, ⟨rfl, fun h => absurd h (by decide)⟩, fun x hx => by cases hx⟩
/-! ### where the frames begin (plain) -/
def plN : Nat → Nat → List Int → List Int
  | 0, _, _ => []
  | n + 1, i, bs => if takeF bs = 0 then (i : Int) :: plN n (i + (takeN bs).toNat) (bs.drop (takeN bs).toNat) else []
theorem plN_more : ∀ (n m i : Nat) (bs : List Int), bs.length < n → bs.length < m → plN n i bs = plN m i bs
  | 0, _, _, _, h, _ => by omega
  | _, 0, _, _, _, h => by omega
  | n + 1, m + 1, i, bs, hn, hm => by
    show (if takeF bs = 0 then _ else _) = (if takeF bs = 0 then _ else _)
    by_cases hf : takeF bs = 0
    · obtain ⟨h1, h2, _⟩ := takeN_pos hf
      rw [if_pos hf, if_pos hf, plN_more n m _ (bs.drop (takeN bs).toNat) (by rw [List.length_drop]; omega) (by rw [List.length_drop]; omega)]
    · rw [if_neg hf, if_neg hf]
def plD (i : Nat) (bs : List Int) : List Int := plN (bs.length + 1) i bs
theorem plD_no {bs : List Int} (i : Nat) (h : takeF bs ≠ 0) : plD i bs = [] := if_neg h
theorem plD_yes {bs : List Int} (i : Nat) (h : takeF bs = 0) : plD i bs = (i : Int) :: plD (i + (takeN bs).toNat) (bs.drop (takeN bs).toNat) := by
  obtain ⟨h1, h2, _⟩ := takeN_pos h
  have e : plD i bs = (i : Int) :: plN bs.length (i + (takeN bs).toNat) (bs.drop (takeN bs).toNat) := if_pos h
  rw [e, plN_more bs.length ((bs.drop (takeN bs).toNat).length + 1) _ _ (by rw [List.length_drop]; omega) (by omega)]
  rfl
def bi (l : List Int) : List Value := l.map (Value.int .i64)
theorem bi_one (l : List Int) : (bi l).all (·.oneCell') = true := by
  unfold bi
  rw [List.all_map]
  exact List.all_eq_true.2 (fun _ _ => rfl)
theorem intInfo4 : (Try.prog.info? 3).map (fun i => (i.zero, i.size, i.bytes)) = some (some (.int .i64 0), 1, 8) := by kernel_rfl
/-- What All answers. -/
structure AllIs (A : Option Addr) (bs : List Int) (w : World) (e : Ending) (w' : World) : Prop where
  ext : Ext w w'
  ex : ∃ (C : Option Addr) (dc : Nat) (B : Option Addr) (d : Nat) (ol : List Bs), e = .returned (.tuple #[.slice C (plD 0 bs).length dc, .slice B ol.length d, .int .i64 ((bs.length : Int) - ((cut bs).2.1.length : Nat)), .int .i64 (if (cut bs).2.1 = [] then 0 else (cut bs).2.2)]) ∧ Row w' 3 1 C (plD 0 bs).length dc (bi (plD 0 bs)) ∧ OwnB w w' B d ol ∧ ol.map Bs.xs = (cut bs).1 ∧ (∀ p ∈ ol, ∀ k ∈ ablk p.A, k ∈ ablk A)
/-- Amid All. -/
structure AllAt (w wr : World) (A : Option Addr) (bs : List Int) (k : Nat) (C : Option Addr) (dc : Nat) (pl : List Int) (B : Option Addr) (d : Nat) (ol : List Bs) : Prop where
  ext : Ext w wr
  at_ : Row wr 3 1 C pl.length dc (bi pl)
  anew : ∀ j ∈ ablk C, w.heap.size ≤ j ∧ j < wr.heap.size
  out : OwnB w wr B d ol
  sep : ∀ j ∈ ablk C, j ∉ ablk B
  raw : ∀ p ∈ ol, ∀ j ∈ ablk p.A, j ∈ ablk A
  cutD : cut bs = (ol.map Bs.xs ++ (cut (bs.drop k)).1, (cut (bs.drop k)).2)
  plc : plD 0 bs = pl ++ plD k (bs.drop k)
  le : k ≤ bs.length
  few : pl.length ≤ k ∧ ol.length ≤ k
end Go.Proofs.Ythophidcgkjdeaa
