/- Frames (layer 4). No condition. -/
import Derived.Test.YthophidcgkjdeaaH2
import Derived.Test.YthophidcgkjdeaaSb
import Derived.Test.YthophidcgkjdeaaCaOw
import Derived.WalkMore
/- Lists of bytes: as they come in; rows of the call's own that hold such; what a stream's frames are (plain). No condition. -/
namespace Go.Proofs.Ythophidcgkjdeaa
open Go.RowKit Go.WideShapes Go.ChangeShapes Go.Deep Go.Joins
structure Bl where
  A : Option Addr
  c : Nat
  l : List Bs
def Bl.v (x : Bl) : Value := .slice x.A x.l.length x.c
structure Bl.At (x : Bl) (w : World) : Prop where
  le : x.l.length ≤ x.c
  max : x.c ≤ maxLen
  src : Src w 1 x.A x.l.length (x.l.map Bs.v)
  ok : ∀ p ∈ x.l, p.At w
theorem Bs.At.ext {b : Bs} {w w' : World} (h : b.At w) (hx : Ext w w') : b.At w' := ⟨h.le, h.max, h.src.ext hx, h.byt⟩
theorem Bs.At.chg {b : Bs} {w w' : World} {m : List Nat} (h : b.At w) (hx : Chg w w' m) (hm : ∀ k ∈ ablk b.A, k ∉ m) : b.At w' := ⟨h.le, h.max, h.src.chg hx hm, h.byt⟩
theorem Bl.At.ext {x : Bl} {w w' : World} (h : x.At w) (hx : Ext w w') : x.At w' := ⟨h.le, h.max, h.src.ext hx, fun p hp => (h.ok p hp).ext hx⟩
theorem Bl.At.cell {x : Bl} {w : World} (h : x.At w) (h0 : 0 < x.l.length) : ∃ b off, x.A = some ⟨b, off, none⟩ ∧ b < w.heap.size ∧ ∀ (i : Nat) (hi : i < x.l.length), w.cell? ⟨b, off + i, none⟩ = some x.l[i].v := by
  obtain ⟨b, off, hA, hb, hc⟩ := h.src.lt h0 (by decide)
  refine ⟨b, off, hA, hb, fun i hi => ?_⟩
  rw [hc i (by omega), List.getElem?_map, List.getElem?_eq_getElem hi]
  rfl
instance : Inhabited Bs := ⟨⟨none, 0, []⟩⟩
section
variable {H : Type} {enc : TypeId × Value → H} {w : World}
end
theorem blInfo : (Try.prog.info? 39).map (fun i => (i.zero, i.size, i.bytes)) = some (some (.slice none 0 0), 1, 24) := by kernel_rfl
/-- Slices of bytes in a row of the call's own. -/
structure OwnB (w0 w : World) (A : Option Addr) (c : Nat) (l : List Bs) : Prop where
  row : Row w 39 1 A l.length c (l.map Bs.v)
  new : ∀ k ∈ ablk A, w0.heap.size ≤ k ∧ k < w.heap.size
  ok : ∀ p ∈ l, p.At w
  raw : ∀ p ∈ l, ∀ k ∈ ablk p.A, k < w.heap.size ∧ k ∉ ablk A
theorem OwnB.nil (w0 w : World) : OwnB w0 w none 0 [] := ⟨Row.nil _ _ _ _, by simp [ablk], by simp, by simp⟩
theorem OwnB.at_ {w0 w : World} {A : Option Addr} {c : Nat} {l : List Bs} (h : OwnB w0 w A c l) : (⟨A, c, l⟩ : Bl).At w := ⟨h.row.le, h.row.max, h.row.src, h.ok⟩
theorem OwnB.chg {w0 w w' : World} {A : Option Addr} {c : Nat} {l : List Bs} {m : List Nat} (h : OwnB w0 w A c l) (hx : Chg w w' m) (hm : ∀ k ∈ m, k ∉ ablk A) (hr : ∀ p ∈ l, ∀ k ∈ ablk p.A, k ∉ m) : OwnB w0 w' A c l :=
  ⟨h.row.chg hx (fun k hk h1 => hm k h1 hk), fun k hk => ⟨(h.new k hk).1, Nat.lt_of_lt_of_le (h.new k hk).2 hx.size⟩, fun p hp => (h.ok p hp).chg hx (hr p hp), fun p hp k hk => ⟨Nat.lt_of_lt_of_le (h.raw p hp k hk).1 hx.size, (h.raw p hp k hk).2⟩⟩
theorem OwnB.ext {w0 w w' : World} {A : Option Addr} {c : Nat} {l : List Bs} (h : OwnB w0 w A c l) (hx : Ext w w') : OwnB w0 w' A c l := h.chg (Chg.of_ext hx []) (by simp) (by simp)
theorem OwnB.base {w0 w1 w : World} {A : Option Addr} {c : Nat} {l : List Bs} (h : OwnB w1 w A c l) (hs : w0.heap.size ≤ w1.heap.size) : OwnB w0 w A c l := ⟨h.row, fun k hk => ⟨Nat.le_trans hs (h.new k hk).1, (h.new k hk).2⟩, h.ok, h.raw⟩
theorem OwnB.app {w0 w w' : World} {A A' : Option Addr} {c c' n k : Nat} {l ms : List Bs} {ys : List Value} (h : OwnB w0 w A c l) (hp : ∀ p ∈ ms, p.At w) (hpr : ∀ p ∈ ms, ∀ k ∈ ablk p.A, k < w.heap.size ∧ k ∉ ablk A) (hC : Chg w w' (ablk A)) (hR : Row w' 39 1 A' (n + k) c' (l.map Bs.v ++ ys)) (hn' : n = l.length) (hk : k = ms.length) (hys : ys = ms.map Bs.v) (hn : ∀ k ∈ ablk A', k ∈ ablk A ∨ (w.heap.size ≤ k ∧ k < w'.heap.size)) (hw : w0.heap.size ≤ w.heap.size) : OwnB w0 w' A' c' (l ++ ms) := by
  have hs := hC.size
  subst hn' hk hys
  refine ⟨?_, fun k hk => ?_, fun q hq => ?_, fun q hq k hk => ?_⟩
  · rw [List.length_append, List.map_append]
    exact hR
  · rcases hn k hk with h1 | h1
    · have := h.new k h1; omega
    · omega
  · rcases List.mem_append.1 hq with hq | hq
    · exact (h.ok q hq).chg hC (fun k hk => (h.raw q hq k hk).2)
    · exact (hp q hq).chg hC (fun k hk => (hpr q hq k hk).2)
  · have : k < w.heap.size ∧ k ∉ ablk A := by
      rcases List.mem_append.1 hq with hq | hq
      · exact h.raw q hq k hk
      · exact hpr q hq k hk
    refine ⟨by omega, fun h1 => ?_⟩
    rcases hn k h1 with h2 | h2
    · exact this.2 h2
    · omega
theorem bl_one (l : List Bs) : (l.map Bs.v).all (·.oneCell') = true := by
  rw [List.all_map]
  exact List.all_eq_true.2 (fun _ _ => rfl)
/-! ### the frames of a stream -/
theorem takeL_len (bs : List Int) : (takeL bs).length ≤ 64 := by
  unfold takeL
  split
  · simp
  split
  · simp
  split
  · simp
  · rw [List.length_take]; omega
/-- The payloads, what is left, the fault (0: nothing is wrong, but that more is wanted). -/
def cutN : Nat → List Int → List (List Int) × List Int × Int
  | 0, bs => ([], bs, 3)
  | n + 1, bs => if takeF bs = 0 then (takeL bs :: (cutN n (bs.drop (takeN bs).toNat)).1, (cutN n (bs.drop (takeN bs).toNat)).2) else ([], bs, takeF bs)
theorem takeN_pos {bs : List Int} (h : takeF bs = 0) : 2 ≤ (takeN bs).toNat ∧ (takeN bs).toNat ≤ bs.length ∧ takeN bs = (((takeN bs).toNat : Nat) : Int) := by
  unfold takeF at h
  unfold takeN
  split at h
  · cases h
  split at h
  · cases h
  split at h
  · cases h
  · rename_i h1 h2 h3
    rw [if_neg h1, if_neg h2, if_neg h3]
    omega
theorem takeF_is (bs : List Int) : takeF bs = 0 ∨ takeF bs = 3 ∨ takeF bs = 4 := by
  unfold takeF
  split
  · exact .inr (.inl rfl)
  split
  · exact .inr (.inr rfl)
  split
  · exact .inr (.inl rfl)
  · exact .inl rfl
theorem cutN_more : ∀ (n m : Nat) (bs : List Int), bs.length < n → bs.length < m → cutN n bs = cutN m bs
  | 0, _, _, h, _ => by omega
  | _, 0, _, _, h => by omega
  | n + 1, m + 1, bs, hn, hm => by
    show (if takeF bs = 0 then _ else _) = (if takeF bs = 0 then _ else _)
    by_cases hf : takeF bs = 0
    · obtain ⟨h1, h2, _⟩ := takeN_pos hf
      rw [if_pos hf, if_pos hf, cutN_more n m (bs.drop (takeN bs).toNat) (by rw [List.length_drop]; omega) (by rw [List.length_drop]; omega)]
    · rw [if_neg hf, if_neg hf]
def cut (bs : List Int) : List (List Int) × List Int × Int := cutN (bs.length + 1) bs
theorem cut_no {bs : List Int} (h : takeF bs ≠ 0) : cut bs = ([], bs, takeF bs) := if_neg h
theorem cut_yes {bs : List Int} (h : takeF bs = 0) : cut bs = (takeL bs :: (cut (bs.drop (takeN bs).toNat)).1, (cut (bs.drop (takeN bs).toNat)).2) := by
  obtain ⟨h1, h2, _⟩ := takeN_pos h
  have e : cut bs = (takeL bs :: (cutN bs.length (bs.drop (takeN bs).toNat)).1, (cutN bs.length (bs.drop (takeN bs).toNat)).2) := if_pos h
  rw [e, cutN_more bs.length ((bs.drop (takeN bs).toNat).length + 1) _ (by rw [List.length_drop]; omega) (by omega)]
  rfl
end Go.Proofs.Ythophidcgkjdeaa
/- Frames (layer 4): a joiner's Add. Condition: at most 10^6 bytes. -/
namespace Go.Proofs.Ythophidcgkjdeaa
open Go.RowKit
attribute [local go_sem] Later.cell QUpon_value QUpon_enter MUpon_value run_eql_slice_nil
/-- What Add tells: the payloads, what it holds, its fault. -/
def joinD (bs : List Int) (f : Int) (x : List Int) : List (List Int) × List Int × Int := if f ≠ 0 then ([], bs, f) else ((cut (bs ++ x)).1, if (cut (bs ++ x)).2.2 = 4 then [] else (cut (bs ++ x)).2.1, if (cut (bs ++ x)).2.2 = 4 then 4 else 0)
def lenJ (w : World) (g : Nat) : Nat := match w.cell? ⟨g, 0, none⟩ with | some (.slice _ n _) => n | _ => 0
theorem lenJ_at {w : World} {g : Nat} {t : TypeId} {A : Option Addr} {n c : Nat} {v : Value} (h : At w g t #[.slice A n c, v]) : lenJ w g = n := by
  have := h.cell 0
  unfold lenJ
  rw [this]
  rfl
end Go.Proofs.Ythophidcgkjdeaa
/- Frames (layer 4): the document's Lists; what is put, cut anywhere, comes out (plain). No condition. -/
namespace Go.Proofs.Ythophidcgkjdeaa
open Go.RowKit
attribute [local go_sem] Later.cell QUpon_value QUpon_enter MUpon_value run_eql_slice_nil
/-! ### plain -/
def stream (l : List (List Int)) : List Int := l.flatMap frB
theorem uintB2 {n : Nat} (h : n ≤ 64) : uintB n 2 = [0, (n : Int)] := by
  show [((n / 256 ^ 1 % 256 : Nat) : Int), ((n / 256 ^ 0 % 256 : Nat) : Int)] = _
  rw [show n / 256 ^ 1 % 256 = 0 by omega, show n / 256 ^ 0 % 256 = n by omega]
  rfl
theorem frB_is {p : List Int} (h : p.length ≤ 64) : frB p = 0 :: (p.length : Int) :: p := by unfold frB; rw [uintB2 h]; rfl
theorem valN2 (n : Nat) : valN [0, (n : Int)] = n := by
  show ((0 * 256 + (0 : Int).toNat) * 256 + (n : Int).toNat) = n
  simp
theorem take_frB {p rest : List Int} (h : p.length ≤ 64) : takeF (frB p ++ rest) = 0 ∧ takeL (frB p ++ rest) = p ∧ takeN (frB p ++ rest) = ((2 + p.length : Nat) : Int) := by
  rw [frB_is h]
  have e : ((0 : Int) :: (p.length : Int) :: p ++ rest).take 2 = [0, (p.length : Int)] := rfl
  have l : ((0 : Int) :: (p.length : Int) :: p ++ rest).length = 2 + p.length + rest.length := by simp; omega
  unfold takeF takeL takeN
  rw [e, valN2, l]
  rw [if_neg (by omega), if_neg (by omega), if_neg (by omega), if_neg (by omega), if_neg (by omega), if_neg (by omega), if_neg (by omega), if_neg (by omega), if_neg (by omega)]
  refine ⟨rfl, ?_, by omega⟩
  show (p ++ rest).take p.length = p
  simp
theorem take_less {p y z rest : List Int} (h : p.length ≤ 64) (hy : y ++ z = frB p ++ rest) (hl : y.length < 2 + p.length) : takeF y = 3 := by
  rw [frB_is h] at hy
  unfold takeF
  by_cases h2 : y.length < 2
  · rw [if_pos h2]
  · have e : y.take 2 = [0, (p.length : Int)] := by
      have := congrArg (List.take 2) hy
      rw [List.take_append_of_le_length (by omega)] at this
      rw [this]; rfl
    rw [if_neg h2, e, valN2, if_neg (by omega), if_pos (by omega)]
theorem cut_stream : ∀ (l : List (List Int)) (rest : List Int), (∀ p ∈ l, p.length ≤ 64) → cut (stream l ++ rest) = (l ++ (cut rest).1, (cut rest).2)
  | [], rest, _ => rfl
  | p :: l, rest, h => by
    have ih := cut_stream l rest (fun q hq => h q (by simp [hq]))
    have e : stream (p :: l) ++ rest = frB p ++ (stream l ++ rest) := by show (frB p ++ stream l) ++ rest = _; rw [List.append_assoc]
    obtain ⟨h1, h2, h3⟩ := take_frB (rest := stream l ++ rest) (h p (by simp))
    have hd : (frB p ++ (stream l ++ rest)).drop (2 + p.length) = stream l ++ rest := by rw [← frB_len p, List.drop_left]
    rw [e, cut_yes h1, h2, h3, show ((2 + p.length : Nat) : Int).toNat = 2 + p.length from rfl, hd, ih]
    rfl
theorem cut_pre : ∀ (todo : List (List Int)) (y z : List Int), (∀ p ∈ todo, p.length ≤ 64) → y ++ z = stream todo → ∃ T todo' rest, cut y = (T, rest, 3) ∧ todo = T ++ todo' ∧ rest ++ z = stream todo'
  | [], y, z, _, hy => by
    have h0 : y = [] := by have := congrArg List.length hy; simp [stream] at this; exact this.1
    subst h0
    exact ⟨[], [], [], rfl, rfl, hy⟩
  | p :: todo, y, z, h, hy => by
    have e : stream (p :: todo) = frB p ++ stream todo := rfl
    rw [e] at hy
    have hp := h p (by simp)
    by_cases hl : y.length < 2 + p.length
    · have h3 := take_less hp hy hl
      exact ⟨[], p :: todo, y, by rw [cut_no (by rw [h3]; decide), h3], rfl, hy⟩
    · have ht : y.take (2 + p.length) = frB p := by
        have := congrArg (List.take (2 + p.length)) hy
        rw [List.take_append_of_le_length (by omega), ← frB_len p, List.take_left] at this
        rw [← frB_len p]; exact this
      have hd : y.drop (2 + p.length) ++ z = stream todo := by
        have := congrArg (List.drop (2 + p.length)) hy
        rw [List.drop_append_of_le_length (by omega), ← frB_len p, List.drop_left] at this
        rw [← frB_len p]; exact this
      obtain ⟨T, todo', rest, h1, h2, h3⟩ := cut_pre todo _ z (fun q hq => h q (by simp [hq])) hd
      obtain ⟨t1, t2, t3⟩ := take_frB (rest := y.drop (2 + p.length)) hp
      have hyy : y = frB p ++ y.drop (2 + p.length) := by rw [← ht, List.take_append_drop]
      refine ⟨p :: T, todo', rest, ?_, by rw [h2]; rfl, h3⟩
      have hc := cut_yes (bs := frB p ++ y.drop (2 + p.length)) t1
      rw [t2, t3, show ((2 + p.length : Nat) : Int).toNat = 2 + p.length from rfl, ← hyy, h1] at hc
      exact hc
theorem cut_nil : cut [] = ([], [], 3) := rfl
theorem join_pre {todo : List (List Int)} {bs y z : List Int} (h : ∀ p ∈ todo, p.length ≤ 64) (hy : bs ++ (y ++ z) = stream todo) : ∃ T todo' rest, joinD bs 0 y = (T, rest, 0) ∧ todo = T ++ todo' ∧ rest ++ z = stream todo' := by
  rw [← List.append_assoc] at hy
  obtain ⟨T, todo', rest, h1, h2, h3⟩ := cut_pre todo (bs ++ y) z h hy
  refine ⟨T, todo', rest, ?_, h2, h3⟩
  unfold joinD
  rw [if_neg (by simp), h1]
  rfl
theorem join_all {todo : List (List Int)} {bs y : List Int} (h : ∀ p ∈ todo, p.length ≤ 64) (hy : bs ++ y = stream todo) : joinD bs 0 y = (todo, [], 0) := by
  have := cut_stream todo [] h
  rw [List.append_nil, ← hy, cut_nil, List.append_nil] at this
  unfold joinD
  rw [if_neg (by simp), this]
  rfl
theorem stream_len {l : List (List Int)} (h : ∀ p ∈ l, p.length ≤ 64) : (stream l).length ≤ 66 * l.length := by
  induction l with
  | nil => simp [stream]
  | cons p l ih =>
    have := ih (fun q hq => h q (by simp [hq]))
    have hp := h p (by simp)
    show (frB p ++ stream l).length ≤ _
    rw [List.length_append, frB_len, List.length_cons]
    omega
theorem stream_byt {l : List (List Int)} (h : ∀ p ∈ l, Byt p) : Byt (stream l) := by
  intro x hx
  unfold stream at hx
  rw [List.mem_flatMap] at hx
  obtain ⟨p, hp, hx⟩ := hx
  exact frB_byt (h p hp) x hx
/-! ### Lists -/
def Bl.xs (x : Bl) : List (List Int) := x.l.map Bs.xs
end Go.Proofs.Ythophidcgkjdeaa
