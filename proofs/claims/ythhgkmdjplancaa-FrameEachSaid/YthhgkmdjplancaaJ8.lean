/- Law FrameEach. No condition. -/
import Derived.Test.YthhgkmdjplancaaJ7
import Derived.Test.YthhgkmdjplancaaH2
namespace Go.Proofs.Ythhgkmdjplancaa
open Go.RowKit Go.Shelf
attribute [local go_sem] Oper.semAt_some Later.cell QUpon_value QUpon_enter MUpon_value run_eql_slice_nil
theorem each_c (A : Option Addr) (n c : Nat) (w : World) : Calls Try.prog 14 #[.slice A n c] w fun e w' => e = .returned (.func (.func 29) #[] #[.pointer (some ⟨w.heap.size, 0, none⟩)]) ∧ w' = w.alloc (.cells #[.slice A n c] 22) := by
  go_enter Try.func14, Try.ntmps14
  go_wp2_with fail
  first | refine fin_ret rfl (fun K hK => ?_) | refine fin_norm rfl (fun K hK => ?_)
  simp [results, Try.results14, go_sem, rsat]
  try go_simp
  refine hK _ ?_
  clear hK K
  exact ⟨rfl, rfl⟩
theorem Chg.turn {W X Y : World} {m : List Nat} {row : Option Nat} (h : Chg W X m) (hg : X.grownBy Y row) (hr : ∀ r, row = some r → W.heap.size ≤ r) : Chg W Y m :=
  ⟨hg.os.trans h.os, hg.tape.trans h.tape, hg.output.trans h.output, Nat.le_trans h.size hg.size, fun k hk hm => (hg.block k (Nat.lt_of_lt_of_le hk h.size) (fun e => by have := hr k e.symm; omega)).trans (h.block k hk hm)⟩
theorem At.turn {X Y : World} {g : Nat} {t : TypeId} {cs : Array Value} {row : Option Nat} (h : At X g t cs) (hg : X.grownBy Y row) (hr : ∀ r, row = some r → ∃ o : Obj, X.heap[r]? = some o ∧ o.isCells = false) : At Y g t cs := (grownBy_keeps_cells hg hr h rfl).trans h
theorem Src.turn {X Y : World} {n k : Nat} {A : Option Addr} {xs : List Value} {row : Option Nat} (h : Src X n A k xs) (hg : X.grownBy Y row) (hr : ∀ r, row = some r → ∃ o : Obj, X.heap[r]? = some o ∧ o.isCells = false) : Src Y n A k xs := ⟨h.len, fun h0 => by
  obtain ⟨ad, h1, h2⟩ := h.at_ h0
  exact ⟨ad, h1, fun j u hj => cell_kept (h2 j u hj) hg hr⟩⟩
theorem vf_own (B : Nat) (x : Int × Bs) : OwnFrom B (fun (_ : Unit) W => VF x W) := fun _ X Y row h hg hr =>
  ⟨⟨h.at_.le, h.at_.max, h.at_.src.turn hg (fun r e => (hr r e).2), h.at_.byt⟩, fun k hk => Nat.lt_of_lt_of_le (h.in_ k hk) hg.size, h.few, h.nn, h.le⟩
theorem Ext.putObj {w X : World} (h : Ext w X) {D : Nat} (hD : w.heap.size ≤ D) (o : Obj) : Ext w (X.putObj D o) := ⟨h.os, h.tape, h.output, by rw [World.putObj_size]; exact h.size, fun k hk => (World.putObj_heap_other (by omega)).trans (h.block k hk)⟩
theorem At.putObj {X : World} {g : Nat} {t : TypeId} {cs : Array Value} (h : At X g t cs) {D : Nat} (hD : g ≠ D) (o : Obj) : At (X.putObj D o) g t cs := (World.putObj_heap_other hD).trans h
theorem others_ext {X Y : World} (h : Ext X Y) : KeepsOthers X Y := ⟨h.size, fun k o hk _ => (h.block k (Array.getElem?_eq_some_iff.1 hk).1).trans hk⟩
theorem KpF.chg {cb : Nat} {A : Option Addr} {X Y : World} {m : List Nat} (h : Chg X Y m) (hc : cb < X.heap.size ∧ cb ∉ m) (hA : ∀ k ∈ ablk A, k < X.heap.size ∧ k ∉ m) : KpF cb A X Y := ⟨h.size, h.block _ hc.1 hc.2, fun k hk => h.block k (hA k hk).1 (hA k hk).2⟩
theorem pln_len : ∀ (n i : Nat) (bs : List Int), (plN n i bs).length = (cutN n bs).1.length
  | 0, _, _ => rfl
  | n + 1, i, bs => by
    show (if takeF bs = 0 then _ else _ : List Int).length = (if takeF bs = 0 then _ else _ : List (List Int) × List Int × Int).1.length
    by_cases hf : takeF bs = 0
    · rw [if_pos hf, if_pos hf, List.length_cons, List.length_cons, pln_len n]
    · rw [if_neg hf, if_neg hf]
      rfl
theorem pl_len (i : Nat) (bs : List Int) : (plD i bs).length = (cut bs).1.length := pln_len _ _ _
/-- Between two rounds. -/
structure EachI (W : World) (b4 b9 most : Nat) (stop : Int) (pre : List (Int × Bs)) (X : World) : Prop where
  chg : Chg W X [b4, b9]
  res : At X b4 4 #[.bool false]
  num : At X b9 3 #[.int .i64 (pre.length : Nat)]
  le : pre.length ≤ most
  far : 0 < stop → (pre.length : Int) < stop
/-- Left. -/
structure EachX (W : World) (b4 b9 most : Nat) (stop : Int) (bs : List Int) (c : Code) (pre : List (Int × Bs)) (X : World) : Prop where
  chg : Chg W X [b4, b9]
  res : At X b4 4 #[.bool false]
  how : (c = .ret ∧ ∃ q x, pre = q ++ [x] ∧ (most ≤ q.length ∨ (plD 0 bs)[q.length]? ≠ some x.1 ∨ ((cut bs).1)[q.length]? ≠ some x.2.xs)) ∨ (c = .exit 0 ∧ At X b9 3 #[.int .i64 (pre.length : Nat)] ∧ (pre.length : Int) = stop ∧ pre.length ≤ most ∧ 0 < pre.length)
theorem eachI_own {W : World} {b4 b9 most : Nat} {stop : Int} : OwnFrom W.heap.size (fun pre X => EachI W b4 b9 most stop pre X) := fun s X Y row h hg hr =>
  ⟨h.chg.turn hg (fun r e => (hr r e).1), h.res.turn hg (fun r e => (hr r e).2), h.num.turn hg (fun r e => (hr r e).2), h.le, h.far⟩
theorem eachX_own {W : World} {b4 b9 most : Nat} {stop : Int} {bs : List Int} (c : Code) : OwnFrom W.heap.size (fun pre X => EachX W b4 b9 most stop bs c pre X) := fun s X Y row h hg hr =>
  ⟨h.chg.turn hg (fun r e => (hr r e).1), h.res.turn hg (fun r e => (hr r e).2), h.how.imp id (fun ⟨h1, h2, h3⟩ => ⟨h1, h2.turn hg (fun r e => (hr r e).2), h3⟩)⟩
set_option maxHeartbeats 2000000 in
set_option maxRecDepth 100000 in
theorem frameeach_c (x : Bs) (stop : Int) (iS : I64 stop) (w : World) (h : x.At w) :
    Calls Try.prog 4 #[x.v, .int .i64 stop] w fun e w' => e = .returned (.bool true) ∧ Ext w w' := by
  obtain ⟨A, c, bs⟩ := x
  obtain ⟨hle, hmax, hS, hby⟩ := h
  simp only at hle hmax hS hby
  simp only [Bs.v]
  have hm2 := hmax
  unfold maxLen at hm2
  by_cases hl : 400 < bs.length
  · have hl2 : (400 : Int) < (bs.length : Int) := by omega
    refine (callsIn_wide (n := 6)).1 ?_
    refine callsIn_of_wp_marks Try.func4 rfl trivial ?_ rfl
    simp only [Try.ntmps4, List.size_toArray, List.length_cons, List.length_nil, Nat.reduceAdd, Nat.reduceSub, Array.replicate_succ, Array.replicate_zero, List.push_toArray, List.append_toArray, List.nil_append, List.cons_append]
    gi_wp2_with fail
    refine ⟨trivial, ?_⟩
    gi_at_call 7
    refine (callsIn_wide.2 (alive_c4 _)).mono ?_
    rintro e w1 ⟨rfl, hx1⟩
    have X1 : Ext w w1 := Ext.trans (by repeat (first | (with_reducible exact Ext.refl _) | (with_reducible assumption) | (with_reducible refine Ext.alloc ?_ _) | (with_reducible refine Ext.drew ?_) | (with_reducible refine Ext.drewN ?_ _) | (with_reducible refine Ext.setCell ?_ (by simp; try omega) _) | (with_reducible refine Ext.setRow ?_ (by simp; try omega) _))) hx1
    have H4 := (show At ((w.alloc (.cells #[.int .i64 stop] 3)).alloc (.cells #[.bool false] 4)) (w.heap.size + 1) 4 #[.bool false] from (by repeat (first | (with_reducible exact At.new _ _ _) | ((with_reducible refine At.new' _ _ _ _ ?_); simp; done) | (with_reducible assumption) | (with_reducible refine At.drew ?_) | (with_reducible refine At.alloc ?_ _) | (with_reducible apply At.upd) | (with_reducible apply At.setRow) | (with_reducible refine At.rowFar ?_ (by first | (simp; done) | (simp; omega) | omega) _) | ((with_reducible refine At.far ?_ (by first | (simp; done) | (simp; omega) | omega) _)) | (with_reducible rfl) | (simp; done)))).ext hx1
    have c4 : w1.cell? ⟨w.heap.size + 1, 0, none⟩ = some (.bool false) := H4.cell 0
    have z4 := H4.frozen 0
    have s4 := H4.lt
    gi_wp2_with fail
    have c5 : (w1.setCell ⟨w.heap.size + 1, 0, none⟩ (.bool true)).cell? ⟨w.heap.size + 1, 0, none⟩ = some (.bool true) := (H4.set 0 (.bool true)).cell 0
    refine ⟨.bool true, ?_, rfl, (by repeat (first | (with_reducible exact Ext.refl _) | (with_reducible assumption) | (with_reducible refine Ext.alloc ?_ _) | (with_reducible refine Ext.drew ?_) | (with_reducible refine Ext.drewN ?_ _) | (with_reducible refine Ext.setCell ?_ (by simp; try omega) _) | (with_reducible refine Ext.setRow ?_ (by simp; try omega) _)))⟩
    simp [results, Try.results4, go_sem, c5]
  have hA1 : 0 < bs.length → ∀ k ∈ ablk A, k < w.heap.size := fun h0 k hk => by
    obtain ⟨b, off, hA', hbw, _⟩ := hS.lt h0 (by decide)
    subst hA'
    simp [ablk] at hk
    omega
  obtain ⟨A1, hAA⟩ : ∃ A1, A1 = if 0 < bs.length then A else none := ⟨_, rfl⟩
  have hAe : 0 < bs.length → A1 = A := fun h0 => by rw [hAA, if_pos h0]
  have hA2 : ∀ k ∈ ablk A1, k < w.heap.size := fun k hk => by
    by_cases h0 : 0 < bs.length
    · exact hA1 h0 k (hAe h0 ▸ hk)
    · rw [hAA, if_neg h0] at hk; simp [ablk] at hk
  clear hAA
  have hl2 : ¬ (400 : Int) < (bs.length : Int) := by omega
  refine (callsIn_wide (n := 6)).1 ?_
  refine callsIn_of_wp_marks Try.func4 rfl trivial ?_ rfl
  simp only [Try.ntmps4, List.size_toArray, List.length_cons, List.length_nil, Nat.reduceAdd, Nat.reduceSub, Array.replicate_succ, Array.replicate_zero, List.push_toArray, List.append_toArray, List.nil_append, List.cons_append]
  gi_wp2_with fail
  refine ⟨trivial, ?_⟩
  gi_at_call 7
  refine (callsIn_wide.2 (alive_c4 _)).mono ?_
  rintro e w1 ⟨rfl, hx1⟩
  have X1 : Ext w w1 := Ext.trans (by repeat (first | (with_reducible exact Ext.refl _) | (with_reducible assumption) | (with_reducible refine Ext.alloc ?_ _) | (with_reducible refine Ext.drew ?_) | (with_reducible refine Ext.drewN ?_ _) | (with_reducible refine Ext.setCell ?_ (by simp; try omega) _) | (with_reducible refine Ext.setRow ?_ (by simp; try omega) _))) hx1
  have H3 := (show At ((w.alloc (.cells #[.int .i64 stop] 3)).alloc (.cells #[.bool false] 4)) w.heap.size 3 #[.int .i64 stop] from (by repeat (first | (with_reducible exact At.new _ _ _) | ((with_reducible refine At.new' _ _ _ _ ?_); simp; done) | (with_reducible assumption) | (with_reducible refine At.drew ?_) | (with_reducible refine At.alloc ?_ _) | (with_reducible apply At.upd) | (with_reducible apply At.setRow) | (with_reducible refine At.rowFar ?_ (by first | (simp; done) | (simp; omega) | omega) _) | ((with_reducible refine At.far ?_ (by first | (simp; done) | (simp; omega) | omega) _)) | (with_reducible rfl) | (simp; done)))).ext hx1
  have H4 := (show At ((w.alloc (.cells #[.int .i64 stop] 3)).alloc (.cells #[.bool false] 4)) (w.heap.size + 1) 4 #[.bool false] from (by repeat (first | (with_reducible exact At.new _ _ _) | ((with_reducible refine At.new' _ _ _ _ ?_); simp; done) | (with_reducible assumption) | (with_reducible refine At.drew ?_) | (with_reducible refine At.alloc ?_ _) | (with_reducible apply At.upd) | (with_reducible apply At.setRow) | (with_reducible refine At.rowFar ?_ (by first | (simp; done) | (simp; omega) | omega) _) | ((with_reducible refine At.far ?_ (by first | (simp; done) | (simp; omega) | omega) _)) | (with_reducible rfl) | (simp; done)))).ext hx1
  clear hx1
  gi_wp2_with fail
  refine ⟨trivial, ?_⟩
  gi_at_call 13
  refine (callsIn_wide.2 (rfall_c A c bs hby (by omega) hle hmax w1 (hS.ext X1) (fun h0 k hk => Nat.lt_of_lt_of_le (hA1 h0 k hk) X1.size))).mono ?_
  rintro e w2 ⟨hx2, C, dc, B, d, ol, rfl, R2, O2, hol, hraw⟩
  have X2 := X1.trans hx2
  have G3 := H3.ext hx2
  have G4 := H4.ext hx2
  have s4 := G4.lt
  have sw := X2.size
  have s1 := X1.size
  have h41 := H4.lt
  clear H3 H4 X1 hx2
  generalize hend : (if (cut bs).2.1 = [] then (0 : Int) else (cut bs).2.2) = fe
  generalize hen2 : ((bs.length : Int) - ((cut bs).2.1.length : Nat)) = fl
  clear hend hen2
  gi_wp2_with fail
  refine ⟨trivial, ?_⟩
  gi_at_call 14
  refine (callsIn_wide.2 (each_c A bs.length c _)).mono ?_
  rintro e W ⟨rfl, hW⟩
  have HW := Lib.hid hW
  have xW : Ext w2 W := by rw [HW.out]; exact (by repeat (first | (with_reducible exact Ext.refl _) | (with_reducible assumption) | (with_reducible refine Ext.alloc ?_ _) | (with_reducible refine Ext.drew ?_) | (with_reducible refine Ext.drewN ?_ _) | (with_reducible refine Ext.setCell ?_ (by simp; try omega) _) | (with_reducible refine Ext.setRow ?_ (by simp; try omega) _)))
  have hsW : W.heap.size = w2.heap.size + 1 + 1 + 1 + 1 := by rw [HW.out]; simp
  have G5 : At W w2.heap.size 30 #[.slice C (plD 0 bs).length dc] := by rw [HW.out]; exact (by repeat (first | (with_reducible exact At.new _ _ _) | ((with_reducible refine At.new' _ _ _ _ ?_); simp; done) | (with_reducible assumption) | (with_reducible refine At.drew ?_) | (with_reducible refine At.alloc ?_ _) | (with_reducible apply At.upd) | (with_reducible apply At.setRow) | (with_reducible refine At.rowFar ?_ (by first | (simp; done) | (simp; omega) | omega) _) | ((with_reducible refine At.far ?_ (by first | (simp; done) | (simp; omega) | omega) _)) | (with_reducible rfl) | (simp; done)))
  have G6 : At W (w2.heap.size + 1) 31 #[.slice B ol.length d] := by rw [HW.out]; exact (by repeat (first | (with_reducible exact At.new _ _ _) | ((with_reducible refine At.new' _ _ _ _ ?_); simp; done) | (with_reducible assumption) | (with_reducible refine At.drew ?_) | (with_reducible refine At.alloc ?_ _) | (with_reducible apply At.upd) | (with_reducible apply At.setRow) | (with_reducible refine At.rowFar ?_ (by first | (simp; done) | (simp; omega) | omega) _) | ((with_reducible refine At.far ?_ (by first | (simp; done) | (simp; omega) | omega) _)) | (with_reducible rfl) | (simp; done)))
  have G9 : At W (w2.heap.size + 1 + 1) 3 #[.int .i64 0] := by rw [HW.out]; exact (by repeat (first | (with_reducible exact At.new _ _ _) | ((with_reducible refine At.new' _ _ _ _ ?_); simp; done) | (with_reducible assumption) | (with_reducible refine At.drew ?_) | (with_reducible refine At.alloc ?_ _) | (with_reducible apply At.upd) | (with_reducible apply At.setRow) | (with_reducible refine At.rowFar ?_ (by first | (simp; done) | (simp; omega) | omega) _) | ((with_reducible refine At.far ?_ (by first | (simp; done) | (simp; omega) | omega) _)) | (with_reducible rfl) | (simp; done)))
  have GB : At W (w2.heap.size + 1 + 1 + 1) 22 #[.slice A bs.length c] := by rw [HW.out]; exact (by repeat (first | (with_reducible exact At.new _ _ _) | ((with_reducible refine At.new' _ _ _ _ ?_); simp; done) | (with_reducible assumption) | (with_reducible refine At.drew ?_) | (with_reducible refine At.alloc ?_ _) | (with_reducible apply At.upd) | (with_reducible apply At.setRow) | (with_reducible refine At.rowFar ?_ (by first | (simp; done) | (simp; omega) | omega) _) | ((with_reducible refine At.far ?_ (by first | (simp; done) | (simp; omega) | omega) _)) | (with_reducible rfl) | (simp; done)))
  clear hW
  have F3 := G3.ext xW
  have F4 := G4.ext xW
  have RC := R2.ext xW
  have OC := O2.ext xW
  have XW := X2.trans xW
  have hb4 : w.heap.size + 1 < w2.heap.size := s4
  have hbase := O2.new
  simp only [World.size_alloc]
  have hCb : 0 < (plD 0 bs).length → ∀ k ∈ ablk C, k < w2.heap.size ∧ k ≠ w.heap.size + 1 := fun h0 k hk => by
    have hle := R2.le
    obtain ⟨g, off, cur, hC0, hg, _⟩ := R2.at_ (by omega)
    refine ⟨R2.lt (by omega) hk, fun e => ?_⟩
    rw [hC0] at hk
    simp [ablk] at hk
    exact At.ne_ (t := 3) hg G4 (by decide) (hk.symm.trans e)
  clear R2 O2 G3 G4
  gi_wp2_with fail
  apply range_v (n := 6) (encs := encF) (V := VF) (Kp := KpF (w2.heap.size + 1 + 1 + 1) A1) (S := AllF bs) (Sp := PreF bs) (N := bs.length + 1) (W0 := W) (I := fun pre X => EachI W (w.heap.size + 1) (w2.heap.size + 1 + 1) ol.length stop pre X) (Ix := fun cd pre X => EachX W (w.heap.size + 1) (w2.heap.size + 1 + 1) ol.length stop bs cd pre X)
  case hro => rfl
  case h1 => decide
  case hg => rfl
  case hF => trivial
  case eg => exact enters_of Try.func29 (by kernel_rfl) rfl
  case hseq => exact each_hands _ A A1 c bs hby (by omega) hle hmax 5 (by decide) W (GB.cell 0) (hS.ext XW) hAe (fun k hk => Nat.lt_of_lt_of_le (hA2 k hk) XW.size)
  case hb0 => exact Below.refl _ _
  case hps => exact fun _ => rfl
  case hV => exact fun x => vf_own _ x
  case hKt => exact fun h k => h.trans k
  case hKb => exact KpF.put (by omega) (fun k hk => Nat.lt_of_lt_of_le (hA2 k hk) XW.size)
  case hI => exact eachI_own
  case hIx => exact fun c => eachX_own c
  case h0 => exact ⟨Chg.refl _ _, F4, G9, Nat.zero_le _, fun h => h⟩
  case hassign =>
    intro l x X K hK
    dsimp only [encF]
    gi_wp2
    exact hK
  case hbody =>
    intro l pre x X hI hV hlen
    obtain ⟨px, ⟨xA, xc, xx⟩⟩ := x
    obtain ⟨⟨xle, xmax, xS, xby⟩, xin, xfew, xnn, xle2⟩ := hV
    simp only at xle xmax xS xby xin xfew xnn xle2
    have c9 : X.cell? ⟨w2.heap.size + 1 + 1, 0, none⟩ = some (.int .i64 (pre.length : Nat)) := hI.num.cell 0
    have z9 := hI.num.frozen 0
    have s9 := hI.num.lt
    have c4 : X.cell? ⟨w.heap.size + 1, 0, none⟩ = some (.bool false) := hI.res.cell 0
    have z4 := hI.res.frozen 0
    have s4' := hI.res.lt
    have c6 : X.cell? ⟨w2.heap.size + 1, 0, none⟩ = some (.slice B ol.length d) := (hI.chg.at G6 (by simp; omega)).cell 0
    have hn1 := hI.le
    have E3 := hI.chg.at F3 (by simp; omega)
    have hfl := hI.far
    have xsz := hI.chg.size
    by_cases hn : pre.length < ol.length
    · have hni : ¬ ((ol.length : Int) ≤ (pre.length : Int)) := by omega
      have hbl : 0 < bs.length := by
        rcases Nat.eq_zero_or_pos bs.length with h0 | h0
        · have : bs = [] := List.eq_nil_of_length_eq_zero h0
          rw [this, cut_nil] at hol
          simp at hol
          rw [hol] at hn
          simp at hn
        · exact h0
      have hpn : pre.length < (plD 0 bs).length := by rw [pl_len, ← hol, List.length_map]; exact hn
      obtain ⟨pv, hpv⟩ : ∃ pv, pv = (plD 0 bs)[pre.length] := ⟨_, rfl⟩
      have hpq : (plD 0 bs)[pre.length]? = some pv := by rw [hpv]; exact List.getElem?_eq_getElem hpn
      have hcb := hCb (by omega)
      have RX := RC.chg hI.chg (fun k hk hm => by have := hcb k hk; simp at hm; omega)
      have OX := OC.row.chg hI.chg (fun k hk hm => by have := hbase k hk; simp at hm; omega)
      obtain ⟨y, hy⟩ : ∃ y, y = ol[pre.length] := ⟨_, rfl⟩
      have hym : y ∈ ol := by rw [hy]; exact List.getElem_mem _
      have hyA := (OC.ok y hym).chg hI.chg (fun k hk hm => by have := hA1 hbl k (hraw y hym k hk); simp at hm; omega)
      have hyx : ((cut bs).1)[pre.length]? = some y.xs := by rw [← hol, List.getElem?_map, List.getElem?_eq_getElem hn, hy]; rfl
      obtain ⟨gC, oC, _, hC0, _⟩ := RX.at_ (by have := RX.le; omega)
      subst hC0
      have cC := RX.cell rfl (j := pre.length) (by omega)
      obtain ⟨gB, oB, _, hB0, _⟩ := OX.at_ (by have := OX.le; omega)
      subst hB0
      have cB := OX.cell rfl (j := pre.length) (by omega)
      have hbi : (bi (plD 0 bs))[pre.length]? = some (.int .i64 pv) := by unfold bi; rw [List.getElem?_map, hpq]; rfl
      have hbv : (ol.map Bs.v)[pre.length]? = some y.v := by rw [List.getElem?_map, List.getElem?_eq_getElem hn, hy]; rfl
      rw [hbi] at cC
      rw [hbv] at cB
      obtain ⟨yA, yc, yx⟩ := y
      simp only [Bs.v] at cB
      simp only at hyx
      have c5 : X.cell? ⟨w2.heap.size, 0, none⟩ = some (.slice (some ⟨gC, oC, none⟩) (plD 0 bs).length dc) := (hI.chg.at G5 (by simp; omega)).cell 0
      have c3 : X.cell? ⟨w.heap.size, 0, none⟩ = some (.int .i64 stop) := E3.cell 0
      have hpi : (pre.length : Int) < ((plD 0 bs).length : Int) := by omega
      have hoi : (pre.length : Int) < (ol.length : Int) := by omega
      have hmx : pre.length ≤ 400 := by omega
      have n39 : w.heap.size ≠ w2.heap.size + 1 + 1 := by omega
      clear hbi hbv hpv hy hym hol
      by_cases hp : px = pv
      · have hpb : (px != pv) = false := by simp [hp]
        gi_wp2_with fail
        refine ⟨trivial, ?_⟩
        gi_at_call 12
        refine (CallsIn.inRound l (callsIn_wide.2 (same_c xA yA xx.length yx.length xc yc xx yx X xS hyA.src xby hyA.byt))).mono ?_
        rintro e X4 ⟨rfl, hx4⟩
        by_cases hq : xx = yx
        · have hqb : decide (xx = yx) = true := decide_eq_true hq
          rw [hqb]
          have Q9 := hI.num.ext hx4
          have Q3 := E3.ext hx4
          have n4' : X4.cell? ⟨w2.heap.size + 1 + 1, 0, none⟩ = some (.int .i64 (pre.length : Nat)) := Q9.cell 0
          have m4' := Q9.frozen 0
          have l4' := Q9.lt
          have q3 : X4.cell? ⟨w.heap.size, 0, none⟩ = some (.int .i64 stop) := Q3.cell 0
          have l3 := Q3.lt
          have hpl0 : (pre.length : Int) < 401 := by omega
          have D5 : ∀ v, Chg X (X4.setCell ⟨w2.heap.size + 1 + 1, 0, none⟩ v) [w.heap.size + 1, w2.heap.size + 1 + 1] := fun v => (Chg.of_ext hx4 _).set (.inl (by simp)) _
          have C5 : ∀ v, Chg W (X4.setCell ⟨w2.heap.size + 1 + 1, 0, none⟩ v) [w.heap.size + 1, w2.heap.size + 1 + 1] := fun v => (hI.chg.extR hx4).set (.inl (by simp)) _
          have R5 : ∀ v, At (X4.setCell ⟨w2.heap.size + 1 + 1, 0, none⟩ v) (w.heap.size + 1) 4 #[.bool false] := fun v => (hI.res.ext hx4).far (by simp; omega) _
          have N5 : ∀ v, At (X4.setCell ⟨w2.heap.size + 1 + 1, 0, none⟩ v) (w2.heap.size + 1 + 1) 3 #[v] := fun v => Q9.set 0 v
          have HD5 := Lib.hid D5
          have HC5 := Lib.hid C5
          have HR5 := Lib.hid R5
          have HN5 := Lib.hid N5
          have HKO := Lib.hid (fun v : Value => (others_ext hx4).trans (KeepsOthers.setCell X4 ⟨w2.heap.size + 1 + 1, 0, none⟩ v))
          have HKP := Lib.hid (fun v : Value => KpF.chg (cb := w2.heap.size + 1 + 1 + 1) (A := A1) (D5 v) ⟨by omega, by simp; omega⟩ (fun k hk => ⟨by have := hA2 k hk; omega, fun h1 => by have := hA2 k hk; simp at h1; omega⟩))
          have HLE : Hid (pre.length + 1 ≤ ol.length) := Lib.hid (Nat.succ_le_of_lt hn)
          have HFL := Lib.hid hfl
          clear D5 C5 R5 N5 Q9 Q3 hfl hle hmax hS hby hm2 hl hA1 hA2 hAe hl2 xin xfew xnn xle2 xle xmax xS xby hI E3 hn hbl hpn hCb hcb RC RX OC OX hbase hyA F3 F4 XW G5 G6 G9 GB hoi hpi hmx hn1 hlen c9 z9 s9 c4 z4 s4' c6 c5 c3 cC cB X2 s1 h41 s4 sw xW hsW xsz hb4 hraw hpq hyx hp hq hni
          generalize hm : (pre.length : Int) = m at *
          have HM := Lib.hid hm
          have hm0 : 0 ≤ m := by omega
          clear hm
          have hw64 : wrap64 (m + 1) = m + 1 := wrap64_in ⟨by omega, by omega⟩
          by_cases hs : m + 1 = stop
          · have hsb : (m + 1 == stop) = true := beq_iff_eq.2 hs
            have HS := Lib.hid hs
            clear hs
            gi_wp2_with fail
            have e1 : ((pre ++ [(px, ({ A := xA, c := xc, xs := xx } : Bs))]).length : Int) = m + 1 := by rw [List.length_append, ← HM.out]; rfl
            exact ⟨HKO.out _, HC5.out _, HR5.out _, .inr ⟨rfl, by rw [e1]; exact HN5.out _, by rw [e1]; exact HS.out, by simpa using HLE.out, by simp⟩⟩
          · have hsb : (m + 1 == stop) = false := beq_eq_false_iff_ne.2 hs
            have HS := Lib.hid hs
            clear hs
            gi_wp2_with fail
            have e1 : ((pre ++ [(px, ({ A := xA, c := xc, xs := xx } : Bs))]).length : Int) = m + 1 := by rw [List.length_append, ← HM.out]; rfl
            exact ⟨HKO.out _, HKP.out _, HC5.out _, HR5.out _, by rw [e1]; exact HN5.out _, by simpa using HLE.out, fun h0 => by have h1 := HFL.out h0; have h2 := HS.out; rw [e1]; omega⟩
        · have hqb : decide (xx = yx) = false := decide_eq_false hq
          rw [hqb]
          have Q4 := hI.res.ext hx4
          have c4' : X4.cell? ⟨w.heap.size + 1, 0, none⟩ = some (.bool false) := Q4.cell 0
          have z4'' := Q4.frozen 0
          have s4'' := Q4.lt
          gi_wp2_with fail
          exact ⟨(others_ext hx4).trans (KeepsOthers.setCell _ _ _), ⟨(hI.chg.extR hx4).set (.inl (by simp)) _, Q4.set 0 _, .inl ⟨rfl, pre, _, rfl, .inr (.inr (by rw [hyx]; exact fun h => hq (Option.some.inj h).symm))⟩⟩⟩
      · have hpb : (px != pv) = true := by simp [hp]
        gi_wp2_with fail
        refine ⟨trivial, ?_⟩
        gi_wp2_with fail
        exact ⟨KeepsOthers.setCell _ _ _, ⟨hI.chg.set (.inl (by simp)) _, hI.res.set 0 _, .inl ⟨rfl, pre, _, rfl, .inr (.inl (by rw [hpq]; exact fun h => hp (Option.some.inj h).symm))⟩⟩⟩
    · have hni : (ol.length : Int) ≤ (pre.length : Int) := by omega
      gi_wp2_with fail
      refine ⟨trivial, ?_⟩
      gi_wp2_with fail
      exact ⟨KeepsOthers.setCell _ _ _, ⟨hI.chg.set (.inl (by simp)) _, hI.res.set 0 _, .inl ⟨rfl, pre, _, rfl, .inl (by omega)⟩⟩⟩
  case hdone =>
    intro D xs X hD hA3 hI hDd
    have hxl : xs.length = ol.length := by
      have h1 := congrArg List.length hA3.2
      rw [← hol, List.length_map, List.length_map] at h1
      exact h1.symm
    have hn0 := hI.num
    rw [hxl] at hn0
    have hfl := hI.far
    rw [hxl] at hfl
    have c9 : X.cell? ⟨w2.heap.size + 1 + 1, 0, none⟩ = some (.int .i64 (ol.length : Nat)) := hn0.cell 0
    have c6 : X.cell? ⟨w2.heap.size + 1, 0, none⟩ = some (.slice B ol.length d) := (hI.chg.at G6 (by simp; omega)).cell 0
    have c3 : X.cell? ⟨w.heap.size, 0, none⟩ = some (.int .i64 stop) := (hI.chg.at F3 (by simp; omega)).cell 0
    have c4 : X.cell? ⟨w.heap.size + 1, 0, none⟩ = some (.bool false) := hI.res.cell 0
    have z4 := hI.res.frozen 0
    have s4' := hI.res.lt
    have xsz := hI.chg.size
    have XX : Ext w X := Chg.extOfJ hI.chg XW (by simp; omega)
    have Q4 := hI.res
    clear hI hn0 hol hA3 OC hbase hraw HW G5 G6 G9 GB RC hCb F3 F4 xW
    by_cases h0 : 0 < stop
    · have h1 := hfl h0
      have h2 : ¬ stop < (ol.length : Int) := by omega
      gi_wp2_with fail
      refine ⟨by simp, .inl ⟨_, _, rfl, run_takeDeferred ((KeepsOthers.setCell X ⟨w.heap.size + 1, 0, none⟩ (.bool true)).same D _ hDd rfl), ?_⟩⟩
      have c7 : ((X.setCell ⟨w.heap.size + 1, 0, none⟩ (.bool true)).putObj D (.deferred none)).cell? ⟨w.heap.size + 1, 0, none⟩ = some (.bool true) := ((Q4.set 0 (.bool true)).putObj (by omega) _).cell 0
      refine ⟨.bool true, ?_, rfl, Ext.putObj (by repeat (first | (with_reducible exact Ext.refl _) | (with_reducible assumption) | (with_reducible refine Ext.alloc ?_ _) | (with_reducible refine Ext.drew ?_) | (with_reducible refine Ext.drewN ?_ _) | (with_reducible refine Ext.setCell ?_ (by simp; try omega) _) | (with_reducible refine Ext.setRow ?_ (by simp; try omega) _))) (by omega) _⟩
      simp [results, Try.results4, go_sem, c7]
    · gi_wp2_with fail
      refine ⟨by simp, .inl ⟨_, _, rfl, run_takeDeferred ((KeepsOthers.setCell X ⟨w.heap.size + 1, 0, none⟩ (.bool true)).same D _ hDd rfl), ?_⟩⟩
      have c7 : ((X.setCell ⟨w.heap.size + 1, 0, none⟩ (.bool true)).putObj D (.deferred none)).cell? ⟨w.heap.size + 1, 0, none⟩ = some (.bool true) := ((Q4.set 0 (.bool true)).putObj (by omega) _).cell 0
      refine ⟨.bool true, ?_, rfl, Ext.putObj (by repeat (first | (with_reducible exact Ext.refl _) | (with_reducible assumption) | (with_reducible refine Ext.alloc ?_ _) | (with_reducible refine Ext.drew ?_) | (with_reducible refine Ext.drewN ?_ _) | (with_reducible refine Ext.setCell ?_ (by simp; try omega) _) | (with_reducible refine Ext.setRow ?_ (by simp; try omega) _))) (by omega) _⟩
      simp [results, Try.results4, go_sem, c7]
  case hstop =>
    intro D cd pre X hD hSp hX hDd
    obtain ⟨hC, hQ, ⟨rfl, q, x, rfl, hbad⟩ | ⟨rfl, hn0, hs, hle5, h05⟩⟩ := hX
    · exfalso
      obtain ⟨⟨r1, h1⟩, ⟨r2, h2⟩⟩ := hSp
      have h3 : ((cut bs).1)[q.length]? = some x.2.xs := by rw [← h2]; simp
      have h4 : (plD 0 bs)[q.length]? = some x.1 := by rw [← h1]; simp
      rcases hbad with h5 | h5 | h5
      · have := congrArg List.length hol
        rw [List.length_map, ← h2] at this
        simp at this
        omega
      · exact h5 h4
      · exact h5 h3
    · have c9 : X.cell? ⟨w2.heap.size + 1 + 1, 0, none⟩ = some (.int .i64 (pre.length : Nat)) := hn0.cell 0
      have c6 : X.cell? ⟨w2.heap.size + 1, 0, none⟩ = some (.slice B ol.length d) := (hC.at G6 (by simp; omega)).cell 0
      have c3 : X.cell? ⟨w.heap.size, 0, none⟩ = some (.int .i64 stop) := (hC.at F3 (by simp; omega)).cell 0
      have c4 : X.cell? ⟨w.heap.size + 1, 0, none⟩ = some (.bool false) := hQ.cell 0
      have z4 := hQ.frozen 0
      have s4' := hQ.lt
      have xsz := hC.size
      have XX : Ext w X := Chg.extOfJ hC XW (by simp; omega)
      rw [hs] at c9
      have h0 : 0 < stop := by omega
      have hso : stop ≤ (ol.length : Int) := by omega
      clear hC hn0 hol hSp OC hbase hraw HW G5 G6 G9 GB RC hCb F3 F4 xW hs hle5 h05
      by_cases h1 : stop < (ol.length : Int)
      · gi_wp2_with fail
        refine ⟨by simp, .inl ⟨_, _, rfl, run_takeDeferred ((KeepsOthers.setCell X ⟨w.heap.size + 1, 0, none⟩ (.bool true)).same D _ hDd rfl), ?_⟩⟩
        have c7 : ((X.setCell ⟨w.heap.size + 1, 0, none⟩ (.bool true)).putObj D (.deferred none)).cell? ⟨w.heap.size + 1, 0, none⟩ = some (.bool true) := ((hQ.set 0 (.bool true)).putObj (by omega) _).cell 0
        refine ⟨.bool true, ?_, rfl, Ext.putObj (by repeat (first | (with_reducible exact Ext.refl _) | (with_reducible assumption) | (with_reducible refine Ext.alloc ?_ _) | (with_reducible refine Ext.drew ?_) | (with_reducible refine Ext.drewN ?_ _) | (with_reducible refine Ext.setCell ?_ (by simp; try omega) _) | (with_reducible refine Ext.setRow ?_ (by simp; try omega) _))) (by omega) _⟩
        simp [results, Try.results4, go_sem, c7]
      · have hsb : (stop == (ol.length : Int)) = true := beq_iff_eq.2 (by omega)
        gi_wp2_with fail
        refine ⟨by simp, .inl ⟨_, _, rfl, run_takeDeferred ((KeepsOthers.setCell X ⟨w.heap.size + 1, 0, none⟩ (.bool true)).same D _ hDd rfl), ?_⟩⟩
        have c7 : ((X.setCell ⟨w.heap.size + 1, 0, none⟩ (.bool true)).putObj D (.deferred none)).cell? ⟨w.heap.size + 1, 0, none⟩ = some (.bool true) := ((hQ.set 0 (.bool true)).putObj (by omega) _).cell 0
        refine ⟨.bool true, ?_, rfl, Ext.putObj (by repeat (first | (with_reducible exact Ext.refl _) | (with_reducible assumption) | (with_reducible refine Ext.alloc ?_ _) | (with_reducible refine Ext.drew ?_) | (with_reducible refine Ext.drewN ?_ _) | (with_reducible refine Ext.setCell ?_ (by simp; try omega) _) | (with_reducible refine Ext.setRow ?_ (by simp; try omega) _))) (by omega) _⟩
        simp [results, Try.results4, go_sem, c7]
end Go.Proofs.Ythhgkmdjplancaa
