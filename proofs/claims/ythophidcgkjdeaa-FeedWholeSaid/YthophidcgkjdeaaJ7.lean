/- Frames (layer 4): Each: what the loop over it is handed. Condition: at most 10^6 bytes. -/
import Derived.Test.YthophidcgkjdeaaJ5
import Derived.Test.YthophidcgkjdeaaRi
namespace Go.Proofs.Ythophidcgkjdeaa
open Go.RowKit Go.Shelf
attribute [local go_sem] Oper.semAt_some Later.cell QUpon_value QUpon_enter MUpon_value run_eql_slice_nil
/-- What the iterator reads between two rounds. -/
structure KpF (cb : Nat) (A : Option Addr) (W W' : World) : Prop where
  size : W.heap.size ≤ W'.heap.size
  box : W'.heap[cb]? = W.heap[cb]?
  row : ∀ k ∈ ablk A, W'.heap[k]? = W.heap[k]?
theorem KpF.refl (cb : Nat) (A : Option Addr) (W : World) : KpF cb A W W := ⟨Nat.le_refl _, rfl, fun _ _ => rfl⟩
theorem KpF.trans {cb : Nat} {A : Option Addr} {X Y Z : World} (h : KpF cb A X Y) (k : KpF cb A Y Z) : KpF cb A X Z := ⟨Nat.le_trans h.size k.size, k.box.trans h.box, fun i hi => (k.row i hi).trans (h.row i hi)⟩
theorem KpF.ext {cb : Nat} {A : Option Addr} {X Y : World} (h : Ext X Y) (hc : cb < X.heap.size) (hA : ∀ k ∈ ablk A, k < X.heap.size) : KpF cb A X Y := ⟨h.size, h.block _ hc, fun k hk => h.block k (hA k hk)⟩
theorem KpF.put {cb : Nat} {A : Option Addr} {w : World} (hc : cb < w.heap.size) (hA : ∀ k ∈ ablk A, k < w.heap.size) (W : World) (l : Nat) (o o' : Obj) (hl : w.heap.size ≤ l) (_ : W.heap[l]? = some o) (_ : o.isCells = false) : KpF cb A W (W.putObj l o') :=
  ⟨by rw [World.putObj_size]; exact Nat.le_refl _, World.putObj_heap_other (by omega), fun k hk => World.putObj_heap_other (by have := hA k hk; omega)⟩
theorem Src.kp {cb : Nat} {A : Option Addr} {n k : Nat} {xs : List Value} {W W' : World} (h : Src W n A k xs) (hk : KpF cb A W W') : Src W' n A k xs := ⟨h.len, fun h0 => by
  obtain ⟨ad, h1, h2⟩ := h.at_ h0
  refine ⟨ad, h1, fun j u hj => ?_⟩
  have h4 : (ad.add j).block = ad.block := by simp [Addr.add]; try (split <;> rfl)
  rw [← h2 j u hj]
  exact World.cell?_of_block (by rw [h4]; exact hk.row _ (by rw [h1]; simp [ablk]))⟩
def encE (x : Int × Bs) : Array Value := #[.int .i64 x.1, .slice x.2.A x.2.xs.length x.2.c]
structure VF (x : Int × Bs) (W : World) : Prop where
  at_ : x.2.At W
  in_ : ∀ k ∈ ablk x.2.A, k < W.heap.size
  few : x.2.xs.length ≤ 64
  nn : 0 ≤ x.1
  le : x.1 ≤ 1000000
/-- What comes. -/
structure Came (bs : List Int) (pre : List (Int × Bs)) (k : Nat) : Prop where
  at_ : plD 0 bs = pre.map Prod.fst ++ plD k (bs.drop k)
  xs : (cut bs).1 = pre.map (fun x => x.2.xs) ++ (cut (bs.drop k)).1
def AllF (bs : List Int) (xs : List (Int × Bs)) : Prop := plD 0 bs = xs.map Prod.fst ∧ (cut bs).1 = xs.map (fun x => x.2.xs)
def PreF (bs : List Int) (xs : List (Int × Bs)) : Prop := xs.map Prod.fst <+: plD 0 bs ∧ xs.map (fun x => x.2.xs) <+: (cut bs).1
set_option maxHeartbeats 2000000 in
set_option maxRecDepth 100000 in
theorem each_hands (cb : Nat) (A A1 : Option Addr) (c : Nat) (bs : List Int) (hb : Byt bs) (hl : bs.length ≤ 1000000) (hc : bs.length ≤ c) (hm : c ≤ maxLen) (n : Nat) (hn : 1 ≤ n) (W0 : World) (hcb : W0.cell? ⟨cb, 0, none⟩ = some (.slice A bs.length c)) (hS : Src W0 1 A bs.length (bc bs)) (hAA : 0 < bs.length → A1 = A) (hA : ∀ k ∈ ablk A1, k < W0.heap.size) :
    Hands Fence.wide n Try.prog 40 #[.pointer (some ⟨cb, 0, none⟩)] encE VF (KpF cb A1) (AllF bs) (PreF bs) (bs.length + 1) W0 := fun l J Jx W hW hJ hJx hY h0 => by
  have hcl : cb < W0.heap.size := cell_lt hcb
  have K0 : KpF cb A1 W0 W := KpF.ext hW hcl hA
  have hs0 := hW.size
  have hm2 := hm
  unfold maxLen at hm2
  refine callsIn_of_wp Try.func40 rfl trivial ?_ rfl
  simp only [Try.ntmps40, List.size_toArray, List.length_cons, List.length_nil, Nat.reduceAdd, Nat.reduceSub, Array.replicate_succ, Array.replicate_zero, List.push_toArray, List.append_toArray, List.nil_append, List.cons_append]
  gi_wp2
  gi_loopw [3] (fun i wr => ∃ (k : Nat) (pre : List (Int × Bs)), i = .int .i64 k ∧ k ≤ bs.length ∧ KpF cb A1 W0 wr ∧ J pre wr ∧ Came bs pre k ∧ pre.length ≤ k) (fun i _ => bs.length - (intOf i).toNat)
  case atStart => exact ⟨0, [], rfl, Nat.zero_le _, K0, h0, ⟨by simp, by simp⟩, by simp⟩
  case round =>
    obtain ⟨k, pre, rfl, hk, hK, hJp, hcm, hfw⟩ := hrel
    have hsz := hK.size
    have c0 : wr.cell? ⟨cb, 0, none⟩ = some (.slice A bs.length c) := (World.cell?_of_block (a := ⟨cb, 0, none⟩) hK.box).trans hcb
    by_cases hlt : k < bs.length
    · obtain rfl := hAA (by omega)
      clear hAA
      obtain ⟨b, off, hA', hbw, _⟩ := hS.lt (by omega) (by decide)
      subst hA'
      have hlt2 : (k : Int) < (bs.length : Int) := by omega
      obtain ⟨rs, hrs⟩ : ∃ rs, rs = bs.drop k := ⟨_, rfl⟩
      have hrl : rs.length = bs.length - k := by rw [hrs, List.length_drop]
      have hrb : Byt rs := by rw [hrs]; exact fun x hx => hb x (List.mem_of_mem_drop hx)
      have hSr : Src wr 1 (some ⟨b, off + k, none⟩) rs.length (bc rs) := by
        have := (hS.kp hK).cut (i := k) (k := bs.length - k) (by omega)
        rw [List.take_of_length_le (by rw [List.length_drop]; omega), ← hrs] at this
        rw [hrl]; exact this
      have C1 := ftake_c (some ⟨b, off + k, none⟩) (c - k) rs hrb (by omega) wr hSr
      rw [hrl] at C1
      obtain ⟨hat, hxs⟩ := hcm
      rw [← hrs] at hat hxs
      have hbyt := takeL_byt hrb
      have h64 := takeL_len rs
      rcases takeF_is rs with hf | hf
      · obtain ⟨k2, kl, kn⟩ := takeN_pos hf
        have hcy := cut_yes hf
        have hpy := plD_yes k hf
        rw [hcy] at hxs
        rw [hpy] at hat
        rw [hf, kn] at C1
        generalize (takeN rs).toNat = m at *
        generalize takeL rs = tl at *
        have hdd : rs.drop m = bs.drop (k + m) := by rw [hrs, List.drop_drop]
        rw [hdd] at hat hxs
        have HAT := Lib.hid hat
        have HXS := Lib.hid hxs
        have HC1 := Lib.hid C1
        clear hcy hpy hat hxs C1 hdd hrs hSr
        gi_wp2_with fail
        all_goals first | (exfalso; omega) | skip
        refine ⟨trivial, ?_⟩
        gi_at_call 31
        refine (callsIn_wide.2 HC1.out).mono ?_
        rintro e w3 ⟨hx3, v, rfl, A3, c3, rfl, R3, F3⟩
        have J3 := hJ pre wr w3 none hJp (hx3.row none) (fun r e => by cases e)
        have s3 := hx3.size
        obtain ⟨f1, t1, a1, b1, hy1, hR1⟩ := hY pre ((k : Int), ⟨A3, c3, tl⟩) w3 J3 ⟨⟨R3.le, R3.max, R3.src, hbyt⟩, fun j hj => (F3 j hj).2, h64, by simp only; omega, by simp only; omega⟩ (by omega)
        dsimp only [encE] at hy1
        gi_wp2
        refine hR1.mono ?_
        have K3 : KpF cb (some ⟨b, off, none⟩) W0 w3 := hK.trans (KpF.ext hx3 (by omega) (fun j hj => by have := hA j hj; omega))
        rintro e w4 (⟨rfl, J4, K4⟩ | ⟨rfl, Jx4⟩)
        · gi_wp2
          go_roundw
          case rel => exact ⟨k + m, pre ++ [((k : Int), ⟨A3, c3, tl⟩)], by go_num, by omega, K3.trans K4, J4, ⟨by rw [HAT.out]; simp, by rw [HXS.out]; simp⟩, by simp; omega⟩
          case measure => simp [intOf]; omega
        · gi_wp2
          refine bodyPost_ret (results_none rfl _ _ _) rfl ?_
          exact ⟨⟨_, rfl⟩, .inr ⟨_, ⟨⟨plD (k + m) (bs.drop (k + m)), by rw [HAT.out]; simp⟩, ⟨(cut (bs.drop (k + m))).1, by rw [HXS.out]; simp⟩⟩, Jx4⟩⟩
      · have hf0 : takeF rs ≠ 0 := by omega
        have hfb : (takeF rs != 0) = true := bne_iff_ne.2 hf0
        rw [cut_no hf0] at hxs
        rw [plD_no k hf0] at hat
        generalize takeF rs = tf at *
        have HAT := Lib.hid hat
        have HXS := Lib.hid hxs
        have HC1 := Lib.hid C1
        clear hat hxs C1 hrs hSr hf hf0
        gi_wp2_with fail
        all_goals first | (exfalso; omega) | skip
        refine ⟨trivial, ?_⟩
        gi_at_call 31
        refine (callsIn_wide.2 HC1.out).mono ?_
        rintro e w3 ⟨hx3, v, rfl, A3, c3, rfl, R3, F3⟩
        have J3 := hJ pre wr w3 none hJp (hx3.row none) (fun r e => by cases e)
        gi_wp2
        refine ⟨fun _ h => (by cases h), ?_⟩
        gi_wp2
        refine bodyPost_ret (results_none rfl _ _ _) rfl ?_
        exact ⟨⟨_, rfl⟩, .inl ⟨pre, ⟨by rw [HAT.out]; simp, by rw [HXS.out]; simp⟩, J3⟩⟩
    · obtain rfl : k = bs.length := by omega
      gi_wp2
      go_end0
      obtain ⟨hat, hxs⟩ := hcm
      rw [List.drop_length, plD_no _ (by decide : takeF [] ≠ 0), List.append_nil] at hat
      rw [List.drop_length, cut_nil, List.append_nil] at hxs
      exact ⟨⟨_, rfl⟩, .inl ⟨pre, ⟨hat, hxs⟩, hJp⟩⟩
theorem each_c (A : Option Addr) (n c : Nat) (w : World) : Calls Try.prog 29 #[.slice A n c] w fun e w' => e = .returned (.func (.func 40) #[] #[.pointer (some ⟨w.heap.size, 0, none⟩)]) ∧ w' = w.alloc (.cells #[.slice A n c] 39) := by
  go_enter Try.func29, Try.ntmps29
  go_wp2_with fail
  first | refine fin_ret rfl (fun K hK => ?_) | refine fin_norm rfl (fun K hK => ?_)
  simp [results, Try.results29, go_sem, rsat]
  try go_simp
  refine hK _ ?_
  clear hK K
  exact ⟨rfl, rfl⟩
theorem vf_own (B : Nat) (x : Int × Bs) : OwnFrom B (fun (_ : Unit) W => VF x W) := fun _ X Y row h hg hr =>
  ⟨⟨h.at_.le, h.at_.max, h.at_.src.turn hg (fun r e => (hr r e).2), h.at_.byt⟩, fun k hk => Nat.lt_of_lt_of_le (h.in_ k hk) hg.size, h.few, h.nn, h.le⟩
theorem KpF.chg {cb : Nat} {A : Option Addr} {X Y : World} {m : List Nat} (h : Chg X Y m) (hc : cb < X.heap.size ∧ cb ∉ m) (hA : ∀ k ∈ ablk A, k < X.heap.size ∧ k ∉ m) : KpF cb A X Y := ⟨h.size, h.block _ hc.1 hc.2, fun k hk => h.block k (hA k hk).1 (hA k hk).2⟩
theorem pln_len : ∀ (n i : Nat) (bs : List Int), (plN n i bs).length = (cutN n bs).1.length
  | 0, _, _ => rfl
  | n + 1, i, bs => by
    show (if takeF bs = 0 then _ else _ : List Int).length = (if takeF bs = 0 then _ else _ : List (List Int) × List Int × Int).1.length
    by_cases hf : takeF bs = 0
    · rw [if_pos hf, if_pos hf, List.length_cons, List.length_cons, pln_len n]
    · rw [if_neg hf, if_neg hf]
      rfl
theorem pl_len (i : Nat) (bs : List Int) : (plD i bs).length = (cut bs).1.length := pln_len _ _ _
end Go.Proofs.Ythophidcgkjdeaa
