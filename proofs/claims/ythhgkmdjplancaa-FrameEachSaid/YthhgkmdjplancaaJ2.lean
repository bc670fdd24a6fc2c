/- Frames (layer 4): a joiner's Add. Condition: at most 10^6 bytes. -/
import Derived.Test.YthhgkmdjplancaaJ1
import Derived.WalkMore
namespace Go.Proofs.Ythhgkmdjplancaa
open Go.RowKit
attribute [local go_sem] Later.cell QUpon_value QUpon_enter MUpon_value run_eql_slice_nil
/-- A joiner: its block, the bytes that it holds, its fault. -/
structure Jn (w : World) (g : Nat) (A : Option Addr) (bs : List Int) (f : Int) : Prop where
  by_ : Byt bs
  alt : ∀ k ∈ ablk A, k < w.heap.size ∧ k ≠ g
  ex : ∃ c, At w g 39 #[.slice A bs.length c, .int .i64 f] ∧ Row w 5 1 A bs.length c (bc bs)
theorem Jn.ext {w w' : World} {g : Nat} {A : Option Addr} {bs : List Int} {f : Int} (h : Jn w g A bs f) (hx : Ext w w') : Jn w' g A bs f :=
  ⟨h.by_, fun k hk => ⟨Nat.lt_of_lt_of_le (h.alt k hk).1 hx.size, (h.alt k hk).2⟩, let ⟨c, hA, hR⟩ := h.ex; ⟨c, hA.ext hx, hR.ext hx⟩⟩
theorem Jn.chg {w w' : World} {g : Nat} {A : Option Addr} {bs : List Int} {f : Int} {m : List Nat} (h : Jn w g A bs f) (hx : Chg w w' m) (hg : g ∉ m) (hA : ∀ k ∈ ablk A, k ∉ m) : Jn w' g A bs f :=
  ⟨h.by_, fun k hk => ⟨Nat.lt_of_lt_of_le (h.alt k hk).1 hx.size, (h.alt k hk).2⟩, let ⟨c, hA1, hR⟩ := h.ex; ⟨c, hx.at hA1 hg, hR.chg hx hA⟩⟩
theorem Jn.lt {w : World} {g : Nat} {A : Option Addr} {bs : List Int} {f : Int} (h : Jn w g A bs f) : g < w.heap.size := h.ex.choose_spec.1.lt
/-- What Add tells: the payloads, what it holds, its fault. -/
def joinD (bs : List Int) (f : Int) (x : List Int) : List (List Int) × List Int × Int := if f ≠ 0 then ([], bs, f) else ((cut (bs ++ x)).1, if (cut (bs ++ x)).2.2 = 4 then [] else (cut (bs ++ x)).2.1, if (cut (bs ++ x)).2.2 = 4 then 4 else 0)
def lenJ (w : World) (g : Nat) : Nat := match w.cell? ⟨g, 0, none⟩ with | some (.slice _ n _) => n | _ => 0
theorem lenJ_at {w : World} {g : Nat} {t : TypeId} {A : Option Addr} {n c : Nat} {v : Value} (h : At w g t #[.slice A n c, v]) : lenJ w g = n := by
  have := h.cell 0
  unfold lenJ
  rw [this]
  rfl
/-- Behind a call of Add. -/
structure AddIs (w : World) (g : Nat) (A : Option Addr) (R : List (List Int) × List Int × Int) (e : Ending) (w' : World) : Prop where
  ex : ∃ (B : Option Addr) (d : Nat) (l : List Bs) (A' : Option Addr), e = .returned (.slice B l.length d) ∧ OwnB w w' B d l ∧ (∀ p ∈ l, ∀ k ∈ ablk p.A, w.heap.size ≤ k) ∧ l.map Bs.xs = R.1 ∧ Jn w' g A' R.2.1 R.2.2 ∧ (∀ k ∈ ablk A', k ∈ ablk A ∨ w.heap.size ≤ k) ∧ (∀ k ∈ ablk A', k ∉ ablk B) ∧ (∀ p ∈ l, ∀ k ∈ ablk p.A, k ∉ ablk A')
  chg : Chg w w' (g :: ablk A)
theorem add_nil (v : Value) (w : World) : Calls Try.prog 15 #[.pointer none, v] w fun e w' => e = .returned (.slice none 0 0) ∧ Ext w w' := by
  go_enter Try.func15, Try.ntmps15
  go_wp2_with fail
  go_step3
  go_wp2_with fail
  try rw [Exit.noGoto_ret]
  first | refine fin_ret rfl (fun K hK => ?_) | refine fin_norm rfl (fun K hK => ?_)
  simp [results, Try.results15, go_sem, rsat]
  try go_simp
  refine hK _ ?_
  clear hK K
  exact ⟨rfl, (by repeat (first | (with_reducible exact Ext.refl _) | (with_reducible assumption) | (with_reducible refine Ext.alloc ?_ _) | (with_reducible refine Ext.drew ?_) | (with_reducible refine Ext.drewN ?_ _) | (with_reducible refine Ext.setCell ?_ (by simp; try omega) _) | (with_reducible refine Ext.setRow ?_ (by simp; try omega) _)))⟩
theorem add_bad (g : Nat) (A : Option Addr) (bs : List Int) (f : Int) (hf : f ≠ 0) (v : Value) (w : World) (h : Jn w g A bs f) : Calls Try.prog 15 #[.pointer (some ⟨g, 0, none⟩), v] w fun e w' => e = .returned (.slice none 0 0) ∧ Ext w w' := by
  obtain ⟨c, hA, _⟩ := h.ex
  have c1 : w.cell? ⟨g, 1, none⟩ = some (.int .i64 f) := hA.cell 1
  have e1 : (f != 0) = true := bne_iff_ne.2 hf
  clear hA h
  go_enter Try.func15, Try.ntmps15
  go_wp2_with fail
  go_step3
  go_wp2_with fail
  try rw [Exit.noGoto_ret]
  first | refine fin_ret rfl (fun K hK => ?_) | refine fin_norm rfl (fun K hK => ?_)
  simp [results, Try.results15, go_sem, rsat]
  try go_simp
  refine hK _ ?_
  clear hK K
  exact ⟨rfl, (by repeat (first | (with_reducible exact Ext.refl _) | (with_reducible assumption) | (with_reducible refine Ext.alloc ?_ _) | (with_reducible refine Ext.drew ?_) | (with_reducible refine Ext.drewN ?_ _) | (with_reducible refine Ext.setCell ?_ (by simp; try omega) _) | (with_reducible refine Ext.setRow ?_ (by simp; try omega) _)))⟩
/-- Amid Add. -/
structure AddAt (w wr : World) (g : Nat) (A : Option Addr) (all : List Int) (B : Option Addr) (d : Nat) (l : List Bs) (A' : Option Addr) (rs : List Int) : Prop where
  out : OwnB w wr B d l
  raw : ∀ p ∈ l, ∀ k ∈ ablk p.A, w.heap.size ≤ k
  jn : Jn wr g A' rs 0
  new : ∀ k ∈ ablk A', k ∈ ablk A ∨ w.heap.size ≤ k
  chg : Chg w wr (g :: ablk A)
  cutD : cut all = (l.map Bs.xs ++ (cut rs).1, (cut rs).2)
  len : rs.length ≤ all.length
  few : l.length + rs.length ≤ all.length
  gl : g < w.heap.size
  al : ∀ k ∈ ablk A, k < w.heap.size
  far : ∀ k ∈ ablk A', k ∉ ablk B
  rfar : ∀ p ∈ l, ∀ k ∈ ablk p.A, k ∉ ablk A'
theorem AddAt.outNot {w wr : World} {g : Nat} {A : Option Addr} {all : List Int} {B : Option Addr} {d : Nat} {l : List Bs} {A' : Option Addr} {rs : List Int} (h : AddAt w wr g A all B d l A' rs) : g ∉ ablk B := fun h1 => by have := (h.out.new g h1).1; have := h.gl; omega
set_option maxHeartbeats 8000000 in
set_option maxRecDepth 100000 in
theorem add_c (g : Nat) (A : Option Addr) (bs : List Int) (x : Bs) (hl : bs.length + x.xs.length ≤ 1000000) (w : World) (h : Jn w g A bs 0) (hx : x.At w) :
    Calls Try.prog 15 #[.pointer (some ⟨g, 0, none⟩), x.v] w fun e w' => AddIs w g A (joinD bs 0 x.xs) e w' := by
  obtain ⟨hb, halt, c, hA, hR⟩ := h
  obtain ⟨XA, xc, xs⟩ := x
  have hxs := hx.src
  have hxb := hx.byt
  unfold Bs.v
  simp only at hl hxs hxb ⊢
  have c1 : w.cell? ⟨g, 1, none⟩ = some (.int .i64 0) := hA.cell 1
  have c0 : w.cell? ⟨g, 0, none⟩ = some (.slice A bs.length c) := hA.cell 0
  have f0 := hA.frozen 0
  have sg := hA.lt
  have hgA : g ∉ ablk A := fun h => (halt g h).2 rfl
  have hal : ∀ k ∈ ablk A, k < w.heap.size := fun k hk => (halt k hk).1
  obtain ⟨R, hRR⟩ : ∃ R, R = joinD bs 0 xs := ⟨_, rfl⟩
  rw [← hRR]
  go_enter Try.func15, Try.ntmps15
  go_wp2_with fail
  go_step3
  go_wp2_with (at_builtin; refine wpList_rowcat rfl _ _ 22 5 1 1 (.int .u8 0) rfl Try.underlying22 u8Info rfl (by decide) _ _ _ _ _ rfl hR _ _ _ _ rfl hxs (bc_one _) (by unfold maxLen; omega) (by omega) ?_)
  intro A1 c1' w1 hR1 hC1 hf1
  have hA1 := hC1.at hA hgA
  have c0' : w1.cell? ⟨g, 0, none⟩ = some (.slice A bs.length c) := hA1.cell 0
  have f0' := hA1.frozen 0
  have sg1 := hA1.lt
  have hg1 : g ∉ ablk A1 := fun h => by rcases hf1 g h with h1 | h1; exact hgA h1; omega
  have hal1 : ∀ k ∈ ablk A1, k < w1.heap.size := fun k hk => by rcases hf1 k hk with h1 | h1; have := hal k h1; have := hC1.size; omega; exact h1.2
  go_wp2_with fail
  obtain ⟨all, hall⟩ : ∃ all, all = bs ++ xs := ⟨_, rfl⟩
  have hll : all.length = bs.length + xs.length := by rw [hall, List.length_append]
  have hall0 : Byt all := by rw [hall]; exact hb.app hxb
  obtain ⟨w2, hw2⟩ : ∃ W, W = w1.setCell ⟨g, 0, none⟩ (.slice A1 (bs.length + xs.length) c1') := ⟨_, rfl⟩
  have C02 : Chg w w2 (g :: ablk A) := by rw [hw2]; exact (hC1.mono (fun k _ hk => by simp [hk])).set (.inl (by simp)) _
  have J0 : Jn w2 g A1 all 0 := by
    rw [hw2]
    refine ⟨hall0, fun k hk => ⟨by simpa using hal1 k hk, fun e => hg1 (e ▸ hk)⟩, c1', ?_, ?_⟩
    · rw [hll]; exact hA1.set 0 _
    · rw [hll, hall, bc_app]; exact hR1.set hg1 _
  have H0 : AddAt w w2 g A all none 0 [] A1 all := ⟨OwnB.nil _ _, by simp, J0, fun k hk => (hf1 k hk).imp id And.left, C02, by simp, Nat.le_refl _, by simp, sg, hal, by simp [ablk], by simp⟩
  rw [← hw2]
  have hJD : joinD bs 0 xs = ((cut all).1, if (cut all).2.2 = 4 then [] else (cut all).2.1, if (cut all).2.2 = 4 then 4 else 0) := by
    unfold joinD
    rw [if_neg (by simp), ← hall]
  rw [hJD] at hRR
  clear hJD hw2 hall hA hA1 hR1 hC1 c0 c1 c0' f0 f0' J0 C02 hx hxs hxb hb hal hgA halt hf1 hal1 hg1 sg1 sg
  have HR := Lib.hid hRR
  have hl2 : all.length ≤ 1000000 := by omega
  clear hRR hl hll hall0
  go_step3
  go_wp2_with fail
  go_loopw [4] (fun o wr => ∃ (B : Option Addr) (d : Nat) (l : List Bs) (A' : Option Addr) (rs : List Int), o = .slice B l.length d ∧ AddAt w wr g A all B d l A' rs) (fun _ wr => lenJ wr g)
  case atStart => exact ⟨none, 0, [], A1, all, rfl, H0⟩
  case round =>
    clear H0
    obtain ⟨B, d, l, A2, rs, rfl, H⟩ := hrel
    obtain ⟨hrb, halt2, c2, hA2, hR2⟩ := H.jn
    have hle := hR2.le
    have hmx := hR2.max
    unfold maxLen at hmx
    have c0 : wr.cell? ⟨g, 0, none⟩ = some (.slice A2 rs.length c2) := hA2.cell 0
    have f0 := hA2.frozen 0
    have sg := hA2.lt
    have hrl := H.len
    have hfw := H.few
    have hgB := H.outNot
    have C := ftake_c A2 c2 rs hrb (by omega) wr hR2.src
    have hmeas := lenJ_at hA2
    rcases takeF_is rs with hf | hf | hf
    · obtain ⟨k2, kl, kn⟩ := takeN_pos hf
      rw [hf, kn] at C
      have hcy := cut_yes hf
      have hcd := H.cutD
      rw [hcy] at hcd
      have HCD := Lib.hid hcd
      have htb := takeL_byt hrb
      generalize (takeN rs).toNat = n at *
      generalize takeL rs = pl at *
      clear hcy hcd
      go_wp2_with fail
      refine C.mono ?_
      rintro e w3 ⟨hx3, v, rfl, A3, c3, rfl, R3, F3⟩
      have O3 := (H.out.ext hx3).ext ((Ext.refl w3).alloc (.cells #[.slice A3 pl.length c3] 22))
      have x3 : Ext wr (w3.alloc (.cells #[.slice A3 pl.length c3] 22)) := hx3.alloc _
      have J3 := H.jn.ext x3
      have s3 := hx3.size
      have F3' : ∀ k ∈ ablk A3, k < (w3.alloc (.cells #[.slice A3 pl.length c3] 22)).heap.size ∧ k ∉ ablk B := fun k hk => by
        have h1 := F3 k hk
        refine ⟨by simp; omega, fun h2 => ?_⟩
        have := (H.out.new k h2).2
        omega
      have hRB := O3.row
      go_wp2_with (at_builtin; refine wpList_rowcat rfl _ _ 31 22 1 24 (.slice none 0 0) rfl Try.underlying31 blInfo rfl (by decide) _ B l.length d (l.map Bs.v) rfl hRB _ 1 1 [.slice A3 pl.length c3] rfl (Src.at (At.new _ _ _) rfl) rfl (by unfold maxLen; omega) (by omega) ?_)
      intro B' d' w4 hRB' hCB hfB
      have O4 : OwnB w w4 B' d' (l ++ [⟨A3, c3, pl⟩]) := O3.app (ms := [⟨A3, c3, pl⟩]) (by intro p hp; rw [List.mem_singleton.1 hp]; exact ⟨R3.le, R3.max, R3.src.ext ((Ext.refl w3).alloc _), htb⟩) (by intro p hp; rw [List.mem_singleton.1 hp]; exact F3') hCB hRB' rfl rfl rfl (by rw [World.size_alloc]; exact hfB) (by have := H.chg.size; simp; omega)
      have J4 := J3.chg hCB hgB H.far
      have C4 : Chg w w4 (g :: ablk A) := (H.chg.extR x3).step hCB (fun i hi => .inr (H.out.new i hi).1)
      obtain ⟨_, halt4, c4, hA4, hR4⟩ := J4
      have c0' : w4.cell? ⟨g, 0, none⟩ = some (.slice A2 rs.length c4) := hA4.cell 0
      have f0' := hA4.frozen 0
      have sg4 := hA4.lt
      have hle4 := hR4.le
      have hmx4 := hR4.max
      unfold maxLen at hmx4
      have hd4 := hR4.dropN kl
      rw [Nat.mul_one] at hd4
      have hcut4 := ablk_cut A2 c4 n 1
      have hgA2 : g ∉ ablk A2 := fun h => (halt4 g h).2 rfl
      clear c0 f0 sg hA2 hR2 hRB hRB' C hx3 O3 J3
      have fin : ∀ (w5 : World) (A5 : Option Addr) (c5 : Nat), w5 = w4.setCell ⟨g, 0, none⟩ (.slice A5 (rs.length - n) c5) → ablk A5 = ablk A2 → Row w4 5 1 A5 (rs.length - n) c5 ((bc rs).drop n) → AddAt w w5 g A all B' d' (l ++ [⟨A3, c3, pl⟩]) A5 (rs.drop n) ∧ lenJ w5 g = rs.length - n := by
        intro w5 A5 c5 hw5 hb5 hr5
        have hAt : At w5 g 39 #[.slice A5 (rs.length - n) c5, .int .i64 0] := by rw [hw5]; exact hA4.set 0 _
        have hg5 : g ∉ ablk A5 := by rw [hb5]; exact hgA2
        have hdl : (rs.drop n).length = rs.length - n := List.length_drop
        have cg : Chg w4 w5 [g] := by rw [hw5]; exact (Chg.refl _ _).set (.inl (by simp)) _
        have hraw : ∀ p ∈ l ++ [⟨A3, c3, pl⟩], ∀ k ∈ ablk p.A, w.heap.size ≤ k := by
          intro p hp k hk
          rcases List.mem_append.1 hp with h1 | h1
          · exact H.raw p h1 k hk
          · rw [List.mem_singleton.1 h1] at hk
            have := (F3 k hk).1
            have := H.chg.size
            omega
        refine ⟨⟨O4.chg cg (fun k hk h1 => ?_) (fun p hp k hk h1 => ?_), hraw, ⟨fun x hx => hrb x (List.mem_of_mem_drop hx), fun k hk => ⟨?_, fun e => hg5 (e ▸ hk)⟩, c5, ?_, ?_⟩, fun k hk => H.new k (hb5 ▸ hk), ?_, ?_, ?_, ?_, H.gl, H.al, fun k hk h1 => ?_, fun p hp k hk h1 => ?_⟩, lenJ_at hAt⟩
        · simp at hk; subst hk; have := (O4.new _ h1).1; have := H.gl; omega
        · simp at h1; subst h1; have := hraw p hp _ hk; have := H.gl; omega
        · have := (halt4 k (hb5 ▸ hk)).1; have := cg.size; omega
        · rw [hdl]; exact hAt
        · rw [hdl, hw5, show bc (rs.drop n) = (bc rs).drop n from List.map_drop]; exact hr5.set hg5 _
        · rw [hw5]; exact C4.set (.inl (by simp)) _
        · rw [HCD.out]; simp
        · rw [hdl]; omega
        · rw [hdl, List.length_append]; simp; omega
        · rw [hb5] at hk
          rcases hfB k h1 with h2 | h2
          · exact H.far k hk h2
          · have := (halt2 k hk).1; omega
        · rw [hb5] at h1
          rcases List.mem_append.1 hp with h2 | h2
          · exact H.rfar p h2 k hk h1
          · rw [List.mem_singleton.1 h2] at hk
            have := (F3 k hk).1
            have := (halt2 k h1).1
            omega
      have FINL := Lib.hid fin
      clear fin
      have key : rs.length - n < rs.length := by omega
      by_cases hcn : c4 - n = 0
      · have ec : cutA A2 c4 n 1 = A2 := if_pos hcn
        rw [ec, hcn] at hd4
        clear ec
        go_wp2_with fail
        all_goals first | (exfalso; omega) | skip
        obtain ⟨F5, M5⟩ := FINL.out _ A2 0 rfl rfl hd4
        go_roundw
        case rel => exact ⟨B', d', l ++ [⟨A3, c3, pl⟩], A2, rs.drop n, by simp, F5⟩
        case measure => rw [hmeas, M5]; exact key
      · have ec : cutA A2 c4 n 1 = A2.map (fun x => x.add n) := by unfold cutA; rw [if_neg hcn, Nat.mul_one]
        rw [ec] at hd4 hcut4
        clear ec
        go_wp2_with fail
        all_goals first | (exfalso; omega) | skip
        obtain ⟨F5, M5⟩ := FINL.out _ (A2.map (fun x => x.add n)) (c4 - n) rfl hcut4 hd4
        go_roundw
        case rel => exact ⟨B', d', l ++ [⟨A3, c3, pl⟩], A2.map (fun x => x.add n), rs.drop n, by simp, F5⟩
        case measure => rw [hmeas, M5]; exact key
    · rw [hf] at C
      have hcd := H.cutD
      rw [cut_no (bs := rs) (by rw [hf]; decide), hf] at hcd
      have HCD := Lib.hid hcd
      clear hcd
      go_wp2_with fail
      refine C.mono ?_
      rintro e w3 ⟨hx3, v, rfl, A3, c3, rfl, _⟩
      have hA3 := hA2.ext hx3
      have s3 := hA3.lt
      have c03 : w3.cell? ⟨g, 0, none⟩ = some (.slice A2 rs.length c2) := hA3.cell 0
      have z0 := hA3.frozen 0
      go_wp2_with fail
      refine (clone_c A2 rs.length c2 rs w3 (hR2.src.ext hx3) (by omega)).mono ?_
      rintro e w4 ⟨hx4, v, rfl, A4, c4, rfl, R4, F4⟩
      have hA4 := hA3.ext hx4
      have s4 := hA4.lt
      have z4 := hA4.frozen 0
      have c04 : w4.cell? ⟨g, 0, none⟩ = some (.slice A2 rs.length c2) := hA4.cell 0
      go_wp2_with fail
      try rw [Exit.noGoto_normal]
      first | refine fin_ret rfl (fun K hK => ?_) | refine fin_norm rfl (fun K hK => ?_)
      simp [results, Try.results15, go_sem, rsat]
      try go_simp
      refine hK _ ?_
      clear hK K
      have s34 := hx3.size
      have hg4 : g ∉ ablk A4 := fun h => by have := (F4 g h).1; omega
      have C5 : Chg wr (w4.setCell ⟨g, 0, none⟩ (.slice A4 rs.length c4)) [g] := (Chg.of_ext (hx3.trans hx4) _).set (.inl (by simp)) _
      refine ⟨⟨B, d, l, A4, rfl, H.out.chg C5 (fun k hk h1 => ?_) (fun p hp k hk h1 => ?_), H.raw, ?_, ⟨?_, fun k hk => ⟨by have := (F4 k hk).2; simpa using this, fun e => hg4 (e ▸ hk)⟩, c4, ?_, ?_⟩, fun k hk => ?_, fun k hk h1 => ?_, fun p hp k hk h1 => ?_⟩, H.chg.step C5 (fun i hi => .inl (by simp at hi; simp [hi]))⟩
      · simp at hk; subst hk; exact hgB h1
      · simp at h1; subst h1; have := H.raw p hp _ hk; have := H.gl; omega
      · rw [HR.out, HCD.out]; simp
      · rw [HR.out, HCD.out]; simpa using hrb
      · rw [HR.out, HCD.out]; simpa using hA4.set 0 _
      · rw [HR.out, HCD.out]; simpa using R4.set hg4 _
      · have := (F4 k hk).1; have := H.chg.size; omega
      · have := (F4 k hk).1; have := (H.out.new k h1).2; omega
      · have := (F4 k h1).1; have := (H.out.raw p hp k hk).1; omega
    · rw [hf] at C
      have hcd := H.cutD
      rw [cut_no (bs := rs) (by rw [hf]; decide), hf] at hcd
      have HCD := Lib.hid hcd
      clear hcd
      go_wp2_with fail
      refine C.mono ?_
      rintro e w3 ⟨hx3, v, rfl, A3, c3, rfl, R3, F3⟩
      have hA3 := hA2.ext hx3
      have s3 := hA3.lt
      have z0 := hA3.frozen 0
      have z1 := hA3.frozen 1
      have c03 : w3.cell? ⟨g, 0, none⟩ = some (.slice A2 rs.length c2) := hA3.cell 0
      have c13 : w3.cell? ⟨g, 1, none⟩ = some (.int .i64 0) := hA3.cell 1
      go_wp2_with fail
      try rw [Exit.noGoto_normal]
      first | refine fin_ret rfl (fun K hK => ?_) | refine fin_norm rfl (fun K hK => ?_)
      simp [results, Try.results15, go_sem, rsat]
      try go_simp
      refine hK _ ?_
      clear hK K
      have C5 : Chg wr ((w3.setCell ⟨g, 0, none⟩ (.slice none 0 0)).setCell ⟨g, 1, none⟩ (.int .i64 4)) [g] := ((Chg.of_ext hx3 _).set (.inl (by simp)) _).set (.inl (by simp)) _
      refine ⟨⟨B, d, l, none, rfl, H.out.chg C5 (fun k hk h1 => ?_) (fun p hp k hk h1 => ?_), H.raw, ?_, ⟨?_, fun k hk => by simp [ablk] at hk, 0, ?_, ?_⟩, fun k hk => by simp [ablk] at hk, fun k hk => by simp [ablk] at hk, fun p hp k hk => by simp [ablk]⟩, H.chg.step C5 (fun i hi => .inl (by simp at hi; simp [hi]))⟩
      · simp at hk; subst hk; exact hgB h1
      · simp at h1; subst h1; have := H.raw p hp _ hk; have := H.gl; omega
      · rw [HR.out, HCD.out]; simp
      · rw [HR.out, HCD.out]; intro x hx; simp at hx
      · rw [HR.out, HCD.out]; simpa using (hA3.set 0 (.slice none 0 0)).set 1 (.int .i64 4)
      · rw [HR.out, HCD.out]; simpa [bc] using Row.nil _ _ _ _
theorem jfault_c (g : Nat) (A : Option Addr) (bs : List Int) (f : Int) (w : World) (h : Jn w g A bs f) : Calls Try.prog 17 #[.pointer (some ⟨g, 0, none⟩)] w fun e w' => e = .returned (.int .i64 f) ∧ Ext w w' := by
  obtain ⟨_, _, c, hA, _⟩ := h
  have c0 : w.cell? ⟨g, 1, none⟩ = some (.int .i64 f) := hA.cell 1
  clear hA
  go_enter Try.func17, Try.ntmps17
  go_wp2_with fail
  first | refine fin_ret rfl (fun K hK => ?_) | refine fin_norm rfl (fun K hK => ?_)
  simp [results, Try.results17, go_sem, rsat]
  try go_simp
  refine hK _ ?_
  clear hK K
  exact ⟨rfl, (by repeat (first | (with_reducible exact Ext.refl _) | (with_reducible assumption) | (with_reducible refine Ext.alloc ?_ _) | (with_reducible refine Ext.drew ?_) | (with_reducible refine Ext.drewN ?_ _) | (with_reducible refine Ext.setCell ?_ (by simp; try omega) _) | (with_reducible refine Ext.setRow ?_ (by simp; try omega) _)))⟩
theorem jfault_nil (w : World) : Calls Try.prog 17 #[.pointer none] w fun e w' => e = .returned (.int .i64 3) ∧ Ext w w' := by
  go_enter Try.func17, Try.ntmps17
  go_wp2_with fail
  first | refine fin_ret rfl (fun K hK => ?_) | refine fin_norm rfl (fun K hK => ?_)
  simp [results, Try.results17, go_sem, rsat]
  try go_simp
  refine hK _ ?_
  clear hK K
  exact ⟨rfl, (by repeat (first | (with_reducible exact Ext.refl _) | (with_reducible assumption) | (with_reducible refine Ext.alloc ?_ _) | (with_reducible refine Ext.drew ?_) | (with_reducible refine Ext.drewN ?_ _) | (with_reducible refine Ext.setCell ?_ (by simp; try omega) _) | (with_reducible refine Ext.setRow ?_ (by simp; try omega) _)))⟩
theorem jwaits_c (g : Nat) (A : Option Addr) (bs : List Int) (f : Int) (w : World) (h : Jn w g A bs f) : Calls Try.prog 18 #[.pointer (some ⟨g, 0, none⟩)] w fun e w' => e = .returned (.int .i64 (bs.length : Nat)) ∧ Ext w w' := by
  obtain ⟨_, _, c, hA, _⟩ := h
  have c0 : w.cell? ⟨g, 0, none⟩ = some (.slice A bs.length c) := hA.cell 0
  clear hA
  go_enter Try.func18, Try.ntmps18
  go_wp2_with fail
  first | refine fin_ret rfl (fun K hK => ?_) | refine fin_norm rfl (fun K hK => ?_)
  simp [results, Try.results18, go_sem, rsat]
  try go_simp
  refine hK _ ?_
  clear hK K
  exact ⟨rfl, (by repeat (first | (with_reducible exact Ext.refl _) | (with_reducible assumption) | (with_reducible refine Ext.alloc ?_ _) | (with_reducible refine Ext.drew ?_) | (with_reducible refine Ext.drewN ?_ _) | (with_reducible refine Ext.setCell ?_ (by simp; try omega) _) | (with_reducible refine Ext.setRow ?_ (by simp; try omega) _)))⟩
theorem jwaits_nil (w : World) : Calls Try.prog 18 #[.pointer none] w fun e w' => e = .returned (.int .i64 0) ∧ Ext w w' := by
  go_enter Try.func18, Try.ntmps18
  go_wp2_with fail
  first | refine fin_ret rfl (fun K hK => ?_) | refine fin_norm rfl (fun K hK => ?_)
  simp [results, Try.results18, go_sem, rsat]
  try go_simp
  refine hK _ ?_
  clear hK K
  exact ⟨rfl, (by repeat (first | (with_reducible exact Ext.refl _) | (with_reducible assumption) | (with_reducible refine Ext.alloc ?_ _) | (with_reducible refine Ext.drew ?_) | (with_reducible refine Ext.drewN ?_ _) | (with_reducible refine Ext.setCell ?_ (by simp; try omega) _) | (with_reducible refine Ext.setRow ?_ (by simp; try omega) _)))⟩
end Go.Proofs.Ythhgkmdjplancaa
