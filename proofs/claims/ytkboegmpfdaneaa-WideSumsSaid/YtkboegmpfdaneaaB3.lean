/- The walk of Text of package wide: the loops. -/
import Derived.Test.YtkboegmpfdaneaaB2
namespace Go.Proofs.Ytkboegmpfdaneaa
open Go.RowKit
attribute [local go_sem] Later.cell QUpon_value QUpon_enter MUpon_value

def boxN (w : World) (g : Nat) : Nat := match w.heap[g]? with | some (.cells #[.int _ a, .int _ b] _ _) => X a b | _ => 0
theorem boxN_at {w : World} {g : Nat} {a b : Int} (h : At w g 25 #[.int .u64 a, .int .u64 b]) : boxN w g = X a b := by
  unfold At at h; unfold boxN; rw [h]; rfl

def TextAt (n : Nat) (w wr : World) : Prop := ∃ (m : Nat) (a b : Int) (bs : List Value) (v : Value), Hid (m = X a b) ∧ U64 a ∧ U64 b ∧ Hid (bs ++ (lsd m).map dig = (lsd n).map dig) ∧ Ext w wr ∧ At wr w.heap.size 25 #[.int .u64 a, .int .u64 b] ∧ DigAt (w.heap.size + 2) (w.heap.size + 1) bs wr v

theorem text_next (n m d : Nat) (x y qh ql : Int) (bs : List Value) (ux : U64 x) (uy : U64 y) (hm : m = X x y) (HQ : qh = ((X x y / (10 : Int).toNat / 18446744073709551616 : Nat) : Int) ∧ ql = ((X x y / (10 : Int).toNat % 18446744073709551616 : Nat) : Int))
    (hd : d = X x y % (10 : Int).toNat) (hbs : bs ++ (lsd m).map dig = (lsd n).map dig) (hz : ¬ (qh = 0 ∧ ql = 0)) :
    U64 qh ∧ U64 ql ∧ bs ++ [dig d] ++ (lsd (X qh ql)).map dig = (lsd n).map dig ∧ X qh ql < X x y := by
  have e10 : (10 : Int).toNat = 10 := rfl
  rw [e10] at HQ hd
  obtain ⟨h1, h2⟩ := HQ
  have hX := X_lt ux uy
  have eq : X qh ql = X x y / 10 := by rw [h1, h2, X_wide]
  have hq0 : X x y / 10 ≠ 0 := by
    intro h
    rw [h] at h1 h2
    exact hz ⟨by rw [h1]; rfl, by rw [h2]; rfl⟩
  refine ⟨h1 ▸ U64.div (by omega), h2 ▸ U64.mod _, ?_, by omega⟩
  rw [← hbs, hm, lsd_more hq0, eq, hd]
  simp
theorem text_last (n m d : Nat) (x y qh ql : Int) (bs : List Value) (hm : m = X x y) (HQ : qh = ((X x y / (10 : Int).toNat / 18446744073709551616 : Nat) : Int) ∧ ql = ((X x y / (10 : Int).toNat % 18446744073709551616 : Nat) : Int))
    (hd : d = X x y % (10 : Int).toNat) (hbs : bs ++ (lsd m).map dig = (lsd n).map dig) (hz : qh = 0 ∧ ql = 0) : bs ++ [dig d] = (lsd n).map dig := by
  have e10 : (10 : Int).toNat = 10 := rfl
  rw [e10] at HQ hd
  obtain ⟨h1, h2⟩ := HQ
  rw [hz.1] at h1
  rw [hz.2] at h2
  have hq0 : X x y / 10 = 0 := by omega
  rw [← hbs, hm, lsd_end hq0, hd]
  simp
theorem dig_bytes (l : List Nat) (h : ∀ d ∈ l, d < 10) : l.map dig = Lib.byteCells (l.map fun d => UInt8.ofNat (48 + d)) := by
  unfold Lib.byteCells
  rw [List.map_map]
  refine List.map_congr_left fun d hd => ?_
  have := h d hd
  simp only [dig, Function.comp]
  congr 1
  have : (UInt8.ofNat (48 + d)).toNat = 48 + d := by
    rw [UInt8.toNat_ofNat']; omega
  rw [this]
  omega

def WrAt (n : Nat) (w2 : World) (i : Value) (wr : World) : Prop := ∃ k : Nat, i = .int .i64 ((k : Int) - 1) ∧ k ≤ (lsd n).length ∧ Below w2.heap.size w2 wr ∧ ∃ l, Hid (l = (((lsd n).map dig).drop k).reverse) ∧ Lib.IsBuilder 59 5 w2.heap.size w2.heap.size l wr

set_option maxRecDepth 100000 in
set_option maxHeartbeats 1600000 in
theorem text_c (n : Nat) (hn : n < 340282366920938463463374607431768211456) (w : World) : Calls Try.prog 23 #[wide n] w fun e w' => e = .returned (.string ⟨((lsd n).reverse.map fun d => UInt8.ofNat (48 + d)).toArray⟩) ∧ Ext w w' := by
  unfold wide
  obtain ⟨a, ha⟩ : ∃ a, a = ((n / 18446744073709551616 : Nat) : Int) := ⟨_, rfl⟩
  obtain ⟨b, hb⟩ : ∃ a, a = ((n % 18446744073709551616 : Nat) : Int) := ⟨_, rfl⟩
  have ua : U64 a := ha ▸ U64.div hn
  have ub : U64 b := hb ▸ U64.mod n
  have eX : n = X a b := by rw [ha, hb, X_wide]
  rw [← ha, ← hb]
  clear ha hb
  have HX := Lib.hid eX
  clear eX
  go_enter Try.func23, Try.ntmps23
  go_wp2_with fail
  go_loopw [6] (fun _ wr => TextAt n w wr) (fun _ wr => boxN wr w.heap.size)
  case atStart => exact ⟨n, a, b, [], .slice none 0 0, HX, ua, ub, Lib.hid rfl, (by repeat (first | exact Ext.refl _ | assumption | refine Ext.alloc ?_ _ | refine Ext.drew ?_ | refine Ext.drewN ?_ _ | refine Ext.setCell ?_ (by simp; try omega) _)), (by repeat (first | exact At.new _ _ _ | (refine At.new' _ _ _ _ ?_; simp; done) | assumption | refine At.drew ?_ | refine At.alloc ?_ _)), At.new' _ _ _ _ (by simp), World.ownsRow_nil _ _ _ _, by simp [Value.ownBlock]⟩
  case round =>
    clear HX ua ub
    obtain ⟨m, x, y, bs, v, hm, ua, ub, hbs, hx, hA, hD⟩ := hrel
    have c_hA_0 := hA.cell 0
    have f_hA_0 := hA.frozen 0
    simp only [List.getElem?_toArray, List.getElem?_cons_zero, List.getElem?_cons_succ] at c_hA_0
    have c_hA_1 := hA.cell 1
    have f_hA_1 := hA.frozen 1
    simp only [List.getElem?_toArray, List.getElem?_cons_zero, List.getElem?_cons_succ] at c_hA_1
    have s_hA := hA.lt
    have HBX := Lib.hid (boxN_at hA)
    go_wp2_with fail
    refine (div_c x y 10 ua ub ⟨by decide, by decide⟩ (by decide) _).mono ?_
    rintro e w1 ⟨rfl, hx1⟩
    obtain ⟨qh, ql, hq, HQ⟩ := wide_open (X x y / (10 : Int).toNat)
    rw [hq]
    obtain ⟨d, hd⟩ : ∃ d, d = X x y % (10 : Int).toNat := ⟨_, rfl⟩
    rw [← hd]
    have HDg := Lib.hid hd
    have hA1 := hA.ext hx1
    clear hd hq c_hA_0 c_hA_1 f_hA_0 f_hA_1 s_hA
    have c_hA1_0 := hA1.cell 0
    have f_hA1_0 := hA1.frozen 0
    simp only [List.getElem?_toArray, List.getElem?_cons_zero, List.getElem?_cons_succ] at c_hA1_0
    have c_hA1_1 := hA1.cell 1
    have f_hA1_1 := hA1.frozen 1
    simp only [List.getElem?_toArray, List.getElem?_cons_zero, List.getElem?_cons_succ] at c_hA1_1
    have s_hA1 := hA1.lt
    have hlenN := lsd_len 38 n (by omega)
    have hbl : bs.length + 1 ≤ 140737488355328 := by
      have e := congrArg List.length hbs.out
      simp only [List.length_append, List.length_map] at e
      omega
    obtain ⟨hg, hown, hne⟩ := hD
    have hs1 := hx1.size
    have hD1 : DigAt (w.heap.size + 2) (w.heap.size + 1) bs w1 v := by
      have hl : w.heap.size + 1 < wr.heap.size := (Array.getElem?_eq_some_iff.1 hg).1
      refine ⟨(hx1.block _ hl).trans hg, ?_, hne⟩
      exact hown.kept (row := none) ⟨hx1.os, hx1.tape, hx1.output, hx1.size, fun k hk _ => hx1.block k hk⟩ (by rcases e : v.ownBlock with _ | k; exact .inl rfl; exact .inr (by simp))
    clear hg hown hne
    have hd10 : d < 10 := by rw [HDg.out]; exact Nat.mod_lt _ (by decide)
    have hD2 : DigAt (w.heap.size + 2) (w.heap.size + 1) bs (w1.alloc (.cells #[.int .u64 qh, .int .u64 ql] 25)) v := by
      obtain ⟨hg, hown, hne⟩ := hD1
      have hl : w.heap.size + 1 < w1.heap.size := (Array.getElem?_eq_some_iff.1 hg).1
      exact ⟨(Lib.alloc_old w1 _ _ hl).trans hg, hown.alloc _, hne⟩
    have hsz : w.heap.size + 2 ≤ w1.heap.size := by
      have : w.heap.size + 1 < w1.heap.size := (Array.getElem?_eq_some_iff.1 hD1.1).1
      omega
    go_wp2_with fail
    refine (put_c (w.heap.size + 2) (w.heap.size + 1) d bs v _ hd10 hD2 hbl (by simp; omega)).mono ?_
    rintro e w2 ⟨rfl, v', hD3, hP⟩
    have hvk : ∀ k, v.ownBlock = some k → w.heap.size + 2 ≤ k ∧ k < w1.heap.size := fun k hk => hD1.2.1.lt k hk
    have hA2 : At w2 w.heap.size 25 #[.int .u64 x, .int .u64 y] := by
      refine (hP.block _ (by simp; omega) (by omega) (fun e => ?_)).trans (hA1.alloc _)
      have := hvk _ e.symm; omega
    have hQ2 : At w2 w1.heap.size 25 #[.int .u64 qh, .int .u64 ql] := by
      refine (hP.block _ (by simp) (by omega) (fun e => ?_)).trans (At.new _ _ _)
      have := hvk _ e.symm; omega
    have x2 : Ext w w2 := by
      have x1 : Ext w (w1.alloc (.cells #[.int .u64 qh, .int .u64 ql] 25)) := (hx.trans hx1).alloc _
      refine ⟨hP.os.trans x1.os, hP.tape.trans x1.tape, hP.output.trans x1.output, Nat.le_trans x1.size hP.size, fun k hk => (hP.block k (by have := x1.size; omega) (by omega) (fun e => ?_)).trans (x1.block k hk)⟩
      have := hvk _ e.symm; omega
    clear hP hD2 hD1 hvk hA hA1 hx hx1 hs1 c_hA1_0 c_hA1_1 f_hA1_0 f_hA1_1 s_hA1
    have c_hA2_0 := hA2.cell 0
    have f_hA2_0 := hA2.frozen 0
    simp only [List.getElem?_toArray, List.getElem?_cons_zero, List.getElem?_cons_succ] at c_hA2_0
    have c_hA2_1 := hA2.cell 1
    have f_hA2_1 := hA2.frozen 1
    simp only [List.getElem?_toArray, List.getElem?_cons_zero, List.getElem?_cons_succ] at c_hA2_1
    have s_hA2 := hA2.lt
    have c_hQ2_0 := hQ2.cell 0
    have f_hQ2_0 := hQ2.frozen 0
    simp only [List.getElem?_toArray, List.getElem?_cons_zero, List.getElem?_cons_succ] at c_hQ2_0
    have c_hQ2_1 := hQ2.cell 1
    have f_hQ2_1 := hQ2.frozen 1
    simp only [List.getElem?_toArray, List.getElem?_cons_zero, List.getElem?_cons_succ] at c_hQ2_1
    have s_hQ2 := hQ2.lt
    obtain ⟨hg3, hown3, hne3⟩ := hD3
    have c3 : w2.cell? ⟨w.heap.size + 1, 0, none⟩ = some v' := by rw [Lib.cell_of_heap hg3]; rfl
    have s3 : w.heap.size + 1 < w2.heap.size := (Array.getElem?_eq_some_iff.1 hg3).1
    obtain ⟨k0, cap, rfl⟩ : ∃ k cap, v' = .slice (some ⟨k, 0, none⟩) (bs.length + 1) cap := by
      rcases hown3.2 with ⟨_, h0⟩ | ⟨g, cap, cur, hv, _⟩
      · simp at h0
      · exact ⟨g, cap, by simpa using hv⟩
    by_cases hz : qh = 0 ∧ ql = 0
    · have hlast := text_last n m d x y qh ql bs hm.out HQ.out HDg.out hbs.out hz
      obtain ⟨rfl, rfl⟩ := hz
      have hll : (lsd n).length = bs.length + 1 := by
        have e := congrArg List.length hlast
        simp only [List.length_append, List.length_map, List.length_singleton] at e
        omega
      rw [hlast] at hown3
      have hown := hown3.2
      rcases hown with ⟨h0, _⟩ | ⟨g, cap', cur, hv, hg2, hgb, hcap, hcm, hcs, hct⟩
      · simp at h0
      injection hv with hv1 hv2 hv3
      have hv4 : k0 = g := by simpa using hv1
      subst hv4 hv3
      have HCT := Lib.hid hct
      have HCS := Lib.hid hcs
      have HG := Lib.hid hgb
      have HLL := Lib.hid hll
      clear hll hlast hown3 hv1 hv2 hct hcs hgb
      go_wp2_with fail
      go_loopw [9] (fun i wr => WrAt n w2 i wr) (fun i _ => (intOf i + 1).toNat)
      case atStart => exact ⟨bs.length + 1, by first | rfl | (go_num), by rw [HLL.out]; exact Nat.le_refl _, (Below.refl _ _).alloc (Nat.le_refl _) _, [], Lib.hid (by rw [List.drop_of_length_le (by simp [HLL.out])]; rfl), Lib.fresh_isBuilder 59 5 w2⟩
      case round =>
        obtain ⟨k, rfl, hk, hb, l, hl, hB⟩ := hrel
        have cD : wr.cell? ⟨w.heap.size + 1, 0, none⟩ = some (.slice (some ⟨k0, 0, none⟩) (bs.length + 1) cap) := by
          rw [Lib.cell_of_heap ((hb.block _ s3).trans hg3)]; rfl
        rcases k with _ | k
        · go_wp2_with fail
          have hBy : Lib.IsBuilder 59 5 w2.heap.size w2.heap.size (Lib.byteCells ((lsd n).reverse.map fun d => UInt8.ofNat (48 + d))) wr := by
            rw [← dig_bytes _ (fun d hd => lsd_lt n d (List.mem_reverse.1 hd)), List.map_reverse, ← List.drop_zero (l := (lsd n).map dig), ← hl.out]
            exact hB
          refine (Try.Builder_String_any _ _ _ _ hBy hb.size).mono ?_
          rintro e w5 ⟨rfl, hb5⟩
          go_wp2
          refine fin_ret rfl (fun K hK => ?_)
          simp [results, Try.results23, go_sem, rsat]
          try go_simp
          refine hK _ ?_
          clear hK K
          exact ⟨by simp, Ext.trans x2 (Below.trans hb hb5)⟩
        · have eI : ((k + 1 : Nat) : Int) - 1 = (k : Int) := by omega
          rw [eI]
          clear eI
          have hkl : k < (lsd n).length := hk
          obtain ⟨e, he⟩ : ∃ e, (lsd n)[k]? = some e := ⟨_, List.getElem?_eq_getElem hkl⟩
          have hk0 : k0 < w2.heap.size := (Array.getElem?_eq_some_iff.1 HG.out).1
          have cE : wr.cell? ⟨k0, k, none⟩ = some (.int .u8 (48 + (e : Int))) := by
            rw [Lib.cell_of_heap ((hb.block _ hk0).trans HG.out)]
            have e1 : cur.toList[k]? = some (dig e) := by
              have e2 : (cur.toList.take (((lsd n).map dig).length * 1))[k]? = some (dig e) := by rw [HCT.out, List.getElem?_map, he]; rfl
              rw [List.getElem?_take] at e2
              split at e2
              · exact e2
              · simp at e2
            simpa [dig] using e1
          have hkL : k < bs.length + 1 := by have := HLL.out; omega
          have hkI : (k : Int) < ((bs.length + 1 : Nat) : Int) := by omega
          have hlen : l.length + 1 ≤ 140737488355328 := by
            rw [hl.out]
            simp
            omega
          go_wp2_with fail
          refine (writeByte_c _ _ l _ _ hB hlen hb.size).mono ?_
          rintro e' w5 ⟨rfl, hB5, hb5⟩
          go_wp2
          go_roundw
          case rel =>
            refine ⟨k, by go_num, by omega, hb.trans hb5, _, Lib.hid ?_, .inr hB5⟩
            rw [hl.out]
            have e3 : ((lsd n).map dig).drop k = dig e :: ((lsd n).map dig).drop (k + 1) := by
              rw [List.drop_eq_getElem_cons (by simpa using hkl)]
              congr 1
              have : ((lsd n).map dig)[k]? = some (dig e) := by rw [List.getElem?_map, he]; rfl
              exact (List.getElem?_eq_some_iff.1 this).2
            rw [e3]
            simp [dig]
          case measure => simp [intOf]
    · obtain ⟨uq, ul, hnext, hlt⟩ := text_next n m d x y qh ql bs ua ub hm.out HQ.out HDg.out hbs.out hz
      have HN := Lib.hid hnext
      have HLT := Lib.hid hlt
      clear hnext hlt
      have hA3 : At ((w2.setCell ⟨w.heap.size, 0, none⟩ (.int .u64 qh)).setCell ⟨w.heap.size, 1, none⟩ (.int .u64 ql)) w.heap.size 25 #[.int .u64 qh, .int .u64 ql] := At.set (At.set hA2 0 _) 1 _
      have hD4 : DigAt (w.heap.size + 2) (w.heap.size + 1) (bs ++ [dig d]) ((w2.setCell ⟨w.heap.size, 0, none⟩ (.int .u64 qh)).setCell ⟨w.heap.size, 1, none⟩ (.int .u64 ql)) (.slice (some ⟨k0, 0, none⟩) (bs.length + 1) cap) := by
        refine ⟨?_, ?_, hne3⟩
        · rw [Below.heap_setCell _ _ _ _ (by simp), Below.heap_setCell _ _ _ _ (by simp)]; exact hg3
        · refine hown3.kept (row := some w.heap.size) ⟨rfl, rfl, rfl, by simp, fun k _ hk => ?_⟩ (.inr ?_)
          · have : k ≠ w.heap.size := fun e => hk (by rw [e])
            rw [Below.heap_setCell _ _ _ _ this, Below.heap_setCell _ _ _ _ this]
          · have := (hown3.lt k0 rfl).1
            intro e
            have : k0 = w.heap.size := by simpa [Value.ownBlock] using e
            omega
      have x4 : Ext w ((w2.setCell ⟨w.heap.size, 0, none⟩ (.int .u64 qh)).setCell ⟨w.heap.size, 1, none⟩ (.int .u64 ql)) := (by repeat (first | exact Ext.refl _ | assumption | refine Ext.alloc ?_ _ | refine Ext.drew ?_ | refine Ext.drewN ?_ _ | refine Ext.setCell ?_ (by simp; try omega) _))
      have hfin : TextAt n w ((w2.setCell ⟨w.heap.size, 0, none⟩ (.int .u64 qh)).setCell ⟨w.heap.size, 1, none⟩ (.int .u64 ql)) ∧ boxN ((w2.setCell ⟨w.heap.size, 0, none⟩ (.int .u64 qh)).setCell ⟨w.heap.size, 1, none⟩ (.int .u64 ql)) w.heap.size < boxN wr w.heap.size :=
        ⟨⟨X qh ql, qh, ql, _, _, Lib.hid rfl, uq, ul, HN, x4, hA3, hD4⟩, by rw [boxN_at hA3, HBX.out]; exact HLT.out⟩
      have HF := Lib.hid hfin
      clear hfin hA3 hD4 x4
      go_wp2_with fail
      · have e0 : qh = 0 := by assumption
        subst e0
        exact HF.out
      · exact HF.out
end Go.Proofs.Ytkboegmpfdaneaa
