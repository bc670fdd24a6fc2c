/- Law OctetsBack, 2. No condition. -/
import Derived.Test.YtliccefjdieclaaQ6
namespace Go.Proofs.Ytliccefjdieclaa
open Go.RowKit
attribute [local go_sem] Later.cell QUpon_value QUpon_enter MUpon_value run_eql_slice_nil
attribute [local go_sem ↓ high] loadPt_is storePt_is loadPrt_is storePrt_is
attribute [local go_sem] run_loadPt run_loadPt_at run_storePt run_loadPrt run_loadPrt_at run_storePrt one_int one_bool one_slice one_ptr one_str setRow_new setRow_past cell_ca frozen_ca cellsAt_alloc_at cellsAt_alloc_past cellsAt_drew cellsAt_later cellsAt_setCell cellsAt_set_same cellsAt_setRow_same cellsAt_setRow_far subAt_alloc subAt_drew subAt_later subAt_setCell subAt_setRow ltn_2 ltn_3 ltn_4 ltn_5
theorem Rdr.alloc {w : World} {g : Nat} {A : Option Addr} {bs : List Int} {f : Int} (h : Rdr w g A bs f) (o : Obj) : Rdr (w.alloc o) g A bs f := h.ext ((Ext.refl w).alloc o)
theorem Reads.extOf {w0 w w1 : World} {g : Nat} {A A1 : Option Addr} {bs : List Int} {f : Int} (h : Reads w g A bs f w1 A1) (hx : Ext w0 w) (hg : w0.heap.size ≤ g) : Ext w0 w1 := h.ext0 hx hg
theorem rest_le (k z : Int) (rs : List Int) (f : Int) : (gotR k z rs f).2.2.2.1.length ≤ rs.length := by
  by_cases hf : f = 0
  · subst hf
    exact (got_is k z rs).rest
  · rw [got_bad k z rs f hf]
    exact Nat.le_refl _
theorem forms_drop {l : List Pt} {k : Nat} (h : k < l.length) : forms (l.drop k) = formP l[k].kind l[k].size l[k].n l[k].s l[k].raw.xs ++ forms (l.drop (k + 1)) := by
  unfold forms
  rw [List.drop_eq_getElem_cons h, List.flatMap_cons]
  rfl
set_option maxHeartbeats 8000000 in
set_option maxRecDepth 100000 in
theorem octetsback_c (x : Pts) (less : Int) (hle : I64 less) (w : World) (h : x.At w) : Calls Try.prog 6 #[x.v, .int .i64 less] w fun e w' => e = .returned (.bool true) ∧ Ext w w' := by
  unfold Pts.v
  have CL := light_c x w h
  cases hL : lightB x.l with
  | false =>
    rw [hL] at CL
    go_enter Try.func6, Try.ntmps6
    go_wp2_with fail
    refine CL.mono ?_
    rintro e w1 ⟨rfl, hx1⟩
    go_wp2_with fail
    refine (alive_c _).mono ?_
    rintro e w2 ⟨rfl, hx2⟩
    go_wp2_with fail
    first | refine fin_ret rfl (fun K hK => ?_) | refine fin_norm rfl (fun K hK => ?_)
    simp [results, Try.results6, go_sem, rsat]
    try go_simp
    refine hK _ ?_
    clear hK K
    exact ⟨rfl, hx1.trans hx2⟩
  | true =>
    obtain ⟨l40, l60⟩ := lightB_of hL
    rw [hL] at CL
    have hbl := fun k => forms_len (l := x.l.take k)
    obtain ⟨A, c, l⟩ := x
    simp only at hbl l40 l60 CL ⊢
    by_cases hl0 : l.length = 0
    · have hlb : ((l.length : Int) == 0) = true := by simp [hl0]
      clear hl0 hL
      go_enter Try.func6, Try.ntmps6
      go_wp2_with fail
      refine CL.mono ?_
      rintro e w1 ⟨rfl, hx1⟩
      go_wp2_with fail
      refine (alive_c _).mono ?_
      rintro e w2 ⟨rfl, hx2⟩
      go_wp2_with fail
      first | refine fin_ret rfl (fun K hK => ?_) | refine fin_norm rfl (fun K hK => ?_)
      simp [results, Try.results6, go_sem, rsat]
      try go_simp
      refine hK _ ?_
      clear hK K
      exact ⟨rfl, hx1.trans hx2⟩
    have hnn : ∀ p ∈ l, p.n < 18446744073709551616 := fun p hp => (h.ok p hp).n
    have hfb : ∀ k, (forms (l.take k)).length ≤ 2800 := fun k => by
      have := hbl k (fun p hp => ⟨hnn p (List.mem_of_mem_take hp), l60 p (List.mem_of_mem_take hp)⟩)
      rw [List.length_take] at this
      omega
    have hfl : (forms l).length ≤ 2800 := by have := hfb l.length; rwa [List.take_length] at this
    have hfy : Byt (forms l) := forms_byt (w := w) h.ok
    have hlb : ((l.length : Int) == 0) = false := beq_eq_false_iff_ne.2 (by omega)
    clear hL hbl
    go_enter Try.func6, Try.ntmps6
    go_wp2_with fail
    refine CL.mono ?_
    rintro e w1 ⟨rfl, hx1⟩
    go_wp2_with fail
    obtain ⟨g, hg⟩ : ∃ g, g = w1.heap.size := ⟨_, rfl⟩
    rw [← hg]
    have hG : At (w1.alloc (.cells #[.slice none 0 0] 25)) g 25 #[.slice none 0 0] := hg ▸ At.new _ _ _
    have hx2 : Ext w (w1.alloc (.cells #[.slice none 0 0] 25)) := hx1.alloc _
    have hgw : w.heap.size ≤ g := by rw [hg]; exact hx1.size
    have HG := Lib.hid hg
    clear hg
    go_loopw [6] (fun i wr => ∃ (k : Nat) (A1 : Option Addr), i = .int .i64 k ∧ k ≤ l.length ∧ Wr wr g A1 (forms (l.take k)) ∧ Ext w wr ∧ (∀ j ∈ ablk A1, w.heap.size ≤ j) ∧ (∀ j, (hj : j < l.length) → j < k → validP l[j].kind l[j].size)) (fun i _ => l.length - (intOf i).toNat)
    case atStart => exact ⟨0, none, rfl, by omega, Wr.new hG, hx2, by simp [ablk], fun j _ h => absurd h (by omega)⟩
    case round =>
      obtain ⟨k, A1, rfl, hk, hW, hx, hd1, hval⟩ := hrel
      by_cases hlt : k < l.length
      · obtain ⟨b, off, hA, hb, hs⟩ := h.elem k hlt
        obtain ⟨b', off', hA', _, hc⟩ := h.cell (by simp only; omega)
        simp only at hA hs hA' hc
        rw [hA] at hA'
        injection hA' with hA'
        injection hA' with hb1 hb2
        subst hb1 hb2
        have c0 := (hx.facts.1 _ _ hb).trans (hc k hlt 0 (by decide))
        have c1 := (hx.facts.1 _ _ hb).trans (hc k hlt 1 (by decide))
        simp only [Pt.cells, List.getElem?_cons_succ, List.getElem?_cons_zero, Nat.add_zero, ← Nat.add_assoc] at c0 c1
        subst hA
        have hft := forms_take hlt
        have pok := h.ok l[k] (List.getElem_mem _)
        have prl := l60 l[k] (List.getElem_mem _)
        have hf0 := hfb k
        unfold Pt.form at hft
        have hvs : validP l[k].kind l[k].size → ∀ j, (hj : j < l.length) → j < k + 1 → validP l[j].kind l[j].size := fun hv j hj hj2 => by
          by_cases h1 : j < k
          · exact hval j hj h1
          · obtain rfl : j = k := by omega
            exact hv
        generalize l[k] = p at hs hft pok prl c0 c1 hvs
        have HFT := Lib.hid hft
        obtain ⟨kd, sz, n, s, ⟨RA, Rc, rx⟩⟩ := p
        simp only at hs pok prl HFT c0 c1 hvs
        have HVS := Lib.hid hvs
        have hs1 := (subAt_ext hx hb).trans hs
        have pn := pok.n
        have psz := pok.s
        have pby := pok.raw.byt
        have psr := pok.raw.src
        simp only at pn psz pby psr
        clear hft hvs hc hval pok
        generalize forms (l.take k) = ds at hW HFT hf0
        by_cases v1 : kd < 1
        · go_wp2_with fail
          refine (alive_c _).mono ?_
          rintro e w4 ⟨rfl, hx4⟩
          go_wp2_with fail
          first | refine fin_ret rfl (fun K hK => ?_) | refine fin_norm rfl (fun K hK => ?_)
          simp [results, Try.results6, go_sem, rsat]
          try go_simp
          refine hK _ ?_
          clear hK K
          exact ⟨rfl, hx.trans hx4⟩
        by_cases v2 : 4 < kd
        · go_wp2_with fail
          refine (alive_c _).mono ?_
          rintro e w4 ⟨rfl, hx4⟩
          go_wp2_with fail
          first | refine fin_ret rfl (fun K hK => ?_) | refine fin_norm rfl (fun K hK => ?_)
          simp [results, Try.results6, go_sem, rsat]
          try go_simp
          refine hK _ ?_
          clear hK K
          exact ⟨rfl, hx.trans hx4⟩
        by_cases v3 : kd = 1
        · subst v3
          by_cases v4 : sz < 1
          · go_wp2_with fail
            refine (alive_c _).mono ?_
            rintro e w4 ⟨rfl, hx4⟩
            go_wp2_with fail
            first | refine fin_ret rfl (fun K hK => ?_) | refine fin_norm rfl (fun K hK => ?_)
            simp [results, Try.results6, go_sem, rsat]
            try go_simp
            refine hK _ ?_
            clear hK K
            exact ⟨rfl, hx.trans hx4⟩
          by_cases v5 : 8 < sz
          · go_wp2_with fail
            refine (alive_c _).mono ?_
            rintro e w4 ⟨rfl, hx4⟩
            go_wp2_with fail
            first | refine fin_ret rfl (fun K hK => ?_) | refine fin_norm rfl (fun K hK => ?_)
            simp [results, Try.results6, go_sem, rsat]
            try go_simp
            refine hK _ ?_
            clear hK K
            exact ⟨rfl, hx.trans hx4⟩
          have hv := HVS.out ⟨⟨by omega, by omega⟩, fun _ => ⟨by omega, by omega⟩⟩
          have HV := Lib.hid hv
          clear hv
          go_wp2_with fail
          refine (putp_c g A1 ds 1 sz n s RA Rc rx pn psz pby _ hW (psr.ext hx) (by omega)).mono ?_
          rintro e w4 ⟨rfl, A4, P4⟩
          go_wp2_with fail
          go_roundw
          case rel => exact ⟨k + 1, A4, by go_num, by omega, by rw [HFT.out]; exact P4.wr, P4.chg.extOf hx (fun i hi => by rcases List.mem_cons.1 hi with rfl | h1; exact hgw; exact hd1 i h1), fun j hj => by rcases P4.fresh j hj with h1 | h1; exact hd1 j h1; exact Nat.le_trans hx.size h1, HV.out⟩
          case measure => simp [intOf]; omega
        · have vb := beqI v3
          have hv := HVS.out ⟨⟨by omega, by omega⟩, fun h => absurd h v3⟩
          have HV := Lib.hid hv
          clear hv
          go_wp2_with fail
          refine (putp_c g A1 ds kd sz n s RA Rc rx pn psz pby _ hW (psr.ext hx) (by omega)).mono ?_
          rintro e w4 ⟨rfl, A4, P4⟩
          go_wp2_with fail
          go_roundw
          case rel => exact ⟨k + 1, A4, by go_num, by omega, by rw [HFT.out]; exact P4.wr, P4.chg.extOf hx (fun i hi => by rcases List.mem_cons.1 hi with rfl | h1; exact hgw; exact hd1 i h1), fun j hj => by rcases P4.fresh j hj with h1 | h1; exact hd1 j h1; exact Nat.le_trans hx.size h1, HV.out⟩
          case measure => simp [intOf]; omega
      · obtain rfl : k = l.length := by omega
        rw [List.take_length] at hW
        go_wp2_with fail
        refine (bytes_c g A1 _ _ hW (by omega)).mono ?_
        rintro e w4 ⟨hx4, v, rfl, Ab, cb, rfl, Rb, Fb⟩
        have y4 := hx.trans hx4
        have hcb := Rb.le
        have hcm := Rb.max
        unfold maxLen at hcm
        go_wp2_with fail
        refine (newreader_c Ab (forms l) cb w4 Rb.src hfy (by omega)).mono ?_
        rintro e w5 ⟨hx5, g2, A5, rfl, r5, hg5, _⟩
        have y5 := y4.trans hx5
        have Rb5 := Rb.ext hx5
        have hg2w : w.heap.size ≤ g2 := Nat.le_trans y4.size hg5
        have hgb : ∀ q ∈ ablk Ab, q ∉ [g2] := fun q hq hm => by simp at hm; have := (Fb q hq).2; omega
        have hV : ∀ j, (hj : j < l.length) → validP l[j].kind l[j].size := fun j hj => hval j hj hj
        have HVV := Lib.hid hV
        clear hV hval hW Rb
        go_wp2_with fail
        go_loopw [9] (fun i wq => ∃ (k : Nat) (A2 : Option Addr), i = .int .i64 k ∧ k ≤ l.length ∧ Rdr wq g2 A2 (forms (l.drop k)) 0 ∧ Ext w wq ∧ Row wq 5 1 Ab (forms l).length cb (bc (forms l))) (fun i _ => l.length - (intOf i).toNat)
        case atStart => exact ⟨0, A5, rfl, by omega, r5, y5, Rb5⟩
        case round =>
          obtain ⟨k, A2, rfl, hk, hR, hx3, hRb⟩ := hrel
          by_cases hlt : k < l.length
          · obtain ⟨b, off, hA, hb, hs⟩ := h.elem k hlt
            simp only at hA hs
            subst hA
            have hfd := forms_drop hlt
            have hv := HVV.out k hlt
            have pok := h.ok l[k] (List.getElem_mem _)
            have prl := l60 l[k] (List.getElem_mem _)
            generalize l[k] = p at hs hfd hv pok prl
            obtain ⟨kd, sz, n, s, ⟨RA, Rc, rx⟩⟩ := p
            simp only at hs hfd hv pok prl
            have hs1 := (subAt_ext hx3 hb).trans hs
            have hbr : b < wr.heap.size := Nat.lt_of_lt_of_le hb hx3.size
            have hgb2 := got_back (xs := rx) hv pok.n pok.s (forms (l.drop (k + 1)))
            rw [← hfd] at hgb2
            have hrs : (forms (l.drop k)).length ≤ 2800 := by
              have : (forms (l.drop k)).length ≤ (forms l).length := by
                conv => rhs; rw [← List.take_append_drop k l]
                unfold forms
                rw [List.flatMap_append, List.length_append]
                omega
              omega
            have C := fun (z' : Int) (n' : Int) (hz' : I64 z') W (hW : Rdr W g2 A2 (forms (l.drop k)) 0) => gotp_c g2 A2 (forms (l.drop k)) 0 kd z' n' s RA rx.length Rc hz' W hW (by omega)
            have pby := pok.raw.byt
            have psr := pok.raw.src
            have pn := pok.n
            have psz := pok.size
            simp only at pby psr pn psz
            clear hfd pok
            generalize forms (l.drop k) = rs at hR hgb2 C hrs
            generalize hrest : forms (l.drop (k + 1)) = rest at hgb2
            have HREST := Lib.hid hrest
            clear hrest
            obtain ⟨⟨hv1, hv4⟩, hvz⟩ := hv
            obtain rfl | rfl | rfl | rfl : kd = 1 ∨ kd = 2 ∨ kd = 3 ∨ kd = 4 := by omega
            · have hz := hvz rfl
              obtain ⟨z, rfl⟩ : ∃ z : Nat, sz = (z : Int) := ⟨sz.toNat, by omega⟩
              rw [show backZ 1 (z : Int) rx = (z : Int) from rfl] at hgb2
              have hNN : backNn 1 (z : Int) n = n % 256 ^ z := by unfold backNn; rw [if_pos rfl, Int.toNat_natCast]
              rw [hNN] at hgb2
              clear hvz hNN
              by_cases hz8 : z < 8
              · have hD8 : 256 ^ z ≤ 256 ^ 7 := Nat.pow_le_pow_right (by decide) (by omega)
                have hD0 : 0 < 256 ^ z := Nat.pow_pos (by decide)
                have es : IntKind.u64.wrap ((2 : Int) ^ (8 * z)) = ((256 ^ z : Nat) : Int) := by
                  rw [show (256 : Nat) = 2 ^ 8 from rfl, ← Nat.pow_mul, Int.natCast_pow, IntKind.wrap_u64]
                  have e1 : ((2 : Int) ^ (8 * z)) = ((2 ^ (8 * z) : Nat) : Int) := by simp
                  have e2 : (2 : Nat) ^ (8 * z) = 256 ^ z := by rw [Nat.pow_mul]
                  have e3 : ((2 : Nat) : Int) = 2 := rfl
                  rw [e3, e1, e2]
                  omega
                have CG := C (z : Int) ((n % 256 ^ z : Nat) : Int) psz
                rw [hgb2] at CG
                simp only [backSs, backX, show ((1 : Int) = 2) = False by simp, show ((1 : Int) = 4) = False by simp, if_false] at CG
                generalize hDD : 256 ^ z = D at es hD8 hD0 CG
                have HDD := Lib.hid hDD
                clear hDD
                have em : (n : Int) % (D : Int) = ((n % D : Nat) : Int) := by omega
                generalize n % D = M at em CG
                have hne : ¬ (D : Int) = 0 := by omega
                have hnb : ((D : Int) == 0) = false := beq_eq_false_iff_ne.2 hne
                have hMM : ((M : Int) != (M : Int)) = false := by simp
                have HCG := Lib.hid CG
                clear C CG hgb2
                go_wp2_with fail
                obtain ⟨w6, hw6⟩ : ∃ w6 : World, w6 = wr.alloc (.cells #[.int .i64 1, .int .i64 (z : Int), .int .u64 (M : Int), .int .i64 s, .slice RA rx.length Rc] 37) := ⟨_, rfl⟩
                have x6 : Ext wr w6 := by rw [hw6]; exact (by repeat (first | (with_reducible exact Ext.refl _) | (with_reducible assumption) | (with_reducible refine Ext.alloc ?_ _) | (with_reducible refine Ext.drew ?_) | (with_reducible refine Ext.drewN ?_ _) | (with_reducible refine Ext.setCell ?_ (by simp; try omega) _) | (with_reducible refine Ext.setRow ?_ (by simp; try omega) _)))
                have P6 : At w6 wr.heap.size 37 #[.int .i64 1, .int .i64 (z : Int), .int .u64 (M : Int), .int .i64 s, .slice RA rx.length Rc] := by rw [hw6]; exact (by repeat (first | (with_reducible exact At.new _ _ _) | ((with_reducible refine At.new' _ _ _ _ ?_); simp; done) | (with_reducible assumption) | (with_reducible refine At.drew ?_) | (with_reducible refine At.alloc ?_ _) | (with_reducible apply At.upd) | (with_reducible apply At.setRow) | (with_reducible refine At.rowFar ?_ (by first | (simp; done) | (simp; omega) | omega) _) | ((with_reducible refine At.far ?_ (by first | (simp; done) | (simp; omega) | omega) _)) | (with_reducible rfl) | (simp; done)))
                rw [← hw6]
                clear hw6
                have hg2l := hR.ex.choose_spec.1.lt
                refine (HCG.out w6 (hR.ext x6)).mono ?_
                rintro e w7 ⟨⟨v, rfl, Ax, cx, rfl, Sx⟩, A7, R7⟩
                have P7 := R7.chg.at P6 (by simp; omega)
                have e7 := cellsAt_at P7
                have s7 := P7.lt
                have y7 : Ext w w7 := R7.extOf (hx3.trans x6) hg2w
                have Rb7 := (hRb.ext x6).chg R7.chg hgb
                go_wp2_with fail
                go_roundw
                case rel => exact ⟨k + 1, A7, by go_num, by omega, by rw [HREST.out]; exact R7.rd.alloc _, y7.alloc _, Rb7.alloc _⟩
                case measure => simp [intOf]; omega
              · obtain rfl : z = 8 := by omega
                have hn8 : n % 256 ^ 8 = n := Nat.mod_eq_of_lt (by simpa using pn)
                rw [hn8] at hgb2
                clear hn8
                have CG := C ((8 : Nat) : Int) n psz
                rw [hgb2] at CG
                simp only [backSs, backX, show ((1 : Int) = 2) = False by simp, show ((1 : Int) = 4) = False by simp, if_false] at CG
                have HCG := Lib.hid CG
                clear C CG hgb2
                go_wp2_with fail
                obtain ⟨w6, hw6⟩ : ∃ w6 : World, w6 = wr.alloc (.cells #[.int .i64 1, .int .i64 8, .int .u64 (n : Int), .int .i64 s, .slice RA rx.length Rc] 37) := ⟨_, rfl⟩
                have x6 : Ext wr w6 := by rw [hw6]; exact (by repeat (first | (with_reducible exact Ext.refl _) | (with_reducible assumption) | (with_reducible refine Ext.alloc ?_ _) | (with_reducible refine Ext.drew ?_) | (with_reducible refine Ext.drewN ?_ _) | (with_reducible refine Ext.setCell ?_ (by simp; try omega) _) | (with_reducible refine Ext.setRow ?_ (by simp; try omega) _)))
                have P6 : At w6 wr.heap.size 37 #[.int .i64 1, .int .i64 8, .int .u64 (n : Int), .int .i64 s, .slice RA rx.length Rc] := by rw [hw6]; exact (by repeat (first | (with_reducible exact At.new _ _ _) | ((with_reducible refine At.new' _ _ _ _ ?_); simp; done) | (with_reducible assumption) | (with_reducible refine At.drew ?_) | (with_reducible refine At.alloc ?_ _) | (with_reducible apply At.upd) | (with_reducible apply At.setRow) | (with_reducible refine At.rowFar ?_ (by first | (simp; done) | (simp; omega) | omega) _) | ((with_reducible refine At.far ?_ (by first | (simp; done) | (simp; omega) | omega) _)) | (with_reducible rfl) | (simp; done)))
                rw [← hw6]
                clear hw6
                have hg2l := hR.ex.choose_spec.1.lt
                refine (HCG.out w6 (hR.ext x6)).mono ?_
                rintro e w7 ⟨⟨v, rfl, Ax, cx, rfl, Sx⟩, A7, R7⟩
                have P7 := R7.chg.at P6 (by simp; omega)
                have e7 := cellsAt_at P7
                have s7 := P7.lt
                have y7 : Ext w w7 := R7.extOf (hx3.trans x6) hg2w
                have Rb7 := (hRb.ext x6).chg R7.chg hgb
                go_wp2_with fail
                go_roundw
                case rel => exact ⟨k + 1, A7, by go_num, by omega, by rw [HREST.out]; exact R7.rd.alloc _, y7.alloc _, Rb7.alloc _⟩
                case measure => simp [intOf]; omega
            · rw [show backZ 2 sz rx = sz from rfl] at hgb2
              have CG := C sz n psz
              rw [hgb2] at CG
              simp only [backNn, backSs, backX, show ((2 : Int) = 1) = False by simp, show ((2 : Int) = 2) = True by simp, show ((2 : Int) = 3) = False by simp, show ((2 : Int) = 4) = False by simp, if_false, if_true] at CG
              have HCG := Lib.hid CG
              clear C CG hgb2
              go_wp2_with fail
              obtain ⟨w6, hw6⟩ : ∃ w6 : World, w6 = wr.alloc (.cells #[.int .i64 2, .int .i64 sz, .int .u64 (n : Int), .int .i64 s, .slice RA rx.length Rc] 37) := ⟨_, rfl⟩
              have x6 : Ext wr w6 := by rw [hw6]; exact (by repeat (first | (with_reducible exact Ext.refl _) | (with_reducible assumption) | (with_reducible refine Ext.alloc ?_ _) | (with_reducible refine Ext.drew ?_) | (with_reducible refine Ext.drewN ?_ _) | (with_reducible refine Ext.setCell ?_ (by simp; try omega) _) | (with_reducible refine Ext.setRow ?_ (by simp; try omega) _)))
              have P6 : At w6 wr.heap.size 37 #[.int .i64 2, .int .i64 sz, .int .u64 (n : Int), .int .i64 s, .slice RA rx.length Rc] := by rw [hw6]; exact (by repeat (first | (with_reducible exact At.new _ _ _) | ((with_reducible refine At.new' _ _ _ _ ?_); simp; done) | (with_reducible assumption) | (with_reducible refine At.drew ?_) | (with_reducible refine At.alloc ?_ _) | (with_reducible apply At.upd) | (with_reducible apply At.setRow) | (with_reducible refine At.rowFar ?_ (by first | (simp; done) | (simp; omega) | omega) _) | ((with_reducible refine At.far ?_ (by first | (simp; done) | (simp; omega) | omega) _)) | (with_reducible rfl) | (simp; done)))
              rw [← hw6]
              clear hw6
              have hg2l := hR.ex.choose_spec.1.lt
              refine (HCG.out w6 (hR.ext x6)).mono ?_
              rintro e w7 ⟨⟨v, rfl, Ax, cx, rfl, Sx⟩, A7, R7⟩
              have P7 := R7.chg.at P6 (by simp; omega)
              have e7 := cellsAt_at P7
              have s7 := P7.lt
              have y7 : Ext w w7 := R7.extOf (hx3.trans x6) hg2w
              have Rb7 := (hRb.ext x6).chg R7.chg hgb
              go_wp2_with fail
              go_roundw
              case rel => exact ⟨k + 1, A7, by go_num, by omega, by rw [HREST.out]; exact R7.rd.alloc _, y7.alloc _, Rb7.alloc _⟩
              case measure => simp [intOf]; omega
            · rw [show backZ 3 sz rx = sz from rfl] at hgb2
              have CG := C sz n psz
              rw [hgb2] at CG
              simp only [backNn, backSs, backX, show ((3 : Int) = 1) = False by simp, show ((3 : Int) = 2) = False by simp, show ((3 : Int) = 3) = True by simp, show ((3 : Int) = 4) = False by simp, if_false, if_true] at CG
              have HCG := Lib.hid CG
              clear C CG hgb2
              go_wp2_with fail
              obtain ⟨w6, hw6⟩ : ∃ w6 : World, w6 = wr.alloc (.cells #[.int .i64 3, .int .i64 sz, .int .u64 (n : Int), .int .i64 s, .slice RA rx.length Rc] 37) := ⟨_, rfl⟩
              have x6 : Ext wr w6 := by rw [hw6]; exact (by repeat (first | (with_reducible exact Ext.refl _) | (with_reducible assumption) | (with_reducible refine Ext.alloc ?_ _) | (with_reducible refine Ext.drew ?_) | (with_reducible refine Ext.drewN ?_ _) | (with_reducible refine Ext.setCell ?_ (by simp; try omega) _) | (with_reducible refine Ext.setRow ?_ (by simp; try omega) _)))
              have P6 : At w6 wr.heap.size 37 #[.int .i64 3, .int .i64 sz, .int .u64 (n : Int), .int .i64 s, .slice RA rx.length Rc] := by rw [hw6]; exact (by repeat (first | (with_reducible exact At.new _ _ _) | ((with_reducible refine At.new' _ _ _ _ ?_); simp; done) | (with_reducible assumption) | (with_reducible refine At.drew ?_) | (with_reducible refine At.alloc ?_ _) | (with_reducible apply At.upd) | (with_reducible apply At.setRow) | (with_reducible refine At.rowFar ?_ (by first | (simp; done) | (simp; omega) | omega) _) | ((with_reducible refine At.far ?_ (by first | (simp; done) | (simp; omega) | omega) _)) | (with_reducible rfl) | (simp; done)))
              rw [← hw6]
              clear hw6
              have hg2l := hR.ex.choose_spec.1.lt
              refine (HCG.out w6 (hR.ext x6)).mono ?_
              rintro e w7 ⟨⟨v, rfl, Ax, cx, rfl, Sx⟩, A7, R7⟩
              have P7 := R7.chg.at P6 (by simp; omega)
              have e7 := cellsAt_at P7
              have s7 := P7.lt
              have y7 : Ext w w7 := R7.extOf (hx3.trans x6) hg2w
              have Rb7 := (hRb.ext x6).chg R7.chg hgb
              go_wp2_with fail
              go_roundw
              case rel => exact ⟨k + 1, A7, by go_num, by omega, by rw [HREST.out]; exact R7.rd.alloc _, y7.alloc _, Rb7.alloc _⟩
              case measure => simp [intOf]; omega
            · rw [show backZ 4 sz rx = (rx.length : Int) from rfl] at hgb2
              have CG := C (rx.length : Int) n ⟨by omega, by omega⟩
              rw [hgb2] at CG
              simp only [backNn, backSs, backX, show ((4 : Int) = 1) = False by simp, show ((4 : Int) = 2) = False by simp, show ((4 : Int) = 3) = False by simp, show ((4 : Int) = 4) = True by simp, if_false, if_true] at CG
              have HCG := Lib.hid CG
              clear C CG hgb2
              go_wp2_with fail
              obtain ⟨w6, hw6⟩ : ∃ w6 : World, w6 = wr.alloc (.cells #[.int .i64 4, .int .i64 (rx.length : Int), .int .u64 (n : Int), .int .i64 s, .slice RA rx.length Rc] 37) := ⟨_, rfl⟩
              have x6 : Ext wr w6 := by rw [hw6]; exact (by repeat (first | (with_reducible exact Ext.refl _) | (with_reducible assumption) | (with_reducible refine Ext.alloc ?_ _) | (with_reducible refine Ext.drew ?_) | (with_reducible refine Ext.drewN ?_ _) | (with_reducible refine Ext.setCell ?_ (by simp; try omega) _) | (with_reducible refine Ext.setRow ?_ (by simp; try omega) _)))
              have P6 : At w6 wr.heap.size 37 #[.int .i64 4, .int .i64 (rx.length : Int), .int .u64 (n : Int), .int .i64 s, .slice RA rx.length Rc] := by rw [hw6]; exact (by repeat (first | (with_reducible exact At.new _ _ _) | ((with_reducible refine At.new' _ _ _ _ ?_); simp; done) | (with_reducible assumption) | (with_reducible refine At.drew ?_) | (with_reducible refine At.alloc ?_ _) | (with_reducible apply At.upd) | (with_reducible apply At.setRow) | (with_reducible refine At.rowFar ?_ (by first | (simp; done) | (simp; omega) | omega) _) | ((with_reducible refine At.far ?_ (by first | (simp; done) | (simp; omega) | omega) _)) | (with_reducible rfl) | (simp; done)))
              rw [← hw6]
              clear hw6
              have hg2l := hR.ex.choose_spec.1.lt
              refine (HCG.out w6 (hR.ext x6)).mono ?_
              rintro e w7 ⟨⟨v, rfl, Ax, cx, rfl, Sx⟩, A7, R7⟩
              have P7 := R7.chg.at P6 (by simp; omega)
              have e7 := cellsAt_at P7
              have s7 := P7.lt
              have y7 : Ext w w7 := R7.extOf (hx3.trans x6) hg2w
              have Rb7 := (hRb.ext x6).chg R7.chg hgb
              go_wp2_with fail
              obtain ⟨w8, hw8⟩ : ∃ w8 : World, w8 = w7.alloc (.cells #[.int .u64 0, .int .i64 0, .slice Ax rx.length cx, .int .i64 0, .int .i64 0] 43) := ⟨_, rfl⟩
              have x8 : Ext w7 w8 := by rw [hw8]; exact (by repeat (first | (with_reducible exact Ext.refl _) | (with_reducible assumption) | (with_reducible refine Ext.alloc ?_ _) | (with_reducible refine Ext.drew ?_) | (with_reducible refine Ext.drewN ?_ _) | (with_reducible refine Ext.setCell ?_ (by simp; try omega) _) | (with_reducible refine Ext.setRow ?_ (by simp; try omega) _)))
              rw [← hw8]
              clear hw8
              refine (same_c Ax RA _ _ cx Rc rx rx w8 (Sx.ext x8) (psr.ext (y7.trans x8)) pby pby).mono ?_
              rintro e w9 ⟨rfl, hx9⟩
              have P9 := (P7.ext x8).ext hx9
              have e9 := cellsAt_at P9
              have s9 := P9.lt
              have y9 := x8.trans hx9
              go_wp2_with fail
              go_roundw
              case rel => exact ⟨k + 1, A7, by go_num, by omega, by rw [HREST.out]; exact R7.rd.ext y9, y7.trans y9, Rb7.ext y9⟩
              case measure => simp [intOf]; omega
          · obtain rfl : k = l.length := by omega
            rw [List.drop_length] at hR
            have hnil : forms ([] : List Pt) = [] := rfl
            rw [hnil] at hR
            have hlen0 : (([] : List Int).length : Int) = 0 := rfl
            go_wp2_with fail
            refine (left_c g2 A2 [] 0 _ hR).mono ?_
            rintro e w7 ⟨rfl, x7⟩
            go_wp2_with fail
            refine (fault_c g2 A2 [] 0 _ (hR.ext x7)).mono ?_
            rintro e w8 ⟨rfl, x8⟩
            have y8 := (hx3.trans x7).trans x8
            have Rb8 := (hRb.ext x7).ext x8
            by_cases m1 : less < 1
            · go_wp2_with fail
              refine (alive_c _).mono ?_
              rintro e w9 ⟨rfl, x9⟩
              go_wp2_with fail
              first | refine fin_ret rfl (fun K hK => ?_) | refine fin_norm rfl (fun K hK => ?_)
              simp [results, Try.results6, go_sem, rsat]
              try go_simp
              refine hK _ ?_
              clear hK K
              exact ⟨rfl, y8.trans x9⟩
            by_cases m2 : ((forms l).length : Int) < less
            · go_wp2_with fail
              refine (alive_c _).mono ?_
              rintro e w9 ⟨rfl, x9⟩
              go_wp2_with fail
              first | refine fin_ret rfl (fun K hK => ?_) | refine fin_norm rfl (fun K hK => ?_)
              simp [results, Try.results6, go_sem, rsat]
              try go_simp
              refine hK _ ?_
              clear hK K
              exact ⟨rfl, y8.trans x9⟩
            obtain ⟨m, rfl⟩ : ∃ m : Nat, less = (m : Int) := ⟨less.toNat, by omega⟩
            obtain ⟨N, hN⟩ : ∃ N, N = (forms l).length - m := ⟨_, rfl⟩
            have hNl : ((forms l).take N).length = N := by rw [List.length_take]; omega
            have hcut := Rb8.takeN (k := N) (by omega)
            rw [Nat.mul_one, show (bc (forms l)).take N = bc ((forms l).take N) from List.map_take.symm] at hcut
            have hlack0 : Lack (forms l) ((forms l).take N) 0 := .inr ⟨rfl, by rw [hNl]; omega, by rw [hNl]⟩
            have hNw : IntKind.i64.wrap (((forms l).length : Int) - (m : Int)) = (N : Int) := by rw [IntWalk.i64_left, wrap64_in ⟨by omega, by omega⟩]; omega
            have hNz : wrap64 (((forms l).length : Int) - (m : Int)) = (N : Int) := by rw [wrap64_in ⟨by omega, by omega⟩]; omega
            have hNe : ((forms l).length : Int) - (m : Int) = (N : Int) := by omega
            have hNc : N ≤ cb := by omega
            have hty : Byt ((forms l).take N) := fun y hy => hfy y (List.mem_of_mem_take hy)
            generalize hts : (forms l).take N = ts at hNl hcut hlack0 hty
            have HTS := Lib.hid hts
            have HNN := Lib.hid hN
            clear hts hN
            subst hNl
            go_wp2_with fail
            have hts28 : ts.length ≤ 2800 := by omega
            clear hNw hNz hNe HNN HTS hRb Rb8 hR
            refine (newreader_c Ab ts cb w8 hcut.src hty (by omega)).mono ?_
            rintro e w9 ⟨x9, g3, A9, rfl, r9, hg9, _⟩
            have y9 := y8.trans x9
            have hg3w : w.heap.size ≤ g3 := Nat.le_trans y8.size hg9
            clear hcut
            go_wp2_with fail
            go_loopw [12] (fun i wq => ∃ (k : Nat) (A2 : Option Addr) (rs : List Int) (f : Int), i = .int .i64 k ∧ k ≤ l.length ∧ Rdr wq g3 A2 rs f ∧ Ext w wq ∧ Lack (forms (l.drop k)) rs f ∧ rs.length ≤ 2800) (fun i _ => l.length - (intOf i).toNat)
            case atStart => exact ⟨0, A9, ts, 0, rfl, by omega, r9, y9, hlack0, hts28⟩
            case round =>
              obtain ⟨k, A2, rs, f, rfl, hk, hR, hx3, hlk, hrs⟩ := hrel
              by_cases hlt : k < l.length
              · obtain ⟨b, off, hA, hb, hs⟩ := h.elem k hlt
                simp only at hA hs
                subst hA
                have hfd := forms_drop hlt
                have hv := HVV.out k hlt
                have pok := h.ok l[k] (List.getElem_mem _)
                have prl := l60 l[k] (List.getElem_mem _)
                generalize l[k] = p at hs hfd hv pok prl
                obtain ⟨kd, sz, n, s, ⟨RA, Rc, rx⟩⟩ := p
                simp only at hs hfd hv pok prl
                have hs1 := (subAt_ext hx3 hb).trans hs
                have hbr : b < wr.heap.size := Nat.lt_of_lt_of_le hb hx3.size
                rw [hfd] at hlk
                have hstep := lack_step (xs := rx) hv pok.n pok.s (forms (l.drop (k + 1))) rs f hlk
                have hle := rest_le kd (backZ kd sz rx) rs f
                have psz := pok.size
                simp only at psz
                have C := fun (z' : Int) (hz' : I64 z') W (hW : Rdr W g3 A2 rs f) => gotp_c g3 A2 rs f kd z' n s RA rx.length Rc hz' W hW (by omega)
                clear hfd pok hlk
                by_cases h4 : kd = 4
                · subst h4
                  rw [show backZ 4 sz rx = (rx.length : Int) from rfl] at hstep hle
                  have CG := C (rx.length : Int) ⟨by omega, by omega⟩
                  generalize gotR 4 (rx.length : Int) rs f = gr at CG hstep hle
                  obtain ⟨gn, gs, graw, grest, gf⟩ := gr
                  simp only at CG hstep hle
                  have HCG := Lib.hid CG
                  have HST := Lib.hid hstep
                  clear C CG hstep hv
                  go_wp2_with fail
                  obtain ⟨w6, hw6⟩ : ∃ w6 : World, w6 = wr.alloc (.cells #[.int .i64 4, .int .i64 (rx.length : Int), .int .u64 (n : Int), .int .i64 s, .slice RA rx.length Rc] 37) := ⟨_, rfl⟩
                  have x6 : Ext wr w6 := by rw [hw6]; exact (by repeat (first | (with_reducible exact Ext.refl _) | (with_reducible assumption) | (with_reducible refine Ext.alloc ?_ _) | (with_reducible refine Ext.drew ?_) | (with_reducible refine Ext.drewN ?_ _) | (with_reducible refine Ext.setCell ?_ (by simp; try omega) _) | (with_reducible refine Ext.setRow ?_ (by simp; try omega) _)))
                  rw [← hw6]
                  clear hw6
                  refine (HCG.out w6 (hR.ext x6)).mono ?_
                  rintro e w7 ⟨⟨v, rfl, Ax, cx, rfl, Sx⟩, A7, R7⟩
                  have y7 : Ext w w7 := R7.extOf (hx3.trans x6) hg3w
                  go_wp2_with fail
                  go_roundw
                  case rel => exact ⟨k + 1, A7, grest, gf, by go_num, by omega, R7.rd, y7, HST.out, by omega⟩
                  case measure => simp [intOf]; omega
                · have h4b := beqI h4
                  rw [show backZ kd sz rx = sz from if_neg h4] at hstep hle
                  have CG := C sz psz
                  generalize gotR kd sz rs f = gr at CG hstep hle
                  obtain ⟨gn, gs, graw, grest, gf⟩ := gr
                  simp only at CG hstep hle
                  have HCG := Lib.hid CG
                  have HST := Lib.hid hstep
                  clear C CG hstep hv
                  go_wp2_with fail
                  obtain ⟨w6, hw6⟩ : ∃ w6 : World, w6 = wr.alloc (.cells #[.int .i64 kd, .int .i64 sz, .int .u64 (n : Int), .int .i64 s, .slice RA rx.length Rc] 37) := ⟨_, rfl⟩
                  have x6 : Ext wr w6 := by rw [hw6]; exact (by repeat (first | (with_reducible exact Ext.refl _) | (with_reducible assumption) | (with_reducible refine Ext.alloc ?_ _) | (with_reducible refine Ext.drew ?_) | (with_reducible refine Ext.drewN ?_ _) | (with_reducible refine Ext.setCell ?_ (by simp; try omega) _) | (with_reducible refine Ext.setRow ?_ (by simp; try omega) _)))
                  rw [← hw6]
                  clear hw6
                  refine (HCG.out w6 (hR.ext x6)).mono ?_
                  rintro e w7 ⟨⟨v, rfl, Ax, cx, rfl, Sx⟩, A7, R7⟩
                  have y7 : Ext w w7 := R7.extOf (hx3.trans x6) hg3w
                  go_wp2_with fail
                  go_roundw
                  case rel => exact ⟨k + 1, A7, grest, gf, by go_num, by omega, R7.rd, y7, HST.out, by omega⟩
                  case measure => simp [intOf]; omega
              · obtain rfl : k = l.length := by omega
                rw [List.drop_length] at hlk
                have hf3 := lack_end hlk
                subst hf3
                go_wp2_with fail
                refine (fault_c g3 A2 rs 3 _ hR).mono ?_
                rintro e w10 ⟨rfl, x10⟩
                go_wp2_with fail
                refine (alive_c _).mono ?_
                rintro e w11 ⟨rfl, x11⟩
                go_wp2_with fail
                first | refine fin_ret rfl (fun K hK => ?_) | refine fin_norm rfl (fun K hK => ?_)
                simp [results, Try.results6, go_sem, rsat]
                try go_simp
                refine hK _ ?_
                clear hK K
                exact ⟨rfl, (hx3.trans x10).trans x11⟩
end Go.Proofs.Ytliccefjdieclaa
