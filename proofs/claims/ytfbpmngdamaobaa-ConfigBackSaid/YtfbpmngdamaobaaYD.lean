/- Configurations (layer 7): Read by the program. Condition: at most 10^9 bytes. -/
import Derived.Test.YtfbpmngdamaobaaYRB
import Derived.Test.YtfbpmngdamaobaaRU
namespace Go.Proofs.Ytfbpmngdamaobaa
open Go.RowKit
attribute [local go_sem] Later.cell QUpon_value QUpon_enter MUpon_value cellsAt_sameY Same.cell
attribute [local go_sem ↓ high] loadSym_is storeSym_is loadCfg_is storeCfg_is loadCll_is storeCll_is loadCl6_is storeCl6_is loadClx_is storeClx_is
attribute [local go_sem] run_loadSym run_loadSym_at run_storeSym run_loadCfg run_loadCfg_at run_storeCfg run_loadCll run_loadCll_at run_storeCll run_loadCl6 run_loadCl6_at run_storeCl6 run_loadClx run_loadClx_at run_storeClx one_int one_bool one_slice one_ptr one_str setRow_new setRow_past cell_ca frozen_ca cellsAt_alloc_at cellsAt_alloc_past cellsAt_drew cellsAt_later cellsAt_setCell cellsAt_set_same cellsAt_setRow_same cellsAt_setRow_far subAt_alloc subAt_drew subAt_later subAt_setCell subAt_setRow ltn_2 ltn_3 ltn_4 ltn_5
structure ReadC (bs : List Int) (w : World) (e : Ending) (w' : World) : Prop where
  ext : Ext w w'
  is : ∃ x : Cfg, e = .returned (.tuple #[.agg #[.slice x.A x.l.length x.c, .slice x.B x.t.length x.d, .int .i64 x.ix, .int .i64 x.f1, .int .i64 x.f2, .int .i64 x.f3, .int .i64 x.h1, .int .i64 x.h2], .int .i64 (readS bs).2]) ∧ x.At w' ∧ x.l = (readS bs).1.l ∧ x.t = (readS bs).1.t ∧ restN x = (readS bs).1.r
theorem ReadC.fail {bs : List Int} {w w3 : World} {f : Int} (h : readS bs = (cf0, f)) (hx : Ext w w3) : ReadC bs w (.returned (.tuple #[.agg #[.slice none 0 0, .slice none 0 0, .int .i64 0, .int .i64 0, .int .i64 0, .int .i64 0, .int .i64 0, .int .i64 0], .int .i64 f])) w3 := by
  refine ⟨hx, ⟨none, 0, [], none, 0, [], 0, 0, 0, 0, 0, 0⟩, by rw [h]; rfl, ?_, by rw [h]; rfl, by rw [h]; rfl, by rw [h]; rfl⟩
  have hz : I64 0 := by constructor <;> omega
  exact ⟨⟨Nat.le_refl _, Nat.zero_le _, ⟨rfl, fun h => absurd h (Nat.lt_irrefl _)⟩⟩, fun _ h => absurd h (List.not_mem_nil), ⟨Nat.le_refl _, Nat.zero_le _, ⟨rfl, fun h => absurd h (Nat.lt_irrefl _)⟩⟩, fun _ h => absurd h (List.not_mem_nil), hz, hz, hz, hz, hz, hz⟩
theorem symOf_set (n : Int) : ∀ l : List Int, l.length < 16 → (symOf l).cells.toArray.setIfInBounds l.length (.int .i64 n) = (symOf (l ++ [n])).cells.toArray
  | [], _ => rfl
  | [_], _ => rfl
  | [_, _], _ => rfl
  | [_, _, _], _ => rfl
  | [_, _, _, _], _ => rfl
  | [_, _, _, _, _], _ => rfl
  | [_, _, _, _, _, _], _ => rfl
  | [_, _, _, _, _, _, _], _ => rfl
  | [_, _, _, _, _, _, _, _], _ => rfl
  | [_, _, _, _, _, _, _, _, _], _ => rfl
  | [_, _, _, _, _, _, _, _, _, _], _ => rfl
  | [_, _, _, _, _, _, _, _, _, _, _], _ => rfl
  | [_, _, _, _, _, _, _, _, _, _, _, _], _ => rfl
  | [_, _, _, _, _, _, _, _, _, _, _, _, _], _ => rfl
  | [_, _, _, _, _, _, _, _, _, _, _, _, _, _], _ => rfl
  | [_, _, _, _, _, _, _, _, _, _, _, _, _, _, _], _ => rfl
  | _ :: _ :: _ :: _ :: _ :: _ :: _ :: _ :: _ :: _ :: _ :: _ :: _ :: _ :: _ :: _ :: _, h => by simp at h; omega
def symZ7 : Value := .agg #[.int .i64 0, .int .i64 0, .int .i64 0, .int .i64 0, .int .i64 0, .int .i64 0, .int .i64 0, .int .i64 0, .int .i64 0, .int .i64 0, .int .i64 0, .int .i64 0, .int .i64 0, .int .i64 0, .int .i64 0, .int .i64 0]
theorem symInfo7 : (Try.prog.info? 35).map (fun i => (i.zero, i.size, i.bytes)) = some (some symZ7, 16, 128) := by kernel_rfl
def rowZ7 : Value := .agg #[.int .i64 0, .int .i64 0]
theorem rowInfo7 : (Try.prog.info? 54).map (fun i => (i.zero, i.size, i.bytes)) = some (some rowZ7, 2, 16) := by kernel_rfl
def cfgP (D : Option Addr) (k d : Nat) (E : Option Addr) (j e : Nat) (l : List Int) : Array Value := #[.slice D k d, .slice E j e, .int .i64 (l.getD 0 0), .int .i64 (l.getD 1 0), .int .i64 (l.getD 2 0), .int .i64 (l.getD 3 0), .int .i64 (l.getD 4 0), .int .i64 (l.getD 5 0)]
theorem cfgP_set (D : Option Addr) (k d : Nat) (E : Option Addr) (j e : Nat) (n : Int) : ∀ l : List Int, l.length < 6 → (cfgP D k d E j e l).setIfInBounds (2 + l.length) (.int .i64 n) = cfgP D k d E j e (l ++ [n])
  | [], _ => rfl
  | [_], _ => rfl
  | [_, _], _ => rfl
  | [_, _, _], _ => rfl
  | [_, _, _, _], _ => rfl
  | [_, _, _, _, _], _ => rfl
  | _ :: _ :: _ :: _ :: _ :: _ :: _, h => by simp at h; omega
def cfgZ : Array Value := #[.slice none 0 0, .slice none 0 0, .int .i64 0, .int .i64 0, .int .i64 0, .int .i64 0, .int .i64 0, .int .i64 0]
set_option maxHeartbeats 8000000 in
set_option maxRecDepth 100000 in
theorem cread_c (B : Option Addr) (cb : Nat) (bs : List Int) (hb : Byt bs) (hl : bs.length ≤ 1000000000) (w : World) (hS : Src w 1 B bs.length (bc bs)) : Calls Try.prog 20 #[.slice B bs.length cb] w fun e w' => ReadC bs w e w' := by
  go_enter Try.func20, Try.ntmps20
  go_wp2_with fail
  refine (newreader_c B bs cb _ (hS.ext ((Ext.refl w).alloc _)) hb hl).mono ?_
  rintro e w1 ⟨hx1, q, A, rfl, hRd, hq, hA⟩
  have Z1 := (At.new w 27 cfgZ).ext hx1
  go_wp2_with fail
  have hwq : w.heap.size < q := by simp at hq; omega
  have hwA : ∀ k ∈ ablk A, w.heap.size < k := fun k hk => by have := hA k hk; simp at this; omega
  have x1 : Ext w w1 := ((Ext.refl w).alloc _).trans hx1
  have hw1 : w.heap.size < w1.heap.size := by have := hx1.size; simp at this; omega
  have S0 := (RdS.start (w := w) hRd x1 (by omega) (fun k hk => by have := hwA k hk; omega) 35 16).hold (Z1.alloc _) (Nat.le_refl _) (by omega) (by omega) (fun hm => by have := hwA _ hm; omega) (by simp) (by simp [ablk])
  have S1 := S0.new 27 cfgZ
  rw [World.size_alloc] at S1
  clear S0 Z1 hRd
  unfold cfgZ at S1
  obtain ⟨A1, hA1, hb1⟩ := S1.rd
  have CC := ccount_c _ _ _ _ 8 (by decide) _ hA1
  have hrs : readS bs = readS bs := rfl
  conv at hrs => rhs; unfold readS
  generalize w1.heap.size + 1 = gc at *
  generalize w1.heap.size = g at *
  generalize hgr : w.heap.size = gr at *
  have hg0 : (cntS ⟨bs, 0, false⟩).2.g = false := rfl
  generalize hc1 : cntS ⟨bs, 0, false⟩ = c1 at *
  obtain ⟨n1, s1⟩ := c1
  simp only at CC hrs
  refine CC.mono ?_
  rintro e w2 ⟨rfl, A2, R2⟩
  have S2 := S1.num hb1 R2
  clear CC S1 R2 hA1 hb1 A1 A2
  by_cases h8 : 8 < n1
  · rw [if_pos h8] at hrs
    rw [decide_eq_false (by omega : ¬ n1 ≤ 8)]
    have K0 := (S2.kept _ (.tail _ (.head _))).1
    simp only at K0
    have ek := cellsAt_at K0
    have sk := K0.lt
    have HRS := Lib.hid hrs
    clear hrs
    go_wp2_with fail
    generalize hw3 : w2.setRow gr _ = w3
    have K3 : At w3 gr 27 #[.slice none 0 0, .slice none 0 0, .int .i64 0, .int .i64 0, .int .i64 0, .int .i64 0, .int .i64 0, .int .i64 0] := by rw [← hw3]; exact K0.setRow _
    have x3 : Ext w w3 := by rw [← hw3]; exact S2.ext.setRow (by omega) _
    clear hw3 ek sk K0
    have ek := cellsAt_at K3
    have sk := K3.lt
    first | refine fin_ret rfl (fun K hK => ?_) | refine fin_norm rfl (fun K hK => ?_)
    simp [results, Try.results20, go_sem, rsat]
    try go_simp
    refine hK _ ?_
    clear hK K
    exact ReadC.fail HRS.out x3
  · rw [if_neg h8] at hrs
    rw [decide_eq_true (by omega : n1 ≤ 8), Nat.min_eq_left (by omega : n1 ≤ 8)]
    have K0 := (S2.kept _ (.head _)).1
    have HRS := Lib.hid hrs
    clear hrs
    go_wp2_with fail
    go_loopw [33] (fun i wr => ∃ (k : Nat) (D : Option Addr) (d : Nat), i = .int .i64 k ∧ k ≤ n1 ∧ RdS w wr g q A (seqV (symV7 numS) k s1).2 [⟨gc, 27, #[.slice D k d, .slice none 0 0, .int .i64 0, .int .i64 0, .int .i64 0, .int .i64 0, .int .i64 0, .int .i64 0]⟩, ⟨gr, 27, #[.slice none 0 0, .slice none 0 0, .int .i64 0, .int .i64 0, .int .i64 0, .int .i64 0, .int .i64 0, .int .i64 0]⟩] 35 16 D k d ((seqV (symV7 numS) k s1).1.flatMap Sym.cells)) (fun i _ => n1 - (intOf i).toNat)
    case atStart => exact ⟨0, none, 0, rfl, Nat.zero_le _, by rw [seqV_zero]; exact S2⟩
    case round =>
      clear S2 K0
      obtain ⟨k, D, d, rfl, hk, S⟩ := hrel
      by_cases hk1 : k < n1
      · have T1 := S.new 35 (symOf []).cells.toArray
        have hgs : wr.heap.size < wr.heap.size + 1 := Nat.lt_succ_self _
        go_wp2_with fail
        refine (cells_c wr.heap.size _ (by simp)).mono ?_
        rintro e w3 ⟨rfl, hx3⟩
        have T3 := T1.extR hx3
        clear T1 hx3
        generalize hgs0 : wr.heap.size = gs at *
        go_wp2_with fail
        go_loopw [36] (fun i wz => ∃ j : Nat, i = .int .i64 j ∧ j ≤ 16 ∧ RdS w wz g q A (seqV numS j (seqV (symV7 numS) k s1).2).2 [⟨gs, 35, (symOf (seqV numS j (seqV (symV7 numS) k s1).2).1).cells.toArray⟩, ⟨gc, 27, #[.slice D k d, .slice none 0 0, .int .i64 0, .int .i64 0, .int .i64 0, .int .i64 0, .int .i64 0, .int .i64 0]⟩, ⟨gr, 27, #[.slice none 0 0, .slice none 0 0, .int .i64 0, .int .i64 0, .int .i64 0, .int .i64 0, .int .i64 0, .int .i64 0]⟩] 35 16 D k d ((seqV (symV7 numS) k s1).1.flatMap Sym.cells)) (fun i _ => 16 - (intOf i).toNat)
        case atStart => exact ⟨0, rfl, Nat.zero_le _, by rw [seqV_zero]; exact T3⟩
        case round =>
          clear T3
          obtain ⟨j, rfl, hj, T⟩ := hrel
          by_cases hj1 : j < 16
          · obtain ⟨u, v, hcv, hcl⟩ := cell_at gs j hj1
            have ix : ∀ W, (Instr.index 68 (.agg (cellsV gs)) (.int .i64 (j : Nat))).run Try.prog W = .ok (.agg #[u, v]) W := fun W => by rw [← hcv]; exact ixcell_c gs W j hj1
            have T1 := T.new 67 #[u, v]
            obtain ⟨A1, hA1, hb1⟩ := T1.rd
            have HCN := Lib.hid (fun W hA => cnum_c g q A1 (seqV numS j (seqV (symV7 numS) k s1).2).2 W hA)
            have HC2 := Lib.hid (fun n t cs W hk hA => set_c u v gs j n t cs W hcl hk hA)
            have HA1 := Lib.hid hA1
            clear hA1
            have hclis := hcl.is
            clear hcl hcv
            rcases hclis with ⟨rfl, rfl⟩ | ⟨rfl, rfl⟩
            all_goals
              go_wp2_with fail
            · generalize hgk : wr.heap.size = gk at *
              generalize hwv : wr.alloc _ = wv at *
              have K0 := (T1.kept _ (.head _)).1
              simp only at K0
              have e0 := cellsAt_at K0
              have s0 := K0.lt
              refine wp_region_s [0, 0, 1, 1] (fun x => ∀ b ∈ [gk], x.heap[b]? = wv.heap[b]?) (by kernel_rfl) (by kernel_rfl) ?_
              refine hls_same (fun K hK => ?_)
              go_simp
              refine hK _ ?_
              clear hK K
              refine hls_same (fun K hK => ?_)
              go_simp
              refine hK _ ?_
              clear hK K
              refine hls_skip (by decide) ?_
              refine hls_skip (by decide) ?_
              refine hls_nil ?_
              intro wx hxwx K hK
              have TX := T1.extR hxwx
              have same1 : ∀ b ∈ [gk], wx.heap[b]? = wv.heap[b]? := fun b hb => by simp at hb; subst hb; exact hxwx.block _ s0
              obtain ⟨AX, hAX, hbX⟩ := TX.rd
              refine ms_pass ?_
              refine ms_pass ?_
              refine ms_do (by decide) (same1) (fun K' hK' => ?_)
              go_wp2_with fail
              refine (cnum_c g q AX _ wx hAX).mono ?_
              rintro e wy ⟨rfl, AY, RY⟩
              have TY := TX.num hbX RY
              have KY := (TY.kept _ (.head _)).1
              have KS := (TY.kept _ (.tail _ (.head _))).1
              simp only at KY KS
              have hne : gk ≠ gs := by have := TY.nd; simp at this; exact fun h => this.1.1 h
              have hlen := seqV_len numS (seqV (symV7 numS) k s1).2 j
              have hset := symOf_set (numS (seqV numS j (seqV (symV7 numS) k s1).2).2).1 (seqV numS j (seqV (symV7 numS) k s1).2).1 (by omega)
              rw [hlen] at hset
              have HSET := Lib.hid hset
              clear hset hlen
              go_wp2_with fail
              refine ms_do (by decide) (fun b hb => by simp at hb; subst hb; exact KY.trans K0.symm) (fun K' hK' => ?_)
              go_wp2_with fail
              refine (HC2.out _ 35 (symOf (seqV numS j (seqV (symV7 numS) k s1).2).1).cells.toArray wy hj1 KS).mono ?_
              rintro e wu ⟨rfl, aU, cU⟩
              rw [HSET.out] at aU
              have TU := (TY.less (List.sublist_cons_self _ _)).put cU aU
              have KU := cU.at KY (by simpa using hne)
              go_wp2_with fail
              refine ms_nil (fun b hb => by simp at hb; subst hb; exact KU.trans K0.symm) (hK _ _ ?_)
              go_wp2_with fail
              go_roundw
              case rel => exact ⟨j + 1, by go_num, by omega, by rw [seqV_succ]; exact TU⟩
              case measure => simp [intOf]; omega
            · generalize hgk : wr.heap.size = gk at *
              generalize hwv : wr.alloc _ = wv at *
              have K0 := (T1.kept _ (.head _)).1
              simp only at K0
              have e0 := cellsAt_at K0
              have s0 := K0.lt
              refine wp_region_s [0, 0, 1, 1] (fun x => ∀ b ∈ [gk], x.heap[b]? = wv.heap[b]?) (by kernel_rfl) (by kernel_rfl) ?_
              refine hls_same (fun K hK => ?_)
              go_simp
              refine hK _ ?_
              clear hK K
              refine hls_same (fun K hK => ?_)
              go_simp
              refine hK _ ?_
              clear hK K
              refine hls_skip (by decide) ?_
              refine hls_skip (by decide) ?_
              refine hls_nil ?_
              intro wx hxwx K hK
              have TX := T1.extR hxwx
              have same1 : ∀ b ∈ [gk], wx.heap[b]? = wv.heap[b]? := fun b hb => by simp at hb; subst hb; exact hxwx.block _ s0
              obtain ⟨AX, hAX, hbX⟩ := TX.rd
              refine ms_pass ?_
              refine ms_pass ?_
              refine ms_do (by decide) (same1) (fun K' hK' => ?_)
              go_wp2_with fail
              refine (cnum_c g q AX _ wx hAX).mono ?_
              rintro e wy ⟨rfl, AY, RY⟩
              have TY := TX.num hbX RY
              have KY := (TY.kept _ (.head _)).1
              have KS := (TY.kept _ (.tail _ (.head _))).1
              simp only at KY KS
              have hne : gk ≠ gs := by have := TY.nd; simp at this; exact fun h => this.1.1 h
              have hlen := seqV_len numS (seqV (symV7 numS) k s1).2 j
              have hset := symOf_set (numS (seqV numS j (seqV (symV7 numS) k s1).2).2).1 (seqV numS j (seqV (symV7 numS) k s1).2).1 (by omega)
              rw [hlen] at hset
              have HSET := Lib.hid hset
              clear hset hlen
              go_wp2_with fail
              refine ms_do (by decide) (fun b hb => by simp at hb; subst hb; exact KY.trans K0.symm) (fun K' hK' => ?_)
              go_wp2_with fail
              refine (HC2.out _ 35 (symOf (seqV numS j (seqV (symV7 numS) k s1).2).1).cells.toArray wy hj1 KS).mono ?_
              rintro e wu ⟨rfl, aU, cU⟩
              rw [HSET.out] at aU
              have TU := (TY.less (List.sublist_cons_self _ _)).put cU aU
              have KU := cU.at KY (by simpa using hne)
              go_wp2_with fail
              refine ms_nil (fun b hb => by simp at hb; subst hb; exact KU.trans K0.symm) (hK _ _ ?_)
              go_wp2_with fail
              go_roundw
              case rel => exact ⟨j + 1, by go_num, by omega, by rw [seqV_succ]; exact TU⟩
              case measure => simp [intOf]; omega
          · obtain rfl : j = 16 := by omega
            have K1 := (T.kept _ (.head _)).1
            have K2 := (T.kept _ (.tail _ (.head _))).1
            simp only at K1 K2
            have e1 := cellsAt_at K1
            have s1' := K1.lt
            have c2 : wr.cell? ⟨gc, 0, none⟩ = some (.slice D k d) := K2.cell 0
            have f2 := K2.frozen 0
            have s2 := K2.lt
            have hsl : (symV7 numS (seqV (symV7 numS) k s1).2) = (symOf (seqV numS 16 (seqV (symV7 numS) k s1).2).1, (seqV numS 16 (seqV (symV7 numS) k s1).2).2) := rfl
            generalize hu : symOf (seqV numS 16 (seqV (symV7 numS) k s1).2).1 = u at *
            have HSL := Lib.hid hsl
            clear hsl hu
            have e9 : cellsAt wr gs = #[.int .i64 u.grid, .int .i64 u.ref, .int .i64 u.stat, .int .i64 u.dyn, .int .i64 u.win, .int .i64 u.move, .int .i64 u.lim, .int .i64 u.pause, .int .i64 u.ext, .int .i64 u.mx, .int .i64 u.coll, .int .i64 u.wid, .int .i64 u.self, .int .i64 u.slots, .int .i64 u.lev, .int .i64 u.short] := e1
            clear e1
            go_wp2_with (at_builtin; refine wpList_rowcat rfl _ _ 22 35 16 128 symZ7 rfl Try.underlying22 symInfo7 rfl (by decide) _ D k d ((seqV (symV7 numS) k s1).1.flatMap Sym.cells) rfl (T.row.alloc _) _ 1 1 u.cells rfl (Src.at (At.new _ _ _) rfl) rfl (by unfold maxLen; omega) (by omega) ?_)
            intro D4 d4 w4 R4 C4 f4
            have TA := T.extR ((Ext.refl wr).alloc (.cells #[.int .i64 u.grid, .int .i64 u.ref, .int .i64 u.stat, .int .i64 u.dyn, .int .i64 u.win, .int .i64 u.move, .int .i64 u.lim, .int .i64 u.pause, .int .i64 u.ext, .int .i64 u.mx, .int .i64 u.coll, .int .i64 u.wid, .int .i64 u.self, .int .i64 u.slots, .int .i64 u.lev, .int .i64 u.short] 35))
            have T4 := TA.app R4 C4 (by simp only [World.size_alloc]; exact f4)
            have K4 := (T4.kept _ (.tail _ (.head _))).1
            simp only at K4
            have f5 := K4.frozen 0
            have c5 : w4.cell? ⟨gc, 0, none⟩ = some (.slice D k d) := K4.cell 0
            have s5 := K4.lt
            have TP := (T4.less (List.sublist_cons_self _ _)).put ((Chg.refl w4 [gc]).set (p := ⟨gc, 0, none⟩) (.inl (by simp)) (.slice D4 (k + 1) d4)) (K4.set 0 _)
            go_wp2_with fail
            go_roundw
            case rel => exact ⟨k + 1, D4, d4, by go_num, by omega, by rw [seqV_succ, HSL.out]; simp only [List.flatMap_append, List.flatMap_cons, List.flatMap_nil, List.append_nil]; exact TP⟩
            case measure => simp [intOf]; omega
      · obtain rfl : k = n1 := by omega
        obtain ⟨A1, hA1, hb1⟩ := S.rd
        have CC := ccount_c _ _ _ _ 20 (by decide) _ hA1
        have HCC := Lib.hid CC
        clear CC
        go_wp2_with fail
        refine HCC.out.mono ?_
        rintro e w3 ⟨rfl, A3, R3⟩
        have S3 := S.num hb1 R3
        clear S HCC R3 A1 A3 hb1 hA1
        have HRT := Lib.hid (show readS bs = (if 20 < (cntS (seqV (symV7 numS) k s1).2).1 then (cf0, 4) else tailV numS (seqV (symV7 numS) k s1).1 (cntS (seqV (symV7 numS) k s1).2).1 (cntS (seqV (symV7 numS) k s1).2).2) from HRS.out)
        clear HRS
        generalize hl1 : (seqV (symV7 numS) k s1).1 = l1 at *
        generalize hc2 : cntS (seqV (symV7 numS) k s1).2 = c2 at *
        obtain ⟨n2, s2⟩ := c2
        have HRT := Lib.hid (show readS bs = (if 20 < n2 then (cf0, 4) else tailV numS l1 n2 s2) from HRT.out)
        simp only at S3 ⊢
        by_cases h20 : 20 < n2
        · have HRU := Lib.hid (show readS bs = (cf0, 4) by rw [HRT.out, if_pos h20])
          clear HRT
          rw [decide_eq_false (by omega : ¬ n2 ≤ 20)]
          have K0 := (S3.kept _ (.tail _ (.head _))).1
          simp only at K0
          have ek := cellsAt_at K0
          have sk := K0.lt
          go_wp2_with fail
          generalize hw3 : w3.setRow gr _ = w4
          have K3 : At w4 gr 27 #[.slice none 0 0, .slice none 0 0, .int .i64 0, .int .i64 0, .int .i64 0, .int .i64 0, .int .i64 0, .int .i64 0] := by rw [← hw3]; exact K0.setRow _
          have x3 : Ext w w4 := by rw [← hw3]; exact S3.ext.setRow (by omega) _
          clear hw3 ek sk K0
          have ek := cellsAt_at K3
          have sk := K3.lt
          first | refine fin_ret rfl (fun K hK => ?_) | refine fin_norm rfl (fun K hK => ?_)
          simp [results, Try.results20, go_sem, rsat]
          try go_simp
          refine hK _ ?_
          clear hK K
          exact ReadC.fail HRU.out x3
        · have HRU := Lib.hid (show readS bs = tailV numS l1 n2 s2 by rw [HRT.out, if_neg h20])
          clear HRT
          rw [decide_eq_true (by omega : n2 ≤ 20), Nat.min_eq_left (by omega : n2 ≤ 20)]
          obtain ⟨Z, S4, hZ⟩ := S3.turnE 54 2
          have HZ := Lib.hid hZ
          clear hZ S3
          go_wp2_with fail
          go_loopw [60] (fun i wr => ∃ (j : Nat) (E : Option Addr) (e : Nat), i = .int .i64 j ∧ j ≤ n2 ∧ RdS w wr g q A (seqV (rowV7 numS) j s2).2 (⟨gc, 27, #[.slice D k d, .slice E j e, .int .i64 0, .int .i64 0, .int .i64 0, .int .i64 0, .int .i64 0, .int .i64 0]⟩ :: ⟨gr, 27, #[.slice none 0 0, .slice none 0 0, .int .i64 0, .int .i64 0, .int .i64 0, .int .i64 0, .int .i64 0, .int .i64 0]⟩ :: Z) 54 2 E j e ((seqV (rowV7 numS) j s2).1.flatMap Rw.cells)) (fun i _ => n2 - (intOf i).toNat)
          case atStart => exact ⟨0, none, 0, rfl, Nat.zero_le _, by rw [seqV_zero]; exact S4⟩
          case round =>
            clear S4
            obtain ⟨j, E, ec, rfl, hj, S⟩ := hrel
            by_cases hj1 : j < n2
            · obtain ⟨A1, hA1, hb1⟩ := S.rd
              go_wp2_with fail
              refine (cnum_c g q A1 _ wr hA1).mono ?_
              rintro e w5 ⟨rfl, A5, R5⟩
              have S5 := S.num hb1 R5
              have K5 := (S5.kept _ (.head _)).1
              simp only at K5
              have c5 : w5.cell? ⟨gc, 1, none⟩ = some (.slice E j ec) := K5.cell 1
              have g5 := K5.lt
              have SP : ∀ {W : World}, At W gc 27 #[.slice D k d, .slice E j ec, .int .i64 0, .int .i64 0, .int .i64 0, .int .i64 0, .int .i64 0, .int .i64 0] → ∀ b ∈ [gc], W.heap[b]? = w5.heap[b]? := fun h b hb => by rw [List.mem_singleton.1 hb]; exact h.trans K5.symm
              go_wp2_with fail
              refine wp_region_u [0, 0, 0, 0, 1, 1, 1, 1, 0, 1] (fun x => ∀ b ∈ [gc], x.heap[b]? = w5.heap[b]?) 5 [4, 5, 6, 7, 9] (by kernel_rfl) (by kernel_rfl) (by kernel_rfl) (by kernel_rfl) ?_
              refine hls_same (fun K hK => ?_)
              go_simp
              refine hK _ ?_
              clear hK K
              refine hls_same (fun K hK => ?_)
              go_simp
              refine hK _ ?_
              clear hK K
              refine hls_same (fun K hK => ?_)
              go_simp
              refine hK _ ?_
              clear hK K
              refine hls_same (fun K hK => ?_)
              go_simp
              refine hK _ ?_
              clear hK K
              refine hls_skip (by decide) ?_
              refine hls_skip (by decide) ?_
              refine hls_skip (by decide) ?_
              refine hls_skip (by decide) ?_
              refine hls_same (fun K hK => ?_)
              go_simp
              refine hK _ ?_
              clear hK K
              refine hls_skip (by decide) ?_
              refine hls_nil ?_
              intro w6 hxw6 Qy hQy
              have TX := S5.extR hxw6
              obtain ⟨AX, hAX, hbX⟩ := TX.rd
              clear c5
              refine utree_one 4 (by kernel_rfl) rfl (SP (TX.kept _ (.head _)).1) (utree_op rfl (fun K' hK' => ?_))
              go_wp2_with fail
              refine (cnum_c g q AX _ w6 hAX).mono ?_
              rintro e w7 ⟨rfl, A7, R7⟩
              have S7 := TX.num hbX R7
              go_wp2_with fail
              refine utree_one 5 (by kernel_rfl) rfl (SP (S7.kept _ (.head _)).1) (utree_op rfl (fun K' hK' => ?_))
              go_wp2_with fail
              refine utree_one 6 (by kernel_rfl) rfl (SP (S7.kept _ (.head _)).1) (utree_op rfl (fun K' hK' => ?_))
              go_wp2_with fail
              have hrl : rowV7 numS (seqV (rowV7 numS) j s2).2 = (⟨(numS (seqV (rowV7 numS) j s2).2).1, (numS (numS (seqV (rowV7 numS) j s2).2).2).1⟩, (numS (numS (seqV (rowV7 numS) j s2).2).2).2) := rfl
              have HRL := Lib.hid hrl
              clear hrl
              refine utree_one 7 (by kernel_rfl) rfl (SP ((S7.kept _ (.head _)).1.alloc _)) (utree_op rfl (fun K' hK' => ?_))
              refine wpList_rowcat rfl _ _ 23 54 2 16 rowZ7 rfl Try.underlying23 rowInfo7 rfl (by decide) _ E j ec ((seqV (rowV7 numS) j s2).1.flatMap Rw.cells) rfl (S7.row.alloc _) _ 1 1 [.int .i64 (numS (seqV (rowV7 numS) j s2).2).1, .int .i64 (numS (numS (seqV (rowV7 numS) j s2).2).2).1] rfl (Src.at (At.new _ _ _) rfl) rfl (by unfold maxLen; omega) (by omega) ?_
              intro E4 e4 w8 R8 C8 f8
              have S8 := (S7.extR ((Ext.refl w7).alloc _)).app R8 C8 f8
              have K8 := (S8.kept _ (.head _)).1
              simp only at K8
              have f9 := K8.frozen 1
              have c9 : w8.cell? ⟨gc, 1, none⟩ = some (.slice E j ec) := K8.cell 1
              have g9 := K8.lt
              have TP := S8.put ((Chg.refl w8 [gc]).set (p := ⟨gc, 1, none⟩) (.inl (by simp)) (.slice E4 (j + 1) e4)) (K8.set 1 _)
              go_wp2_with fail
              refine utree_one 9 (by kernel_rfl) rfl (SP K8) (utree_op rfl (fun K' hK' => ?_))
              go_wp2_with fail
              refine utree_end (hQy _ _ ?_)
              go_wp2_with fail
              go_roundw
              case rel => exact ⟨j + 1, E4, e4, by go_num, by omega, by rw [seqV_succ, HRL.out]; simp only [List.flatMap_append, List.flatMap_cons, List.flatMap_nil, List.append_nil]; exact TP⟩
              case measure => simp [intOf]; omega
            · obtain rfl : j = n2 := by omega
              generalize hl2 : (seqV (rowV7 numS) j s2).1 = l2 at *
              generalize hs3 : (seqV (rowV7 numS) j s2).2 = s3 at *
              obtain ⟨Z2, S4, hZ2⟩ := S.turnE 54 2
              have HZ2 := Lib.hid hZ2
              clear hZ2 S
              generalize hZZ : (⟨gr, 27, #[.slice none 0 0, .slice none 0 0, .int .i64 0, .int .i64 0, .int .i64 0, .int .i64 0, .int .i64 0, .int .i64 0]⟩ : Blk) :: Z ++ Z2 = ZL at *
              have S4 : RdS w wr g q A s3 (⟨gc, 27, cfgP D k d E j ec []⟩ :: ZL) 54 2 none 0 0 [] := by rw [← hZZ]; exact S4
              have sgc := (S4.kept _ (.head _)).1.lt
              simp only at sgc
              go_wp2_with fail
              refine (rest_c gc wr sgc).mono ?_
              rintro e w5 ⟨rfl, hx5⟩
              have S5 := S4.extR hx5
              clear S4 sgc
              go_wp2_with fail
              go_loopw [75] (fun i wz => ∃ m : Nat, i = .int .i64 m ∧ m ≤ 6 ∧ RdS w wz g q A (seqV numS m s3).2 (⟨gc, 27, cfgP D k d E j ec (seqV numS m s3).1⟩ :: ZL) 54 2 none 0 0 []) (fun i _ => 6 - (intOf i).toNat)
              case atStart => exact ⟨0, rfl, Nat.zero_le _, by rw [seqV_zero]; exact S5⟩
              case round =>
                clear S5
                obtain ⟨m, rfl, hm, T⟩ := hrel
                by_cases hm1 : m < 6
                · obtain ⟨u, v, hcv, hcl⟩ := rest_at gc m hm1
                  have ix : ∀ W, (Instr.index 72 (.agg (restV gc)) (.int .i64 (m : Nat))).run Try.prog W = .ok (.agg #[u, v]) W := fun W => by rw [← hcv]; exact ixrest_c gc W m hm1
                  have T1 := T.new 67 #[u, v]
                  have HC2 := Lib.hid (fun n t cs W hk hA => set_c u v gc (2 + m) n t cs W hcl hk hA)
                  have hclis := hcl.is
                  clear hcl hcv
                  rcases hclis with ⟨rfl, rfl⟩ | ⟨rfl, rfl⟩
                  all_goals
                    go_wp2_with fail
                  · generalize hgk : wr.heap.size = gk at *
                    generalize hwv : wr.alloc _ = wv at *
                    have K0 := (T1.kept _ (.head _)).1
                    simp only at K0
                    have e0 := cellsAt_at K0
                    have s0 := K0.lt
                    refine wp_region_s [0, 0, 1, 1] (fun x => ∀ b ∈ [gk], x.heap[b]? = wv.heap[b]?) (by kernel_rfl) (by kernel_rfl) ?_
                    refine hls_same (fun K hK => ?_)
                    go_simp
                    refine hK _ ?_
                    clear hK K
                    refine hls_same (fun K hK => ?_)
                    go_simp
                    refine hK _ ?_
                    clear hK K
                    refine hls_skip (by decide) ?_
                    refine hls_skip (by decide) ?_
                    refine hls_nil ?_
                    intro wx hxwx K hK
                    have TX := T1.extR hxwx
                    have same1 : ∀ b ∈ [gk], wx.heap[b]? = wv.heap[b]? := fun b hb => by simp at hb; subst hb; exact hxwx.block _ s0
                    obtain ⟨AX, hAX, hbX⟩ := TX.rd
                    refine ms_pass ?_
                    refine ms_pass ?_
                    refine ms_do (by decide) (same1) (fun K' hK' => ?_)
                    go_wp2_with fail
                    refine (cnum_c g q AX _ wx hAX).mono ?_
                    rintro e wy ⟨rfl, AY, RY⟩
                    have TY := TX.num hbX RY
                    have KY := (TY.kept _ (.head _)).1
                    have KS := (TY.kept _ (.tail _ (.head _))).1
                    simp only at KY KS
                    have hne : gk ≠ gc := by have := TY.nd; simp at this; exact fun h => this.1.1 h
                    have hlen := seqV_len numS s3 m
                    have hset := cfgP_set D k d E j ec (numS (seqV numS m s3).2).1 (seqV numS m s3).1 (by omega)
                    rw [hlen] at hset
                    have HSET := Lib.hid hset
                    clear hset hlen
                    go_wp2_with fail
                    refine ms_do (by decide) (fun b hb => by simp at hb; subst hb; exact KY.trans K0.symm) (fun K' hK' => ?_)
                    go_wp2_with fail
                    refine (HC2.out _ 27 (cfgP D k d E j ec (seqV numS m s3).1) wy (by show 2 + m < 8; omega) KS).mono ?_
                    rintro e wu ⟨rfl, aU, cU⟩
                    rw [HSET.out] at aU
                    have TU := (TY.less (List.sublist_cons_self _ _)).put cU aU
                    have KU := cU.at KY (by simpa using hne)
                    go_wp2_with fail
                    refine ms_nil (fun b hb => by simp at hb; subst hb; exact KU.trans K0.symm) (hK _ _ ?_)
                    go_wp2_with fail
                    go_roundw
                    case rel => exact ⟨m + 1, by go_num, by omega, by rw [seqV_succ]; exact TU⟩
                    case measure => simp [intOf]; omega
                  · generalize hgk : wr.heap.size = gk at *
                    generalize hwv : wr.alloc _ = wv at *
                    have K0 := (T1.kept _ (.head _)).1
                    simp only at K0
                    have e0 := cellsAt_at K0
                    have s0 := K0.lt
                    refine wp_region_s [0, 0, 1, 1] (fun x => ∀ b ∈ [gk], x.heap[b]? = wv.heap[b]?) (by kernel_rfl) (by kernel_rfl) ?_
                    refine hls_same (fun K hK => ?_)
                    go_simp
                    refine hK _ ?_
                    clear hK K
                    refine hls_same (fun K hK => ?_)
                    go_simp
                    refine hK _ ?_
                    clear hK K
                    refine hls_skip (by decide) ?_
                    refine hls_skip (by decide) ?_
                    refine hls_nil ?_
                    intro wx hxwx K hK
                    have TX := T1.extR hxwx
                    have same1 : ∀ b ∈ [gk], wx.heap[b]? = wv.heap[b]? := fun b hb => by simp at hb; subst hb; exact hxwx.block _ s0
                    obtain ⟨AX, hAX, hbX⟩ := TX.rd
                    refine ms_pass ?_
                    refine ms_pass ?_
                    refine ms_do (by decide) (same1) (fun K' hK' => ?_)
                    go_wp2_with fail
                    refine (cnum_c g q AX _ wx hAX).mono ?_
                    rintro e wy ⟨rfl, AY, RY⟩
                    have TY := TX.num hbX RY
                    have KY := (TY.kept _ (.head _)).1
                    have KS := (TY.kept _ (.tail _ (.head _))).1
                    simp only at KY KS
                    have hne : gk ≠ gc := by have := TY.nd; simp at this; exact fun h => this.1.1 h
                    have hlen := seqV_len numS s3 m
                    have hset := cfgP_set D k d E j ec (numS (seqV numS m s3).2).1 (seqV numS m s3).1 (by omega)
                    rw [hlen] at hset
                    have HSET := Lib.hid hset
                    clear hset hlen
                    go_wp2_with fail
                    refine ms_do (by decide) (fun b hb => by simp at hb; subst hb; exact KY.trans K0.symm) (fun K' hK' => ?_)
                    go_wp2_with fail
                    refine (HC2.out _ 27 (cfgP D k d E j ec (seqV numS m s3).1) wy (by show 2 + m < 8; omega) KS).mono ?_
                    rintro e wu ⟨rfl, aU, cU⟩
                    rw [HSET.out] at aU
                    have TU := (TY.less (List.sublist_cons_self _ _)).put cU aU
                    have KU := cU.at KY (by simpa using hne)
                    go_wp2_with fail
                    refine ms_nil (fun b hb => by simp at hb; subst hb; exact KU.trans K0.symm) (hK _ _ ?_)
                    go_wp2_with fail
                    go_roundw
                    case rel => exact ⟨m + 1, by go_num, by omega, by rw [seqV_succ]; exact TU⟩
                    case measure => simp [intOf]; omega
                · obtain rfl : m = 6 := by omega
                  have HRV := Lib.hid (show readS bs = endV (seqV numS 6 s3).2 ⟨l1, l2, (seqV numS 6 s3).1⟩ by rw [HRU.out]; unfold tailV; rw [hl2, hs3])
                  have hlr := seqV_len numS s3 6
                  have hI6 : ∀ a ∈ (seqV numS 6 s3).1, I64 a := seqV_all numS_I _ _
                  generalize seqV numS 6 s3 = fin6 at *
                  obtain ⟨r6, s6⟩ := fin6
                  simp only at T HRV hlr hI6
                  obtain ⟨A6, hA6, hb6⟩ := T.rd
                  have c0 : wr.cell? ⟨g, 0, none⟩ = some (.pointer (some ⟨q, 0, none⟩)) := hA6.own.cell 0
                  have g0 := hA6.own.lt
                  go_wp2_with fail
                  refine (fault_c q A6 _ _ wr hA6.rd).mono ?_
                  rintro e w6 ⟨rfl, hx6⟩
                  have T6 := T.extR hx6
                  clear T hA6 hb6 c0 g0
                  by_cases hf : s6.f = 0
                  · have hfb : (s6.f != 0) = false := by rw [hf]; rfl
                    obtain ⟨A7, hA7, hb7⟩ := T6.rd
                    have c0 : w6.cell? ⟨g, 0, none⟩ = some (.pointer (some ⟨q, 0, none⟩)) := hA7.own.cell 0
                    have c1 : w6.cell? ⟨g, 1, none⟩ = some (.bool s6.g) := hA7.own.cell 1
                    have g0 := hA7.own.lt
                    cases hg : s6.g with
                    | true =>
                      rw [hg] at c1
                      have HRW := Lib.hid (show readS bs = (cf0, 4) by rw [HRV.out]; unfold endV; rw [if_neg (fun h => h hf), if_pos (.inl hg)])
                      clear HRV
                      have K0 := (T6.kept ⟨gr, 27, #[.slice none 0 0, .slice none 0 0, .int .i64 0, .int .i64 0, .int .i64 0, .int .i64 0, .int .i64 0, .int .i64 0]⟩ (by rw [← hZZ]; exact .tail _ (.head _))).1
                      simp only at K0
                      have ek := cellsAt_at K0
                      have sk := K0.lt
                      go_wp2_with fail
                      generalize hw3 : w6.setRow gr _ = w7
                      have K3 : At w7 gr 27 #[.slice none 0 0, .slice none 0 0, .int .i64 0, .int .i64 0, .int .i64 0, .int .i64 0, .int .i64 0, .int .i64 0] := by rw [← hw3]; exact K0.setRow _
                      have x3 : Ext w w7 := by rw [← hw3]; exact T6.ext.setRow (by omega) _
                      clear hw3 ek sk K0
                      have ek := cellsAt_at K3
                      have sk := K3.lt
                      first | refine fin_ret rfl (fun K hK => ?_) | refine fin_norm rfl (fun K hK => ?_)
                      simp [results, Try.results20, go_sem, rsat]
                      try go_simp
                      refine hK _ ?_
                      clear hK K
                      exact ReadC.fail HRW.out x3
                    | false =>
                      rw [hg] at c1
                      go_wp2_with fail
                      refine (left_c q A7 _ _ w6 hA7.rd).mono ?_
                      rintro e w8 ⟨rfl, hx8⟩
                      have T8 := T6.extR hx8
                      clear T6 hA7 hb7 c0 c1 g0
                      by_cases hlen : 0 < s6.bs.length
                      · have hli : (0 : Int) < (s6.bs.length : Int) := by omega
                        have HRW := Lib.hid (show readS bs = (cf0, 4) by rw [HRV.out]; unfold endV; rw [if_neg (fun h => h hf), if_pos (.inr hlen)])
                        clear HRV
                        have K0 := (T8.kept ⟨gr, 27, #[.slice none 0 0, .slice none 0 0, .int .i64 0, .int .i64 0, .int .i64 0, .int .i64 0, .int .i64 0, .int .i64 0]⟩ (by rw [← hZZ]; exact .tail _ (.head _))).1
                        simp only at K0
                        have ek := cellsAt_at K0
                        have sk := K0.lt
                        go_wp2_with fail
                        generalize hw3 : w8.setRow gr _ = w7
                        have K3 : At w7 gr 27 #[.slice none 0 0, .slice none 0 0, .int .i64 0, .int .i64 0, .int .i64 0, .int .i64 0, .int .i64 0, .int .i64 0] := by rw [← hw3]; exact K0.setRow _
                        have x3 : Ext w w7 := by rw [← hw3]; exact T8.ext.setRow (by omega) _
                        clear hw3 ek sk K0
                        have ek := cellsAt_at K3
                        have sk := K3.lt
                        first | refine fin_ret rfl (fun K hK => ?_) | refine fin_norm rfl (fun K hK => ?_)
                        simp [results, Try.results20, go_sem, rsat]
                        try go_simp
                        refine hK _ ?_
                        clear hK K
                        exact ReadC.fail HRW.out x3
                      · have hli : ¬ (0 : Int) < (s6.bs.length : Int) := by omega
                        have hk1 : l1.length = k := by rw [← hl1, seqV_len]
                        have hj1' : l2.length = j := by rw [← hl2, seqV_len]
                        have hI1 : ∀ a ∈ l1, a.I := by rw [← hl1]; exact syms_I _ _
                        have hI2 : ∀ a ∈ l2, a.I := by rw [← hl2]; exact rows_I _ _
                        obtain ⟨x, hx⟩ : ∃ x : Cfg, x = ⟨D, d, l1, E, ec, l2, r6.getD 0 0, r6.getD 1 0, r6.getD 2 0, r6.getD 3 0, r6.getD 4 0, r6.getD 5 0⟩ := ⟨_, rfl⟩
                        have hr6 : restN x = r6 := by
                          rw [hx]
                          match r6, hlr with
                          | [_, _, _, _, _, _], _ => rfl
                        have K9 : At w8 gc 27 #[.slice x.A x.l.length x.c, .slice x.B x.t.length x.d, .int .i64 x.ix, .int .i64 x.f1, .int .i64 x.f2, .int .i64 x.f3, .int .i64 x.h1, .int .i64 x.h2] := by
                          have := (T8.kept _ (.head _)).1
                          rw [hx, hk1, hj1']
                          exact this
                        have HXA := Lib.hid (show ∀ W, (∀ b ∈ Z ++ Z2, At W b.b b.t b.cs) → x.At W from fun W hW => by
                          have RD := HZ.out W (fun b hb => hW b (List.mem_append_left _ hb))
                          have RE := HZ2.out W (fun b hb => hW b (List.mem_append_right _ hb))
                          rw [← hk1] at RD
                          rw [← hj1'] at RE
                          subst hx
                          exact ⟨⟨RD.le, RD.max, RD.src⟩, hI1, ⟨RE.le, RE.max, RE.src⟩, hI2, getD_I hI6 _, getD_I hI6 _, getD_I hI6 _, getD_I hI6 _, getD_I hI6 _, getD_I hI6 _⟩)
                        have HRW := Lib.hid (show readS bs = (if (checkI x).1 ≠ 0 then (cf0, (checkI x).1) else (⟨x.l, x.t, restN x⟩, 0)) by
                          rw [HRV.out, hr6]
                          unfold endV
                          rw [if_neg (fun h => h hf), if_neg (fun h => h.elim (fun h => by rw [hg] at h; cases h) hlen)]
                          subst hx
                          rfl)
                        clear HRV hx hr6 hI1 hI2 hk1 hj1'
                        have e9 := cellsAt_at K9
                        have s9 := K9.lt
                        go_wp2_with fail
                        refine (check_c x w8 (HXA.out w8 (fun b hb => (T8.kept b (by rw [← hZZ]; exact .tail _ (.tail _ hb))).1))).mono ?_
                        rintro e w9 ⟨rfl, hx9⟩
                        have T9 := T8.extR hx9
                        have K10 := K9.ext hx9
                        clear T8 K9 e9 s9
                        have K0 := (T9.kept ⟨gr, 27, #[.slice none 0 0, .slice none 0 0, .int .i64 0, .int .i64 0, .int .i64 0, .int .i64 0, .int .i64 0, .int .i64 0]⟩ (by rw [← hZZ]; exact .tail _ (.head _))).1
                        simp only at K0
                        have ek := cellsAt_at K0
                        have sk := K0.lt
                        have e9 := cellsAt_at K10
                        have s9 := K10.lt
                        by_cases hck : (checkI x).1 = 0
                        · have hcb : ((checkI x).1 != 0) = false := by rw [hck]; rfl
                          have HRX := Lib.hid (show readS bs = (⟨x.l, x.t, restN x⟩, 0) by rw [HRW.out, if_neg (fun h => h hck)])
                          clear HRW
                          go_wp2_with fail
                          generalize hw3 : w9.setRow gr _ = w10
                          have K3 : At w10 gr 27 #[.slice x.A x.l.length x.c, .slice x.B x.t.length x.d, .int .i64 x.ix, .int .i64 x.f1, .int .i64 x.f2, .int .i64 x.f3, .int .i64 x.h1, .int .i64 x.h2] := by rw [← hw3]; exact K0.setRow _
                          have x3 : Ext w w10 := by rw [← hw3]; exact T9.ext.setRow (by omega) _
                          have HXB := Lib.hid (show x.At w10 from HXA.out w10 (fun b hb => by
                            have hkb := (T9.kept b (by rw [← hZZ]; exact .tail _ (.tail _ hb))).1
                            have hnd := T9.nd
                            rw [← hZZ] at hnd
                            rw [← hw3]
                            refine hkb.rowFar (fun he => ?_) _
                            have hnd2 := (List.nodup_cons.1 hnd).2
                            exact (List.nodup_cons.1 hnd2).1 (List.mem_map.2 ⟨b, hb, he⟩)))
                          clear hw3 ek sk K0
                          have ek := cellsAt_at K3
                          have sk := K3.lt
                          first | refine fin_ret rfl (fun K hK => ?_) | refine fin_norm rfl (fun K hK => ?_)
                          simp [results, Try.results20, go_sem, rsat]
                          try go_simp
                          refine hK _ ?_
                          clear hK K
                          exact ⟨x3, x, by rw [HRX.out], HXB.out, by rw [HRX.out], by rw [HRX.out], by rw [HRX.out]⟩
                        · have hcb : ((checkI x).1 != 0) = true := bne_iff_ne.2 hck
                          have HRX := Lib.hid (show readS bs = (cf0, (checkI x).1) by rw [HRW.out, if_pos hck])
                          clear HRW
                          go_wp2_with fail
                          generalize hw3 : w9.setRow gr _ = w10
                          have K3 : At w10 gr 27 #[.slice none 0 0, .slice none 0 0, .int .i64 0, .int .i64 0, .int .i64 0, .int .i64 0, .int .i64 0, .int .i64 0] := by rw [← hw3]; exact K0.setRow _
                          have x3 : Ext w w10 := by rw [← hw3]; exact T9.ext.setRow (by omega) _
                          clear hw3 ek sk K0
                          have ek := cellsAt_at K3
                          have sk := K3.lt
                          first | refine fin_ret rfl (fun K hK => ?_) | refine fin_norm rfl (fun K hK => ?_)
                          simp [results, Try.results20, go_sem, rsat]
                          try go_simp
                          refine hK _ ?_
                          clear hK K
                          exact ReadC.fail HRX.out x3
                  · have hfb : (s6.f != 0) = true := bne_iff_ne.2 hf
                    have HRW := Lib.hid (show readS bs = (cf0, s6.f) by rw [HRV.out]; unfold endV; rw [if_pos hf])
                    clear HRV
                    have K0 := (T6.kept ⟨gr, 27, #[.slice none 0 0, .slice none 0 0, .int .i64 0, .int .i64 0, .int .i64 0, .int .i64 0, .int .i64 0, .int .i64 0]⟩ (by rw [← hZZ]; exact .tail _ (.head _))).1
                    simp only at K0
                    have ek := cellsAt_at K0
                    have sk := K0.lt
                    go_wp2_with fail
                    generalize hw3 : w6.setRow gr _ = w7
                    have K3 : At w7 gr 27 #[.slice none 0 0, .slice none 0 0, .int .i64 0, .int .i64 0, .int .i64 0, .int .i64 0, .int .i64 0, .int .i64 0] := by rw [← hw3]; exact K0.setRow _
                    have x3 : Ext w w7 := by rw [← hw3]; exact T6.ext.setRow (by omega) _
                    clear hw3 ek sk K0
                    have ek := cellsAt_at K3
                    have sk := K3.lt
                    first | refine fin_ret rfl (fun K hK => ?_) | refine fin_norm rfl (fun K hK => ?_)
                    simp [results, Try.results20, go_sem, rsat]
                    try go_simp
                    refine hK _ ?_
                    clear hK K
                    exact ReadC.fail HRW.out x3
end Go.Proofs.Ytfbpmngdamaobaa
