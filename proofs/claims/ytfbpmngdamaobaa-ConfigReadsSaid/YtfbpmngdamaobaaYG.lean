/- Configurations (layer 7): Read by the document. Condition: at most 10^9 bytes. -/
import Derived.Test.YtfbpmngdamaobaaYF
import Derived.Test.YtfbpmngdamaobaaYD
import Derived.Test.YtfbpmngdamaobaaZ3
namespace Go.Proofs.Ytfbpmngdamaobaa
open Go.RowKit
attribute [local go_sem] Later.cell QUpon_value QUpon_enter MUpon_value cellsAt_sameY Same.cell
attribute [local go_sem ↓ high] loadSym_is storeSym_is loadCfg_is storeCfg_is
attribute [local go_sem] run_loadSym run_loadSym_at run_storeSym run_loadCfg run_loadCfg_at run_storeCfg one_int one_bool one_slice one_ptr one_str setRow_new setRow_past cell_ca frozen_ca cellsAt_alloc_at cellsAt_alloc_past cellsAt_drew cellsAt_later cellsAt_setCell cellsAt_set_same cellsAt_setRow_same cellsAt_setRow_far subAt_alloc subAt_drew subAt_later subAt_setCell subAt_setRow ltn_2 ltn_3 ltn_4 ltn_5
theorem numQ7_f (bs : List Int) (f : Int) (h : (numQ7 bs f).2.2 ≠ 0) : (numQ7 bs f).1 = 0 := by
  unfold numQ7 at h ⊢
  split
  · rfl
  · rename_i hf
    rw [if_neg hf] at h
    split
    · rename_i h0
      rw [if_pos h0] at h
      exact absurd h0 h
    · rfl
theorem numT_I (s : RS) : I64 (numT s).1 := by
  unfold numT
  split
  · constructor <;> simp
  · constructor <;> simp only <;> omega
theorem numT_0 (s : RS) : 0 ≤ (numT s).1 ∧ ((numT s).2.f ≠ 0 → (numT s).1 = 0) := by
  unfold numT
  have h := numQ7_f s.bs s.f
  split
  · exact ⟨Int.le_refl _, fun _ => rfl⟩
  · refine ⟨by simp only; omega, fun h1 => ?_⟩
    simp only at h1 ⊢
    have := h h1
    omega
theorem cntT_le (m : Nat) (s : RS) : ∃ n : Nat, n ≤ m ∧ (cntT m s).1 = n := by
  unfold cntT
  obtain ⟨h1, h2⟩ := numT_0 s
  split
  · exact ⟨0, Nat.zero_le _, rfl⟩
  · rename_i h
    by_cases hf : (numT s).2.f = 0
    · have : ¬ (m : Int) < (numT s).1 := fun k => h ⟨hf, .inr k⟩
      exact ⟨(numT s).1.toNat, by omega, by omega⟩
    · exact ⟨0, Nat.zero_le _, h2 hf⟩
theorem rowsT_le (s : RS) : ∃ n : Nat, n ≤ 20 ∧ (rowsT s).1 = n := cntT_le 20 _
theorem symsT_I (n : Nat) (s : RS) : ∀ a ∈ (seqV (symV7 numT) n s).1, a.I := seqV_all (P := fun (a : Sym) => a.I) (fun s => symOf_I (fun a ha => seqV_all (P := I64) numT_I s 16 a ha)) s n
theorem rowsT_I (n : Nat) (s : RS) : ∀ a ∈ (seqV (rowV7 numT) n s).1, a.I := seqV_all (P := fun (a : Rw) => a.I) (fun s => ⟨numT_I _, numT_I _⟩) s n
/-- One of the last six numbers is read and put into its cell. -/
theorem RdT.step {w wr w' : World} {g gc : Nat} {L : List Blk} {e : TypeId} {size : Nat} {B D E : Option Addr} {n c k d j ec : Nat} {xs : List Value} {s : RS} {m : Nat} (h : RdT w wr g (seqV numT m s).2 (⟨gc, 27, cfgP D k d E j ec (seqV numT m s).1⟩ :: L) e size B n c xs) (hm : m < 6) (hr : RT w w' g (numT (seqV numT m s).2).2) (hC : Chg wr w' [g]) :
    RdT w w' g (numT (seqV numT m s).2).2 (⟨gc, 27, cfgP D k d E j ec (seqV numT m s).1⟩ :: L) e size B n c xs ∧ RdT w (w'.setCell ⟨gc, 2 + m, none⟩ (.int .i64 (numT (seqV numT m s).2).1)) g (seqV numT (m + 1) s).2 (⟨gc, 27, cfgP D k d E j ec (seqV numT (m + 1) s).1⟩ :: L) e size B n c xs := by
  have T := h.num hr hC
  have K := (T.kept _ (.head _)).1
  simp only at K
  refine ⟨T, ?_⟩
  have hl := seqV_len numT s m
  have hset := cfgP_set D k d E j ec (numT (seqV numT m s).2).1 (seqV numT m s).1 (by omega)
  have TU := T.put ((Chg.refl w' [gc]).set (p := ⟨gc, 2 + m, none⟩) (.inl (by simp)) (.int .i64 (numT (seqV numT m s).2).1)) (K.set (2 + m) _)
  rw [hl] at hset
  rw [hset] at TU
  rw [seqV_succ]
  exact TU
set_option maxHeartbeats 8000000 in
set_option maxRecDepth 100000 in
theorem tread_c (B : Option Addr) (cb : Nat) (bs : List Int) (hb : Byt bs) (hl : bs.length ≤ 1000000000) (hc : bs.length ≤ cb) (hm : cb ≤ 9223372036854775807) (w : World) (hS : Src w 1 B bs.length (bc bs)) : Calls Try.prog 21 #[.slice B bs.length cb] w fun e w' => ReadC bs w e w' := by
  have S0 := (RdT.start (w := w) ((Ext.refl w).alloc (.cells cfgZ 27)) hb hl hc hm hS 35 16).hold ((At.new w 27 cfgZ).alloc _) (Nat.le_refl _) (by simp) (by simp) (by simp [ablk])
  have S1 := S0.new 27 cfgZ
  simp only [World.size_alloc] at S1
  have hrs : readS bs = readT bs := read_same bs
  unfold readT at hrs
  obtain ⟨n1, hn1, he1⟩ := cntT_le 8 ⟨bs, 0, false⟩
  have CC := fun W R => tcount_c w W (w.heap.size + 1) ⟨bs, 0, false⟩ 8 R
  rw [show ((8 : Nat) : Int) = 8 from rfl] at he1
  rw [he1] at hrs
  generalize hc1 : cntT 8 ⟨bs, 0, false⟩ = c1 at *
  obtain ⟨i1, s1⟩ := c1
  simp only at CC hrs he1
  subst he1
  rw [show ((n1 : Nat) : Int).toNat = n1 from rfl] at hrs
  have HCC := Lib.hid CC
  clear CC S0 hc1
  have HRS := Lib.hid hrs
  clear hrs
  have HS1 := Lib.hid S1
  clear S1
  go_enter Try.func21, Try.ntmps21
  go_wp2_with fail
  refine (HCC.out _ HS1.out.rd).mono ?_
  rintro e w2 ⟨rfl, R2, C2⟩
  have S2 := HS1.out.num R2 C2
  clear HCC HS1 R2 C2
  generalize w.heap.size + 1 + 1 = gc at *
  generalize w.heap.size + 1 = g at *
  generalize hgr : w.heap.size = gr at *
  unfold cfgZ at S2
  go_wp2_with fail
  go_loopw [7] (fun i wr => ∃ (k : Nat) (D : Option Addr) (d : Nat), i = .int .i64 k ∧ k ≤ n1 ∧ RdT w wr g (seqV (symV7 numT) k s1).2 [⟨gc, 27, #[.slice D k d, .slice none 0 0, .int .i64 0, .int .i64 0, .int .i64 0, .int .i64 0, .int .i64 0, .int .i64 0]⟩, ⟨gr, 27, #[.slice none 0 0, .slice none 0 0, .int .i64 0, .int .i64 0, .int .i64 0, .int .i64 0, .int .i64 0, .int .i64 0]⟩] 35 16 D k d ((seqV (symV7 numT) k s1).1.flatMap Sym.cells)) (fun i _ => n1 - (intOf i).toNat)
  case atStart => exact ⟨0, none, 0, rfl, Nat.zero_le _, by rw [seqV_zero]; exact S2⟩
  case round =>
    clear S2
    obtain ⟨k, D, d, rfl, hk, S⟩ := hrel
    by_cases hk1 : k < n1
    · have T1 := S.new 77 (symOf []).cells.toArray
      go_wp2_with fail
      generalize hgs0 : wr.heap.size = gs at *
      generalize hw3 : wr.alloc _ = w3
      have T1 : RdT w w3 g (seqV (symV7 numT) k s1).2 [⟨gs, 77, (symOf []).cells.toArray⟩, ⟨gc, 27, #[.slice D k d, .slice none 0 0, .int .i64 0, .int .i64 0, .int .i64 0, .int .i64 0, .int .i64 0, .int .i64 0]⟩, ⟨gr, 27, #[.slice none 0 0, .slice none 0 0, .int .i64 0, .int .i64 0, .int .i64 0, .int .i64 0, .int .i64 0, .int .i64 0]⟩] 35 16 D k d ((seqV (symV7 numT) k s1).1.flatMap Sym.cells) := by rw [← hw3]; exact T1
      clear hw3 S hgs0
      go_loopw [9] (fun i wz => ∃ j : Nat, i = .int .i64 j ∧ j ≤ 16 ∧ RdT w wz g (seqV numT j (seqV (symV7 numT) k s1).2).2 [⟨gs, 77, (symOf (seqV numT j (seqV (symV7 numT) k s1).2).1).cells.toArray⟩, ⟨gc, 27, #[.slice D k d, .slice none 0 0, .int .i64 0, .int .i64 0, .int .i64 0, .int .i64 0, .int .i64 0, .int .i64 0]⟩, ⟨gr, 27, #[.slice none 0 0, .slice none 0 0, .int .i64 0, .int .i64 0, .int .i64 0, .int .i64 0, .int .i64 0, .int .i64 0]⟩] 35 16 D k d ((seqV (symV7 numT) k s1).1.flatMap Sym.cells)) (fun i _ => 16 - (intOf i).toNat)
      case atStart => exact ⟨0, rfl, Nat.zero_le _, by rw [seqV_zero]; exact T1⟩
      case round =>
        clear T1
        obtain ⟨j, rfl, hj, T⟩ := hrel
        by_cases hj1 : j < 16
        · have hlen := seqV_len numT (seqV (symV7 numT) k s1).2 j
          have hset := symOf_set (numT (seqV numT j (seqV (symV7 numT) k s1).2).2).1 (seqV numT j (seqV (symV7 numT) k s1).2).1 (by omega)
          rw [hlen] at hset
          have HSET := Lib.hid hset
          clear hset hlen
          go_wp2_with fail
          refine (tnum_c w wr g _ T.rd).mono ?_
          rintro e w5 ⟨rfl, R5, C5⟩
          have T5 := T.num R5 C5
          have K5 := (T5.kept _ (.head _)).1
          simp only at K5
          have e5 := cellsAt_at K5
          have f5 := K5.frozen j
          have c5 : w5.cell? ⟨gs, j, none⟩ = some ((symOf (seqV numT j (seqV (symV7 numT) k s1).2).1).cells.toArray[j]'(by show j < 16; omega)) := (K5.cell j).trans (Array.getElem?_eq_getElem _)
          have s5 := K5.lt
          go_wp2_with fail
          refine ⟨⟨j + 1, by go_num, by omega, ?_⟩, by simp [intOf]; omega⟩
          rw [seqV_succ]
          have TU := T5.put ((Chg.refl w5 [gs]).set (p := ⟨gs, j, none⟩) (.inl (by simp)) (.int .i64 (numT (seqV numT j (seqV (symV7 numT) k s1).2).2).1)) (K5.set j _)
          rw [HSET.out] at TU
          exact TU
        · obtain rfl : j = 16 := by omega
          have hsl : (symV7 numT (seqV (symV7 numT) k s1).2) = (symOf (seqV numT 16 (seqV (symV7 numT) k s1).2).1, (seqV numT 16 (seqV (symV7 numT) k s1).2).2) := rfl
          generalize hu : symOf (seqV numT 16 (seqV (symV7 numT) k s1).2).1 = u at *
          have HSL := Lib.hid hsl
          clear hsl hu
          have K1 := (T.kept _ (.head _)).1
          have K2 := (T.kept _ (.tail _ (.head _))).1
          simp only at K1 K2
          have e1 : cellsAt wr gs = #[.int .i64 u.grid, .int .i64 u.ref, .int .i64 u.stat, .int .i64 u.dyn, .int .i64 u.win, .int .i64 u.move, .int .i64 u.lim, .int .i64 u.pause, .int .i64 u.ext, .int .i64 u.mx, .int .i64 u.coll, .int .i64 u.wid, .int .i64 u.self, .int .i64 u.slots, .int .i64 u.lev, .int .i64 u.short] := cellsAt_at K1
          have s1' := K1.lt
          have c2 : wr.cell? ⟨gc, 0, none⟩ = some (.slice D k d) := K2.cell 0
          have s2 := K2.lt
          have SP : ∀ {W : World}, At W gs 77 #[.int .i64 u.grid, .int .i64 u.ref, .int .i64 u.stat, .int .i64 u.dyn, .int .i64 u.win, .int .i64 u.move, .int .i64 u.lim, .int .i64 u.pause, .int .i64 u.ext, .int .i64 u.mx, .int .i64 u.coll, .int .i64 u.wid, .int .i64 u.self, .int .i64 u.slots, .int .i64 u.lev, .int .i64 u.short] → At W gc 27 #[.slice D k d, .slice none 0 0, .int .i64 0, .int .i64 0, .int .i64 0, .int .i64 0, .int .i64 0, .int .i64 0] → ∀ b ∈ [gs, gc], W.heap[b]? = wr.heap[b]? := fun h h' b hb => by
            simp only [List.mem_cons, List.not_mem_nil, or_false] at hb
            rcases hb with rfl | rfl
            · exact h.trans K1.symm
            · exact h'.trans K2.symm
          go_wp2_with fail
          refine wp_region_u [0, 0, 0, 1, 1, 1, 0, 1] (fun x => ∀ b ∈ [gs, gc], x.heap[b]? = wr.heap[b]?) 4 [3, 4, 5, 7] (by kernel_rfl) (by kernel_rfl) (by kernel_rfl) (by kernel_rfl) ?_
          refine hls_same (fun K hK => ?_)
          go_simp
          refine hK _ ?_
          clear hK K
          refine hls_same (fun K hK => ?_)
          go_simp
          refine hK _ ?_
          clear hK K
          refine hls_same (fun K hK => ?_)
          go_simp
          refine hK _ ?_
          clear hK K
          refine hls_skip (by decide) ?_
          refine hls_skip (by decide) ?_
          refine hls_skip (by decide) ?_
          refine hls_same (fun K hK => ?_)
          go_simp
          refine hK _ ?_
          clear hK K
          refine hls_skip (by decide) ?_
          refine hls_nil ?_
          intro w6 hxw6 Qy hQy
          have TX := T.extR hxw6
          clear c2 e1
          refine utree_one 3 (by kernel_rfl) rfl (SP (TX.kept _ (.head _)).1 (TX.kept _ (.tail _ (.head _))).1) (utree_op rfl (fun K' hK' => ?_))
          go_wp2_with fail
          refine (tsymbol_c u w6).mono ?_
          rintro e w7 ⟨rfl, hx7⟩
          have S7 := TX.extR hx7
          go_wp2_with fail
          refine utree_one 4 (by kernel_rfl) rfl (SP (S7.kept _ (.head _)).1 (S7.kept _ (.tail _ (.head _))).1) (utree_op rfl (fun K' hK' => ?_))
          go_wp2_with fail
          refine utree_one 5 (by kernel_rfl) rfl (SP ((S7.kept _ (.head _)).1.alloc _) ((S7.kept _ (.tail _ (.head _))).1.alloc _)) (utree_op rfl (fun K' hK' => ?_))
          refine wpList_rowcat rfl _ _ 22 35 16 128 symZ7 rfl Try.underlying22 symInfo7 rfl (by decide) _ D k d ((seqV (symV7 numT) k s1).1.flatMap Sym.cells) rfl (S7.row.alloc _) _ 1 1 u.cells rfl (Src.at (At.new _ _ _) rfl) rfl (by unfold maxLen; omega) (by omega) ?_
          intro D4 d4 w8 R8 C8 f8
          have S8 := (S7.extR ((Ext.refl w7).alloc _)).app R8 C8 f8
          have K7 := (S8.kept _ (.head _)).1
          have K8 := (S8.kept _ (.tail _ (.head _))).1
          simp only at K7 K8
          have f9 := K8.frozen 0
          have c9 : w8.cell? ⟨gc, 0, none⟩ = some (.slice D k d) := K8.cell 0
          have g9 := K8.lt
          have TP := (S8.less (List.sublist_cons_self _ _)).put ((Chg.refl w8 [gc]).set (p := ⟨gc, 0, none⟩) (.inl (by simp)) (.slice D4 (k + 1) d4)) (K8.set 0 _)
          go_wp2_with fail
          refine utree_one 7 (by kernel_rfl) rfl (SP K7 K8) (utree_op rfl (fun K' hK' => ?_))
          go_wp2_with fail
          refine utree_end (hQy _ _ ?_)
          go_wp2_with fail
          go_roundw
          case rel => exact ⟨k + 1, D4, d4, by go_num, by omega, by rw [seqV_succ, HSL.out]; simp only [List.flatMap_append, List.flatMap_cons, List.flatMap_nil, List.append_nil]; exact TP⟩
          case measure => simp [intOf]; omega
    · obtain rfl : k = n1 := by omega
      obtain ⟨n2, hn2, he2⟩ := rowsT_le (seqV (symV7 numT) k s1).2
      have CC := fun W R => trows_c w W g (seqV (symV7 numT) k s1).2 R
      have hrt : readS bs = tailV numT (seqV (symV7 numT) k s1).1 (rowsT (seqV (symV7 numT) k s1).2).1.toNat (rowsT (seqV (symV7 numT) k s1).2).2 := HRS.out
      clear HRS
      rw [he2] at hrt CC
      rw [show ((n2 : Nat) : Int).toNat = n2 from rfl] at hrt
      have hI1 := symsT_I k s1
      have hk1' := seqV_len (symV7 numT) s1 k
      generalize (rowsT (seqV (symV7 numT) k s1).2).2 = s2 at *
      generalize hl1 : (seqV (symV7 numT) k s1).1 = l1 at *
      have HRT := Lib.hid hrt
      have HCC := Lib.hid CC
      have HI1 := Lib.hid hI1
      clear hrt CC he2 hI1 hl1
      go_wp2_with fail
      refine (HCC.out _ S.rd).mono ?_
      rintro e w3 ⟨rfl, R3, C3⟩
      have S3 := S.num R3 C3
      clear S HCC R3 C3
      obtain ⟨Z, S4, hZ⟩ := S3.turnE 54 2
      have HZ := Lib.hid hZ
      clear hZ S3
      go_wp2_with fail
      go_loopw [10] (fun i wr => ∃ (j : Nat) (E : Option Addr) (e : Nat), i = .int .i64 j ∧ j ≤ n2 ∧ RdT w wr g (seqV (rowV7 numT) j s2).2 (⟨gc, 27, #[.slice D k d, .slice E j e, .int .i64 0, .int .i64 0, .int .i64 0, .int .i64 0, .int .i64 0, .int .i64 0]⟩ :: ⟨gr, 27, #[.slice none 0 0, .slice none 0 0, .int .i64 0, .int .i64 0, .int .i64 0, .int .i64 0, .int .i64 0, .int .i64 0]⟩ :: Z) 54 2 E j e ((seqV (rowV7 numT) j s2).1.flatMap Rw.cells)) (fun i _ => n2 - (intOf i).toNat)
      case atStart => exact ⟨0, none, 0, rfl, Nat.zero_le _, by rw [seqV_zero]; exact S4⟩
      case round =>
        clear S4
        obtain ⟨j, E, ec, rfl, hj, S⟩ := hrel
        by_cases hj1 : j < n2
        · go_wp2_with fail
          refine (tnum_c w wr g _ S.rd).mono ?_
          rintro e w5 ⟨rfl, R5, C5⟩
          have S5 := S.num R5 C5
          have K5 := (S5.kept _ (.head _)).1
          simp only at K5
          have c5 : w5.cell? ⟨gc, 1, none⟩ = some (.slice E j ec) := K5.cell 1
          have g5 := K5.lt
          have SP : ∀ {W : World}, At W gc 27 #[.slice D k d, .slice E j ec, .int .i64 0, .int .i64 0, .int .i64 0, .int .i64 0, .int .i64 0, .int .i64 0] → ∀ b ∈ [gc], W.heap[b]? = w5.heap[b]? := fun h b hb => by rw [List.mem_singleton.1 hb]; exact h.trans K5.symm
          go_wp2_with fail
          refine wp_region_u [0, 0, 0, 0, 1, 1, 1, 1, 0, 1] (fun x => ∀ b ∈ [gc], x.heap[b]? = w5.heap[b]?) 5 [4, 5, 6, 7, 9] (by kernel_rfl) (by kernel_rfl) (by kernel_rfl) (by kernel_rfl) ?_
          refine hls_same (fun K hK => ?_)
          go_simp
          refine hK _ ?_
          clear hK K
          refine hls_same (fun K hK => ?_)
          go_simp
          refine hK _ ?_
          clear hK K
          refine hls_same (fun K hK => ?_)
          go_simp
          refine hK _ ?_
          clear hK K
          refine hls_same (fun K hK => ?_)
          go_simp
          refine hK _ ?_
          clear hK K
          refine hls_skip (by decide) ?_
          refine hls_skip (by decide) ?_
          refine hls_skip (by decide) ?_
          refine hls_skip (by decide) ?_
          refine hls_same (fun K hK => ?_)
          go_simp
          refine hK _ ?_
          clear hK K
          refine hls_skip (by decide) ?_
          refine hls_nil ?_
          intro w6 hxw6 Qy hQy
          have TX := S5.extR hxw6
          clear c5
          refine utree_one 4 (by kernel_rfl) rfl (SP (TX.kept _ (.head _)).1) (utree_op rfl (fun K' hK' => ?_))
          go_wp2_with fail
          refine (tnum_c w w6 g _ TX.rd).mono ?_
          rintro e w7 ⟨rfl, R7, C7⟩
          have S7 := TX.num R7 C7
          go_wp2_with fail
          refine utree_one 5 (by kernel_rfl) rfl (SP (S7.kept _ (.head _)).1) (utree_op rfl (fun K' hK' => ?_))
          go_wp2_with fail
          refine utree_one 6 (by kernel_rfl) rfl (SP (S7.kept _ (.head _)).1) (utree_op rfl (fun K' hK' => ?_))
          go_wp2_with fail
          have hrl : rowV7 numT (seqV (rowV7 numT) j s2).2 = (⟨(numT (seqV (rowV7 numT) j s2).2).1, (numT (numT (seqV (rowV7 numT) j s2).2).2).1⟩, (numT (numT (seqV (rowV7 numT) j s2).2).2).2) := rfl
          have HRL := Lib.hid hrl
          clear hrl
          refine utree_one 7 (by kernel_rfl) rfl (SP ((S7.kept _ (.head _)).1.alloc _)) (utree_op rfl (fun K' hK' => ?_))
          refine wpList_rowcat rfl _ _ 23 54 2 16 rowZ7 rfl Try.underlying23 rowInfo7 rfl (by decide) _ E j ec ((seqV (rowV7 numT) j s2).1.flatMap Rw.cells) rfl (S7.row.alloc _) _ 1 1 [.int .i64 (numT (seqV (rowV7 numT) j s2).2).1, .int .i64 (numT (numT (seqV (rowV7 numT) j s2).2).2).1] rfl (Src.at (At.new _ _ _) rfl) rfl (by unfold maxLen; omega) (by omega) ?_
          intro E4 e4 w8 R8 C8 f8
          have S8 := (S7.extR ((Ext.refl w7).alloc _)).app R8 C8 f8
          have K8 := (S8.kept _ (.head _)).1
          simp only at K8
          have f9 := K8.frozen 1
          have c9 : w8.cell? ⟨gc, 1, none⟩ = some (.slice E j ec) := K8.cell 1
          have g9 := K8.lt
          have TP := S8.put ((Chg.refl w8 [gc]).set (p := ⟨gc, 1, none⟩) (.inl (by simp)) (.slice E4 (j + 1) e4)) (K8.set 1 _)
          go_wp2_with fail
          refine utree_one 9 (by kernel_rfl) rfl (SP K8) (utree_op rfl (fun K' hK' => ?_))
          go_wp2_with fail
          refine utree_end (hQy _ _ ?_)
          go_wp2_with fail
          go_roundw
          case rel => exact ⟨j + 1, E4, e4, by go_num, by omega, by rw [seqV_succ, HRL.out]; simp only [List.flatMap_append, List.flatMap_cons, List.flatMap_nil, List.append_nil]; exact TP⟩
          case measure => simp [intOf]; omega
        · obtain rfl : j = n2 := by omega
          have hI2 := rowsT_I j s2
          have hj1' := seqV_len (rowV7 numT) s2 j
          have hrt := HRT.out
          unfold tailV at hrt
          generalize hl2 : (seqV (rowV7 numT) j s2).1 = l2 at *
          generalize hs3 : (seqV (rowV7 numT) j s2).2 = s3 at *
          have HRV := Lib.hid hrt
          have HI2 := Lib.hid hI2
          clear HRT hrt hI2 hl2 hs3
          obtain ⟨Z2, S4, hZ2⟩ := S.turnE 54 2
          have HZ2 := Lib.hid hZ2
          clear hZ2 S
          generalize hZZ : (⟨gr, 27, #[.slice none 0 0, .slice none 0 0, .int .i64 0, .int .i64 0, .int .i64 0, .int .i64 0, .int .i64 0, .int .i64 0]⟩ : Blk) :: Z ++ Z2 = ZL at *
          have S4 : RdT w wr g (seqV numT 0 s3).2 (⟨gc, 27, cfgP D k d E j ec (seqV numT 0 s3).1⟩ :: ZL) 54 2 none 0 0 [] := by rw [seqV_zero, ← hZZ]; exact S4
          have C0 := tnum_c w wr g _ S4.rd
          have P0 := fun W R C => RdT.step (w' := W) S4 (by decide) R C
          go_wp2_with fail
          refine C0.mono ?_
          rintro e w5 ⟨rfl, R5, C5⟩
          have T5 := P0 _ R5 C5
          clear C0 P0 R5 C5 S4
          obtain ⟨V5, T5⟩ := T5
          have K5 := (V5.kept _ (.head _)).1
          simp only at K5
          clear V5
          have f5 := K5.frozen 2
          have s5 := K5.lt
          have c5 : w5.cell? ⟨gc, 2, none⟩ = some (.int .i64 ((seqV numT 0 s3).1.getD 0 0)) := K5.cell 2
          go_wp2_with fail
          clear c5 f5 s5 K5
          go_loopw [12] (fun i wz => ∃ m : Nat, i = .int .i64 m ∧ m ≤ 3 ∧ RdT w wz g (seqV numT (m + 1) s3).2 (⟨gc, 27, cfgP D k d E j ec (seqV numT (m + 1) s3).1⟩ :: ZL) 54 2 none 0 0 []) (fun i _ => 3 - (intOf i).toNat)
          case atStart => exact ⟨0, rfl, Nat.zero_le _, T5⟩
          case round =>
            clear T5
            obtain ⟨m, rfl, hm3, T⟩ := hrel
            by_cases hm1 : m < 3
            · have C0 := tnum_c w wr g _ T.rd
              have P0 := Lib.hid (fun W R C => RdT.step (w' := W) T (by omega) R C)
              go_wp2_with fail
              refine C0.mono ?_
              rintro e w5 ⟨rfl, R5, C5⟩
              have T5 := P0.out _ R5 C5
              clear C0 P0 R5 C5 T
              obtain ⟨V5, T5⟩ := T5
              have K5 := (V5.kept _ (.head _)).1
              simp only at K5
              clear V5
              have f5 := K5.frozen (3 + m)
              have s5 := K5.lt
              have hm8 : 3 + m < 8 := by omega
              have c5 : w5.cell? ⟨gc, 3 + m, none⟩ = some ((cfgP D k d E j ec (seqV numT (m + 1) s3).1)[3 + m]'hm8) := (K5.cell (3 + m)).trans (Array.getElem?_eq_getElem _)
              have HT5 := Lib.hid T5
              clear T5
              go_wp2_with fail
              refine ⟨⟨m + 1, by go_num, by omega, ?_⟩, by simp [intOf]; omega⟩
              have TU := HT5.out
              rw [show 2 + (m + 1) = 3 + m by omega] at TU
              exact TU
            · obtain rfl : m = 3 := by omega
              have C0 := tnum_c w wr g _ T.rd
              have P0 := Lib.hid (fun W R C => RdT.step (w' := W) T (by omega) R C)
              go_wp2_with fail
              refine C0.mono ?_
              rintro e w5 ⟨rfl, R5, C5⟩
              have T5 := P0.out _ R5 C5
              clear C0 P0 R5 C5 T
              obtain ⟨V5, T5⟩ := T5
              have K5 := (V5.kept _ (.head _)).1
              simp only at K5
              clear V5
              have f5 := K5.frozen 6
              have s5 := K5.lt
              have c5 : w5.cell? ⟨gc, 6, none⟩ = some (.int .i64 ((seqV numT 4 s3).1.getD 4 0)) := K5.cell 6
              have C0 := fun W R => tnum_c w W g (seqV numT 5 s3).2 R
              have P0 := Lib.hid (fun W R C => RdT.step (w' := W) T5 (by omega) R C)
              have HT5 := Lib.hid T5.rd
              clear T5
              go_wp2_with fail
              refine (C0 _ HT5.out).mono ?_
              rintro e w6 ⟨rfl, R6, C6⟩
              have T6 := P0.out _ R6 C6
              have RR6 := R6
              clear C0 P0 R6 C6 HT5 c5 f5 s5 K5
              obtain ⟨V5, T6⟩ := T6
              have K5 := (V5.kept _ (.head _)).1
              simp only at K5
              have f5 := K5.frozen 7
              have s5 := K5.lt
              have c5 : w6.cell? ⟨gc, 7, none⟩ = some (.int .i64 ((seqV numT 5 s3).1.getD 5 0)) := K5.cell 7
              have hs6 : (seqV numT 6 s3).2 = (numT (seqV numT 5 s3).2).2 := by rw [seqV_succ]
              have hlr := seqV_len numT s3 6
              have hI6 : ∀ a ∈ (seqV numT 6 s3).1, I64 a := seqV_all numT_I _ _
              have HRV := Lib.hid (show readS bs = endV (seqV numT 6 s3).2 ⟨l1, l2, (seqV numT 6 s3).1⟩ from HRV.out)
              rw [← hs6] at RR6
              generalize (numT (seqV numT 5 s3).2).1 = v6 at *
              generalize (seqV numT 5 s3).1 = r5 at *
              clear hs6
              generalize seqV numT 6 s3 = fin6 at *
              obtain ⟨r6, s6⟩ := fin6
              simp only at T6 HRV hlr hI6 RR6
              have hne : gc ≠ g := (T6.kept _ (.head _)).2.2
              obtain ⟨A6, c6, hA6, _⟩ := RR6.ex
              have q0 : w6.cell? ⟨g, 0, none⟩ = some (.slice A6 s6.bs.length c6) := hA6.cell 0
              have q1 : w6.cell? ⟨g, 1, none⟩ = some (.int .i64 s6.f) := hA6.cell 1
              have q2 : w6.cell? ⟨g, 2, none⟩ = some (.bool s6.g) := hA6.cell 2
              have g0 := hA6.lt
              clear hA6
              by_cases hf : s6.f = 0
              · have hfb : (s6.f != 0) = false := by rw [hf]; rfl
                cases hg : s6.g with
                | true =>
                  rw [hg] at q2
                  have HRW := Lib.hid (show readS bs = (cf0, 4) by rw [HRV.out]; unfold endV; rw [if_neg (fun h => h hf), if_pos (.inl hg)])
                  clear HRV
                  have KV := V5.kept ⟨gr, 27, #[.slice none 0 0, .slice none 0 0, .int .i64 0, .int .i64 0, .int .i64 0, .int .i64 0, .int .i64 0, .int .i64 0]⟩ (by rw [← hZZ]; exact .tail _ (.head _))
                  simp only at KV
                  obtain ⟨K0, kw, kg⟩ := KV
                  have ek := cellsAt_at K0
                  have sk := K0.lt
                  have hne2 : gr ≠ gc := by have := V5.nd; rw [← hZZ] at this; simp at this; exact fun h => this.1.1 h.symm
                  go_wp2_with fail
                  generalize hw7 : w6.setCell ⟨gc, 7, none⟩ _ = w7
                  have T7 : RdT w w7 g s6 (⟨gc, 27, cfgP D k d E j ec r6⟩ :: ZL) 54 2 none 0 0 [] := by rw [← hw7]; exact T6
                  have K1 := (T7.kept ⟨gr, 27, #[.slice none 0 0, .slice none 0 0, .int .i64 0, .int .i64 0, .int .i64 0, .int .i64 0, .int .i64 0, .int .i64 0]⟩ (by rw [← hZZ]; exact .tail _ (.head _))).1
                  simp only at K1
                  generalize hw9 : w7.setRow gr _ = w9
                  have K3 : At w9 gr 27 #[.slice none 0 0, .slice none 0 0, .int .i64 0, .int .i64 0, .int .i64 0, .int .i64 0, .int .i64 0, .int .i64 0] := by rw [← hw9]; exact K1.setRow _
                  have x3 : Ext w w9 := by rw [← hw9]; exact T7.rd.ext.setRow (by omega) _
                  clear hw9 hw7 ek sk K0 K1 T6 T7 RR6 V5 q0 q1 q2
                  have ek := cellsAt_at K3
                  have sk := K3.lt
                  first | refine fin_ret rfl (fun K hK => ?_) | refine fin_norm rfl (fun K hK => ?_)
                  simp [results, Try.results21, go_sem, rsat]
                  try go_simp
                  refine hK _ ?_
                  clear hK K
                  exact ReadC.fail HRW.out x3
                | false =>
                  rw [hg] at q2
                  by_cases hlen : 0 < s6.bs.length
                  · have hli : (0 : Int) < (s6.bs.length : Int) := by omega
                    have HRW := Lib.hid (show readS bs = (cf0, 4) by rw [HRV.out]; unfold endV; rw [if_neg (fun h => h hf), if_pos (.inr hlen)])
                    clear HRV
                    have KV := V5.kept ⟨gr, 27, #[.slice none 0 0, .slice none 0 0, .int .i64 0, .int .i64 0, .int .i64 0, .int .i64 0, .int .i64 0, .int .i64 0]⟩ (by rw [← hZZ]; exact .tail _ (.head _))
                    simp only at KV
                    obtain ⟨K0, kw, kg⟩ := KV
                    have ek := cellsAt_at K0
                    have sk := K0.lt
                    have hne2 : gr ≠ gc := by have := V5.nd; rw [← hZZ] at this; simp at this; exact fun h => this.1.1 h.symm
                    go_wp2_with fail
                    generalize hw7 : w6.setCell ⟨gc, 7, none⟩ _ = w7
                    have T7 : RdT w w7 g s6 (⟨gc, 27, cfgP D k d E j ec r6⟩ :: ZL) 54 2 none 0 0 [] := by rw [← hw7]; exact T6
                    have K1 := (T7.kept ⟨gr, 27, #[.slice none 0 0, .slice none 0 0, .int .i64 0, .int .i64 0, .int .i64 0, .int .i64 0, .int .i64 0, .int .i64 0]⟩ (by rw [← hZZ]; exact .tail _ (.head _))).1
                    simp only at K1
                    generalize hw9 : w7.setRow gr _ = w9
                    have K3 : At w9 gr 27 #[.slice none 0 0, .slice none 0 0, .int .i64 0, .int .i64 0, .int .i64 0, .int .i64 0, .int .i64 0, .int .i64 0] := by rw [← hw9]; exact K1.setRow _
                    have x3 : Ext w w9 := by rw [← hw9]; exact T7.rd.ext.setRow (by omega) _
                    clear hw9 hw7 ek sk K0 K1 T6 T7 RR6 V5 q0 q1 q2
                    have ek := cellsAt_at K3
                    have sk := K3.lt
                    first | refine fin_ret rfl (fun K hK => ?_) | refine fin_norm rfl (fun K hK => ?_)
                    simp [results, Try.results21, go_sem, rsat]
                    try go_simp
                    refine hK _ ?_
                    clear hK K
                    exact ReadC.fail HRW.out x3
                  · have hli : ¬ (0 : Int) < (s6.bs.length : Int) := by omega
                    have hk1 : l1.length = k := hk1'
                    have hI1 := HI1.out
                    have hI2 := HI2.out
                    obtain ⟨x, hx⟩ : ∃ x : Cfg, x = ⟨D, d, l1, E, ec, l2, r6.getD 0 0, r6.getD 1 0, r6.getD 2 0, r6.getD 3 0, r6.getD 4 0, r6.getD 5 0⟩ := ⟨_, rfl⟩
                    have hr6 : restN x = r6 := by
                      rw [hx]
                      match r6, hlr with
                      | [_, _, _, _, _, _], _ => rfl
                    have K9 : At (w6.setCell ⟨gc, 7, none⟩ (.int .i64 v6)) gc 27 #[.slice x.A x.l.length x.c, .slice x.B x.t.length x.d, .int .i64 x.ix, .int .i64 x.f1, .int .i64 x.f2, .int .i64 x.f3, .int .i64 x.h1, .int .i64 x.h2] := by
                      have := (T6.kept _ (.head _)).1
                      rw [hx, hk1, hj1']
                      exact this
                    have HXA := Lib.hid (show ∀ W, (∀ b ∈ Z ++ Z2, At W b.b b.t b.cs) → x.At W from fun W hW => by
                      have RD := HZ.out W (fun b hb => hW b (List.mem_append_left _ hb))
                      have RE := HZ2.out W (fun b hb => hW b (List.mem_append_right _ hb))
                      rw [← hk1] at RD
                      rw [← hj1'] at RE
                      subst hx
                      exact ⟨⟨RD.le, RD.max, RD.src⟩, hI1, ⟨RE.le, RE.max, RE.src⟩, hI2, getD_I hI6 _, getD_I hI6 _, getD_I hI6 _, getD_I hI6 _, getD_I hI6 _, getD_I hI6 _⟩)
                    have HRW := Lib.hid (show readS bs = (if (checkI x).1 ≠ 0 then (cf0, (checkI x).1) else (⟨x.l, x.t, restN x⟩, 0)) by
                      rw [HRV.out, hr6]
                      unfold endV
                      rw [if_neg (fun h => h hf), if_neg (fun h => h.elim (fun h => by rw [hg] at h; cases h) hlen)]
                      subst hx
                      rfl)
                    clear HRV hx hr6 hI1 hI2 hk1 hj1'
                    have e9 := cellsAt_at K9
                    have s9 := K9.lt
                    go_wp2_with fail
                    generalize hw7 : w6.setCell ⟨gc, 7, none⟩ _ = w7
                    have T8 : RdT w w7 g s6 (⟨gc, 27, cfgP D k d E j ec r6⟩ :: ZL) 54 2 none 0 0 [] := by rw [← hw7]; exact T6
                    rw [hw7] at K9
                    clear hw7 T6 RR6 V5 c5 f5 s5 K5 q0 q1 q2 g0 e9 s9
                    refine (rcheck_c x w7 (HXA.out w7 (fun b hb => (T8.kept b (by rw [← hZZ]; exact .tail _ (.tail _ hb))).1))).mono ?_
                    rintro e w9 ⟨rfl, hx9⟩
                    have T9 := T8.extR hx9
                    have K10 := K9.ext hx9
                    clear T8 K9
                    have K0 := (T9.kept ⟨gr, 27, #[.slice none 0 0, .slice none 0 0, .int .i64 0, .int .i64 0, .int .i64 0, .int .i64 0, .int .i64 0, .int .i64 0]⟩ (by rw [← hZZ]; exact .tail _ (.head _))).1
                    simp only at K0
                    have ek := cellsAt_at K0
                    have sk := K0.lt
                    have e9 := cellsAt_at K10
                    have s9 := K10.lt
                    by_cases hck : (checkI x).1 = 0
                    · have hcb : ((checkI x).1 != 0) = false := by rw [hck]; rfl
                      have HRX := Lib.hid (show readS bs = (⟨x.l, x.t, restN x⟩, 0) by rw [HRW.out, if_neg (fun h => h hck)])
                      clear HRW
                      go_wp2_with fail
                      generalize hw3 : w9.setRow gr _ = w10
                      have K3 : At w10 gr 27 #[.slice x.A x.l.length x.c, .slice x.B x.t.length x.d, .int .i64 x.ix, .int .i64 x.f1, .int .i64 x.f2, .int .i64 x.f3, .int .i64 x.h1, .int .i64 x.h2] := by rw [← hw3]; exact K0.setRow _
                      have x3 : Ext w w10 := by rw [← hw3]; exact T9.rd.ext.setRow (by omega) _
                      have HXB := Lib.hid (show x.At w10 from HXA.out w10 (fun b hb => by
                        have hkb := (T9.kept b (by rw [← hZZ]; exact .tail _ (.tail _ hb))).1
                        have hnd := T9.nd
                        rw [← hZZ] at hnd
                        rw [← hw3]
                        refine hkb.rowFar (fun he => ?_) _
                        have hnd2 := (List.nodup_cons.1 hnd).2
                        exact (List.nodup_cons.1 hnd2).1 (List.mem_map.2 ⟨b, hb, he⟩)))
                      clear hw3 ek sk K0
                      have ek := cellsAt_at K3
                      have sk := K3.lt
                      first | refine fin_ret rfl (fun K hK => ?_) | refine fin_norm rfl (fun K hK => ?_)
                      simp [results, Try.results21, go_sem, rsat]
                      try go_simp
                      refine hK _ ?_
                      clear hK K
                      exact ⟨x3, x, by rw [HRX.out], HXB.out, by rw [HRX.out], by rw [HRX.out], by rw [HRX.out]⟩
                    · have hcb : ((checkI x).1 != 0) = true := bne_iff_ne.2 hck
                      have HRX := Lib.hid (show readS bs = (cf0, (checkI x).1) by rw [HRW.out, if_pos hck])
                      clear HRW
                      go_wp2_with fail
                      generalize hw3 : w9.setRow gr _ = w10
                      have K3 : At w10 gr 27 #[.slice none 0 0, .slice none 0 0, .int .i64 0, .int .i64 0, .int .i64 0, .int .i64 0, .int .i64 0, .int .i64 0] := by rw [← hw3]; exact K0.setRow _
                      have x3 : Ext w w10 := by rw [← hw3]; exact T9.rd.ext.setRow (by omega) _
                      clear hw3 ek sk K0
                      have ek := cellsAt_at K3
                      have sk := K3.lt
                      first | refine fin_ret rfl (fun K hK => ?_) | refine fin_norm rfl (fun K hK => ?_)
                      simp [results, Try.results21, go_sem, rsat]
                      try go_simp
                      refine hK _ ?_
                      clear hK K
                      exact ReadC.fail HRX.out x3
              · have hfb : (s6.f != 0) = true := bne_iff_ne.2 hf
                have HRW := Lib.hid (show readS bs = (cf0, s6.f) by rw [HRV.out]; unfold endV; rw [if_pos hf])
                clear HRV
                go_wp2_with fail
                generalize hw7 : w6.setCell ⟨gc, 7, none⟩ _ = w7
                have T7 : RdT w w7 g s6 (⟨gc, 27, cfgP D k d E j ec r6⟩ :: ZL) 54 2 none 0 0 [] := by rw [← hw7]; exact T6
                clear hw7 T6 RR6 c5 f5 s5 K5 q0 q1 q2 g0
                obtain ⟨A7, c7, hA7, _⟩ := T7.rd.ex
                have AX : w7.cell? ⟨g, 1, none⟩ = some (.int .i64 s6.f) := hA7.cell 1
                have gX := hA7.lt
                clear hA7
                refine wp_region_s [0, 0, 0, 0, 0, 1, 0] (fun x => ∀ b ∈ [g], x.heap[b]? = w7.heap[b]?) (by kernel_rfl) (by kernel_rfl) ?_
                refine hls_same (fun K hK => ?_)
                go_simp
                refine hK _ ?_
                clear hK K
                refine hls_same (fun K hK => ?_)
                go_simp
                refine hK _ ?_
                clear hK K
                refine hls_same (fun K hK => ?_)
                go_simp
                refine hK _ ?_
                clear hK K
                refine hls_same (fun K hK => ?_)
                go_simp
                refine hK _ ?_
                clear hK K
                refine hls_same (fun K hK => ?_)
                go_simp
                refine hK _ ?_
                clear hK K
                refine hls_skip (by decide) ?_
                refine hls_same (fun K hK => ?_)
                go_simp
                refine hK _ ?_
                clear hK K
                refine hls_nil ?_
                intro w8 hxw8 K hK
                have T8 := T7.extR hxw8
                have same1 : ∀ b ∈ [g], w8.heap[b]? = w7.heap[b]? := fun b hb => by simp at hb; subst hb; exact hxw8.block _ gX
                clear AX
                have K0 := (T8.kept ⟨gr, 27, #[.slice none 0 0, .slice none 0 0, .int .i64 0, .int .i64 0, .int .i64 0, .int .i64 0, .int .i64 0, .int .i64 0]⟩ (by rw [← hZZ]; exact .tail _ (.head _)))
                simp only at K0
                obtain ⟨K0, kw, kg⟩ := K0
                have ek := cellsAt_at K0
                have sk := K0.lt
                refine ms_pass ?_
                refine ms_pass ?_
                refine ms_pass ?_
                refine ms_pass ?_
                refine ms_pass ?_
                refine ms_do (by decide) (same1) (fun K' hK' => ?_)
                go_wp2_with fail
                generalize hw9 : w8.setRow gr _ = w9
                have K3 : At w9 gr 27 #[.slice none 0 0, .slice none 0 0, .int .i64 0, .int .i64 0, .int .i64 0, .int .i64 0, .int .i64 0, .int .i64 0] := by rw [← hw9]; exact K0.setRow _
                have x3 : Ext w w9 := by rw [← hw9]; exact T8.rd.ext.setRow (by omega) _
                have same2 : ∀ b ∈ [g], w9.heap[b]? = w7.heap[b]? := fun b hb => by rw [← same1 b hb, ← hw9]; simp at hb; subst hb; exact setRow_other _ _ _ _ (by omega)
                clear hw9 ek sk K0
                refine ms_pass ?_
                refine ms_nil (same2) (hK _ _ ?_)
                have ek := cellsAt_at K3
                have sk := K3.lt
                go_wp2_with fail
                first | refine fin_ret rfl (fun K hK => ?_) | refine fin_norm rfl (fun K hK => ?_)
                simp [results, Try.results21, go_sem, rsat]
                try go_simp
                refine hK _ ?_
                clear hK K
                exact ReadC.fail HRW.out x3
end Go.Proofs.Ytfbpmngdamaobaa
