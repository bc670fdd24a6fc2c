/- Law FeedSince. No condition. -/
import Derived.Test.YthophidcgkjdeaaDB
import Derived.Test.YthophidcgkjdeaaRk
namespace Go.Proofs.Ythophidcgkjdeaa
open Go.RowKit Go.Shelf
attribute [local go_sem] Oper.semAt_some Later.cell QUpon_value QUpon_enter MUpon_value run_eql_slice_nil Same.cell cellsAt_sameV
attribute [local go_sem ↓ high] loadMsg_is storeMsg_is
attribute [local go_sem] run_loadMsg run_loadMsg_at run_storeMsg one_int one_bool one_slice one_ptr one_str setRow_new setRow_past cell_ca frozen_ca cellsAt_alloc_at cellsAt_alloc_past cellsAt_drew cellsAt_later cellsAt_setCell cellsAt_set_same cellsAt_setRow_same cellsAt_setRow_far subAt_alloc subAt_drew subAt_later subAt_setCell subAt_setRow ltn_2 ltn_3 ltn_4 ltn_5
theorem subAt_sameV {W : World} {bl : List Nat} (x : Same W bl) (g off n : Nat) (h : g ∈ bl) : subAt x.1 g off n = subAt W g off n := subAt_same fun j _ => x.cell g (off + j) h
attribute [local go_sem] subAt_sameV
/-- Behind the loop that puts. -/
structure Fed (w0 w : World) (ga gb : Nat) (tick : Int) (k : Nat) (l acc : List Mg) : Prop where
  ex : ∃ Aa Ab, Fds w0 w ga gb Aa Ab acc acc
  num : Num tick acc
  len : acc.length ≤ k
/-- Between two rounds. -/
structure SnI (W : World) (gn : Nat) (stop : Int) (pre : List Mg) (X : World) : Prop where
  chg : Chg W X [gn]
  num : At X gn 3 #[.int .i64 (pre.length : Nat)]
  far : 0 < stop → (pre.length : Int) < stop
theorem SnI.ext {W : World} {gn : Nat} {stop : Int} {pre : List Mg} {X Y : World} (h : SnI W gn stop pre X) (hx : Ext X Y) : SnI W gn stop pre Y := ⟨h.chg.extR hx, h.num.ext hx, h.far⟩
/-- Left. -/
structure SnX (W : World) (gn : Nat) (stop : Int) (cd : Code) (pre : List Mg) (X : World) : Prop where
  cd : cd = .exit 4
  chg : Chg W X [gn]
  num : At X gn 3 #[.int .i64 (pre.length : Nat)]
  eq : (pre.length : Int) = stop
  pos : 0 < pre.length
theorem sni_own {W : World} {gn : Nat} {stop : Int} : OwnFrom W.heap.size (fun pre X => SnI W gn stop pre X) := fun s X Y row h hg hr =>
  ⟨h.chg.turn hg (fun r e => (hr r e).1), h.num.turn hg (fun r e => (hr r e).2), h.far⟩
theorem snx_own {W : World} {gn : Nat} {stop : Int} (cd : Code) : OwnFrom W.heap.size (fun pre X => SnX W gn stop cd pre X) := fun s X Y row h hg hr =>
  ⟨h.cd, h.chg.turn hg (fun r e => (hr r e).1), h.num.turn hg (fun r e => (hr r e).2), h.eq, h.pos⟩
set_option maxHeartbeats 4000000 in
set_option maxRecDepth 100000 in
theorem feedsince_c (x : Mgs) (seq stop : Int) (iq : I64 seq) (is : I64 stop) (w : World) (h : x.At w) : Calls Try.prog 4 #[x.v, .int .i64 seq, .int .i64 stop] w fun e w' => e = .returned (.bool true) ∧ Ext w w' := by
  obtain ⟨A, c, l⟩ := x
  obtain ⟨hL, hO⟩ := h
  simp only at hL hO
  simp only [Mgs.v]
  have i5 : I64 5 := ⟨by decide, by decide⟩
  have hlm : l.length ≤ 9223372036854775807 := by have := hL.le; have := hL.max; unfold maxLen at this; omega
  refine (callsIn_wide (n := 6)).1 ?_
  refine callsIn_of_wp_marks Try.func4 rfl trivial ?_ rfl
  simp only [Try.ntmps4, List.size_toArray, List.length_cons, List.length_nil, Nat.reduceAdd, Nat.reduceSub, Array.replicate_succ, Array.replicate_zero, List.push_toArray, List.append_toArray, List.nil_append, List.cons_append]
  gi_wp2_with fail
  refine ⟨trivial, ?_⟩
  gi_at_call 6
  refine (callsIn_wide.2 (alive_c26 _)).mono ?_
  rintro e w1 ⟨rfl, hx1⟩
  have H5 := (show At ((w.alloc (.cells #[.int .i64 stop] 3)).alloc (.cells #[.bool false] 4)) w.heap.size 3 #[.int .i64 stop] from (by repeat (first | (with_reducible exact At.new _ _ _) | ((with_reducible refine At.new' _ _ _ _ ?_); simp; done) | (with_reducible assumption) | (with_reducible refine At.drew ?_) | (with_reducible refine At.alloc ?_ _) | (with_reducible apply At.upd) | (with_reducible apply At.setRow) | (with_reducible refine At.rowFar ?_ (by first | (simp; done) | (simp; omega) | omega) _) | ((with_reducible refine At.far ?_ (by first | (simp; done) | (simp; omega) | omega) _)) | (with_reducible rfl) | (simp; done)))).ext hx1
  have H6 := (show At ((w.alloc (.cells #[.int .i64 stop] 3)).alloc (.cells #[.bool false] 4)) (w.heap.size + 1) 4 #[.bool false] from (by repeat (first | (with_reducible exact At.new _ _ _) | ((with_reducible refine At.new' _ _ _ _ ?_); simp; done) | (with_reducible assumption) | (with_reducible refine At.drew ?_) | (with_reducible refine At.alloc ?_ _) | (with_reducible apply At.upd) | (with_reducible apply At.setRow) | (with_reducible refine At.rowFar ?_ (by first | (simp; done) | (simp; omega) | omega) _) | ((with_reducible refine At.far ?_ (by first | (simp; done) | (simp; omega) | omega) _)) | (with_reducible rfl) | (simp; done)))).ext hx1
  have X1 : Ext w w1 := Ext.trans (by repeat (first | (with_reducible exact Ext.refl _) | (with_reducible assumption) | (with_reducible refine Ext.alloc ?_ _) | (with_reducible refine Ext.drew ?_) | (with_reducible refine Ext.drewN ?_ _) | (with_reducible refine Ext.setCell ?_ (by simp; try omega) _) | (with_reducible refine Ext.setRow ?_ (by simp; try omega) _))) hx1
  have s1 : w.heap.size + 1 < w1.heap.size := H6.lt
  have c6 : w1.cell? ⟨w.heap.size + 1, 0, none⟩ = some (.bool false) := H6.cell 0
  have z6 := H6.frozen 0
  clear hx1
  by_cases hl : 60 < l.length
  · gi_wp2_with fail
    have c7 : (w1.setCell ⟨w.heap.size + 1, 0, none⟩ (.bool true)).cell? ⟨w.heap.size + 1, 0, none⟩ = some (.bool true) := (H6.set 0 (.bool true)).cell 0
    refine ⟨.bool true, ?_, rfl, X1.setCell (by simp) _⟩
    simp [results, Try.results4, go_sem, c7]
  gi_wp2_with fail
  refine ⟨trivial, ?_⟩
  gi_at_call 10
  refine (callsIn_wide.2 (fnew_c _)).mono ?_
  rintro e w2 ⟨rfl, hw2⟩
  have HW2 := Lib.hid hw2
  clear hw2
  gi_wp2_with fail
  obtain ⟨w3, hw3⟩ : ∃ w3, w3 = w2.alloc (.cells #[.slice none 0 0] 32) := ⟨_, rfl⟩
  have D0 : Fds w1 w3 w1.heap.size w2.heap.size none none [] [] := by
    rw [hw3, HW2.out]
    refine ⟨((Ext.refl _).alloc _).alloc _, ⟨by simp [ablk], 0, (At.new _ _ _).alloc _, Row.nil _ _ _ _⟩, ⟨by simp [ablk], 0, At.new _ _ _, Row.nil _ _ _ _⟩, Nat.le_refl _, by simp, by simp, by simp [ablk], by simp [ablk]⟩
  rw [← hw3]
  have hne := D0.ne
  have hga0 := D0.ga_
  have hgb0 := D0.gb_
  clear hw3 HW2
  generalize w1.heap.size = ga at *
  generalize w2.heap.size = gb at *
  gi_loopw [9] (fun i wr => ∃ k : Nat, i = .int .i64 k ∧ k ≤ l.length ∧ Fed w1 wr ga gb 5 k l (putAll 5 (l.take k))) (fun i _ => l.length - (intOf i).toNat)
  case atStart => exact ⟨0, rfl, Nat.zero_le _, ⟨none, none, D0⟩, Num.nil _, Nat.zero_le _⟩
  case round =>
    clear D0
    obtain ⟨k, rfl, hk, HF⟩ := hrel
    obtain ⟨Aa, Ab, D⟩ := HF.ex
    by_cases hk1 : k < l.length
    · obtain ⟨b, off, hA', hbw, e9, _⟩ := hL.msg k hk1
      have hst := putAll_take (tick := 5) hk1
      have hm := hO l[k] (List.getElem_mem hk1)
      generalize l[k] = m at *
      subst hA'
      have hacc := HF.len
      obtain ⟨hN, hNl⟩ := HF.num.step (m := m) i5 hm (by omega)
      have xr := X1.trans D.ext
      have er := (subAt_ext xr hbw).trans e9
      have C1 := feput_c ga Aa _ 5 m (by omega) wr D.a
      rw [← hst] at C1 hN hNl
      have HC1 := Lib.hid C1
      have hbr := Nat.lt_of_lt_of_le hbw xr.size
      clear C1
      gi_wp2_with fail
      refine ⟨trivial, ?_⟩
      gi_at_call 11
      refine (callsIn_wide.2 HC1.out).mono ?_
      rintro e w4 ⟨⟨v4, f4, rfl, _⟩, A4, F4, C4, f4'⟩
      have D4 := D.stepa F4 C4 f4'
      have x4 := X1.trans D4.ext
      have e4 := (subAt_ext x4 hbw).trans e9
      have hb4 := Nat.lt_of_lt_of_le hbw x4.size
      have C2 := refput_c gb Ab _ 5 m (by omega) w4 D4.b
      rw [← hst] at C2
      have HC2 := Lib.hid C2
      clear C2 er hbr
      gi_wp2_with fail
      refine ⟨trivial, ?_⟩
      gi_at_call 12
      refine (callsIn_wide.2 HC2.out).mono ?_
      rintro e w5 ⟨⟨v5, rfl⟩, A5, F5, C5, hf5⟩
      have D5 : Fds w1 w5 ga gb A4 A5 (putAll 5 (l.take (k + 1))) (putAll 5 (l.take (k + 1))) := by
        rcases hf5 with ⟨h1, h2, h3⟩ | h1
        · subst h2
          have := D4.extR h3
          exact ⟨this.ext, this.a, F5, this.ga_, this.gb_, this.ne, this.fa, this.fb⟩
        · exact D4.stepb F5 C5 h1
      gi_wp2_with fail
      go_roundw
      case rel => exact ⟨k + 1, by go_num, by omega, ⟨A4, A5, D5⟩, hN, by omega⟩
      case measure => simp [intOf]; omega
    · obtain rfl : k = l.length := by omega
      have hN := HF.num
      have hlen := HF.len
      generalize putAll 5 (l.take l.length) = acc at *
      clear HF
      gi_wp2_with fail
      refine ⟨trivial, ?_⟩
      gi_at_call 13
      refine (callsIn_wide.2 (rsince_c gb Ab acc seq (by omega) wr D.b)).mono ?_
      rintro e w4 ⟨hx4, A4, c4, rfl, O4⟩
      rw [num_fl hN] at O4 ⊢
      have D4 := D.extR hx4
      obtain ⟨L, hLd⟩ : ∃ L, L = acc.drop (sN seq acc.length) := ⟨_, rfl⟩
      have hLl : L.length ≤ acc.length := by rw [hLd, List.length_drop]; omega
      have hLo : ∀ m ∈ L, m.Ok := fun m hm => hN.ok m (List.mem_of_mem_drop (by rw [← hLd]; exact hm))
      have C5 := fbytes_c ga Aa acc seq iq (by omega) hN.ok
      have C6 := since_c ga Aa acc seq iq (by omega)
      rw [← hLd] at O4 C5 C6 ⊢
      have HC5 := Lib.hid C5
      have HC6 := Lib.hid C6
      clear C5 C6 hLd hx4 D
      gi_wp2_with fail
      obtain ⟨w5, hw5⟩ : ∃ W, W = w4.alloc (.cells #[.slice A4 L.length c4] 22) := ⟨_, rfl⟩
      have x45 : Ext w4 w5 := by rw [hw5]; exact (Ext.refl _).alloc _
      have GW : At w5 w4.heap.size 22 #[.slice A4 L.length c4] := by rw [hw5]; exact At.new _ _ _
      have hgw : w1.heap.size ≤ w4.heap.size := D4.ext.size
      rw [← hw5]
      clear hw5
      generalize w4.heap.size = gw at GW hgw ⊢
      refine ⟨trivial, ?_⟩
      gi_at_call 14
      refine (callsIn_wide.2 (rstream_c A4 c4 L (by omega) w5 (O4.ext x45).lies hLo)).mono ?_
      rintro e w6 ⟨hx6, v6, rfl, OS⟩
      obtain ⟨A6, c6', rfl, O6, _⟩ := OS
      have x46 := x45.trans hx6
      have D6 := D4.extR x46
      gi_wp2_with fail
      refine ⟨trivial, ?_⟩
      gi_at_call 16
      refine (callsIn_wide.2 (HC5.out w6 D6.a)).mono ?_
      rintro e w7 ⟨hx7, v7, rfl, OB⟩
      obtain ⟨A7, c7, rfl, O7, _⟩ := OB
      gi_wp2_with fail
      refine ⟨trivial, ?_⟩
      gi_at_call 15
      refine (callsIn_wide.2 (same_c A7 A6 _ _ c7 c6' _ _ w7 O7.src (O6.ext hx7).src (strM_byt L) (strM_byt L))).mono ?_
      rintro e w8 ⟨rfl, hx8⟩
      rw [decide_eq_true (rfl : (strM L).1 = (strM L).1)]
      have D8 := (D6.extR hx7).extR hx8
      have G8 := ((GW.ext hx6).ext hx7).ext hx8
      have O8 := ((O4.ext x46).ext hx7).ext hx8
      clear O6 O7 D6 GW x46 x45 hx6 hx7 hx8 HC5 O4 D4
      gi_wp2_with fail
      refine ⟨trivial, ?_⟩
      gi_at_call 17
      refine (callsIn_wide.2 (sincenil_c seq w8)).mono ?_
      rintro e w9 ⟨rfl, hx9⟩
      have D9 := D8.extR hx9
      have G9 := G8.ext hx9
      have O9 := O8.ext hx9
      clear D8 G8 O8 hx9
      gi_wp2_with fail
      apply range_b (n := 6) (encs := encM) (V := fun _ _ => False) (Kp := fun _ _ => True) (S := AllS []) (Sp := PreS []) (W0 := w9) (I := fun _ X => Chg w9 X []) (Ix := fun _ _ _ => False) (Ax := fun _ _ _ => True)
      case hro => rfl
      case h1 => decide
      case hg => rfl
      case hF => trivial
      case eg => exact enters_of Try.func27 (by kernel_rfl) rfl
      case hseq => exact none_hands _ _ 5 (by decide) w9
      case hb0 => exact Below.refl _ _
      case hps => exact fun _ => rfl
      case hKt => exact fun _ _ => trivial
      case hKb => exact fun _ _ _ _ _ _ _ => trivial
      case hI => exact fun s X Y row h hg hr => h.turn hg (fun r e => (hr r e).1)
      case hIx => exact fun _ _ _ _ _ h _ _ => h.elim
      case hAx => exact fun _ _ _ _ _ _ _ _ _ => trivial
      case h0 => exact Chg.refl _ _
      case hassign => exact fun _ _ _ _ _ _ h _ => h.elim
      case hbody => exact fun _ _ _ _ _ _ _ h => h.elim
      case hstop => exact fun _ _ _ _ _ _ h _ => h.elim
      case hdone =>
        intro D1 xs X hD1 _ hI hDd
        have xX : Ext w9 X := hI.ext (by simp)
        have DX := D9.extR xX
        have GX := G9.ext xX
        have OX := O9.ext xX
        have sD1 : D1 < X.heap.size := (Array.getElem?_eq_some_iff.1 hDd).1
        have s1' := H6.lt
        have hD1w : w1.heap.size ≤ D1 := Nat.le_trans D9.ext.size hD1
        clear D9 G9 O9 hI xX
        gi_wp2_with fail
        obtain ⟨Y, hY⟩ : ∃ Y, Y = X.alloc (.cells #[.int .i64 0] 3) := ⟨_, rfl⟩
        have xY : Ext X Y := by rw [hY]; exact (Ext.refl _).alloc _
        have NY : At Y X.heap.size 3 #[.int .i64 0] := by rw [hY]; exact At.new _ _ _
        rw [← hY]
        clear hY
        have hgn : w1.heap.size ≤ X.heap.size := DX.ext.size
        have gan : ga < X.heap.size := DX.a.ex.choose_spec.1.lt
        have gwn : gw < X.heap.size := GX.lt
        have aan : ∀ k ∈ ablk Aa, k < X.heap.size := fun k hk => (DX.a.alt k hk).1
        have a4n : ∀ k ∈ ablk A4, k < X.heap.size := fun k hk => (OX.new k hk).2
        generalize X.heap.size = gn at NY hgn gan gwn aan a4n sD1 ⊢
        refine ⟨trivial, ?_⟩
        gi_at_call 17
        refine (callsIn_wide.2 (HC6.out Y (DX.extR xY).a)).mono ?_
        rintro e Z ⟨xz, gf, lb, cb, rfl, hcb, hcl, eg, hH⟩
        have xZ := xY.trans xz
        have DZ := DX.extR xZ
        have GZ := GX.ext xZ
        have OZ := OX.ext xZ
        have NZ := NY.ext xz
        have hDz : Z.heap[D1]? = some (.deferred (some [])) := (xZ.block D1 (Array.getElem?_eq_some_iff.1 hDd).1).trans hDd
        have H5z := H5.ext DZ.ext
        have H6z := H6.ext DZ.ext
        have sn := NY.lt
        have snz := NZ.lt
        have HE := Lib.hid eg
        have HH := Lib.hid hH
        have szz := DZ.ext.size
        clear DX GX OX NY hDd xY eg hH xz xZ
        gi_wp2_with fail
        apply range_f (n := 6) (encs := encM) (V := NextS L) (Kp := KpF cb Aa) (S := AllS L) (Sp := PreS L) (W0 := Z) (I := fun pre V => SnI Z gn stop pre V) (Ix := fun cd pre V => SnX Z gn stop cd pre V) (T := 34) (cl := fun m => #[.int .i64 m.kind, .int .i64 m.sym, .int .i64 m.seq, .int .i64 m.tick, .int .i64 m.id, .int .i64 m.wth, .int .i64 m.price, .int .i64 m.qty, .int .i64 m.code])
        case hro => rfl
        case h1 => decide
        case hg => rfl
        case hF => trivial
        case eg => exact HE.out
        case hseq => exact HH.out 5 Z (by decide) (Ext.refl _)
        case hb0 => exact Below.refl _ _
        case hps => exact fun _ => rfl
        case hKt => exact fun h k => h.trans k
        case hKb => exact KpF.put hcl (fun k hk => by have := aan k hk; omega)
        case hI => exact sni_own
        case hIx => exact fun cd => snx_own cd
        case h0 => exact ⟨Chg.refl _ _, NZ, fun h => h⟩
        case hassign =>
          intro l' pre m V K hI hV hK
          dsimp only [encM]
          gi_wp2
          have hxs := hI.chg.size
          have hBn := At.new V 34 #[.int .i64 m.kind, .int .i64 m.sym, .int .i64 m.seq, .int .i64 m.tick, .int .i64 m.id, .int .i64 m.wth, .int .i64 m.price, .int .i64 m.qty, .int .i64 m.code]
          have k1 : KeepsOthers V (V.alloc (.cells #[.int .i64 m.kind, .int .i64 m.sym, .int .i64 m.seq, .int .i64 m.tick, .int .i64 m.id, .int .i64 m.wth, .int .i64 m.price, .int .i64 m.qty, .int .i64 m.code] 34)) := KeepsOthers.alloc _ _
          have k2 : KpF cb Aa V (V.alloc (.cells #[.int .i64 m.kind, .int .i64 m.sym, .int .i64 m.seq, .int .i64 m.tick, .int .i64 m.id, .int .i64 m.wth, .int .i64 m.price, .int .i64 m.qty, .int .i64 m.code] 34)) := KpF.ext ((Ext.refl _).alloc _) (by omega) (fun k hk => by have := aan k hk; omega)
          have k3 := hI.ext ((Ext.refl _).alloc (.cells #[.int .i64 m.kind, .int .i64 m.sym, .int .i64 m.seq, .int .i64 m.tick, .int .i64 m.id, .int .i64 m.wth, .int .i64 m.price, .int .i64 m.qty, .int .i64 m.code] 34))
          generalize V.heap.size = B at hBn hxs ⊢
          exact hK B _ k1 k2 k3 hxs hBn
        case hbody =>
          intro l' pre m B V hI hB bM hV
          have hnI : ((pre.length : Nat) : Int) < (L.length : Int) := by have := (show pre ++ [m] <+: L from hV).length_le; simp at this; omega
          have cn : V.cell? ⟨gn, 0, none⟩ = some (.int .i64 (pre.length : Nat)) := hI.num.cell 0
          have zn := hI.num.frozen 0
          have sV := hI.num.lt
          have c5 : V.cell? ⟨w.heap.size, 0, none⟩ = some (.int .i64 stop) := (hI.chg.at H5z (by simp; omega)).cell 0
          have cw : V.cell? ⟨gw, 0, none⟩ = some (.slice A4 L.length c4) := (hI.chg.at GZ (by simp; omega)).cell 0
          have OV := OZ.row.chg hI.chg (fun k hk h => by have := a4n k hk; simp at h; omega)
          have eM := cellsAt_at bM
          have sM := bM.lt
          have hpl : pre.length < L.length := by omega
          obtain ⟨ib, off, hA', hbw, e9, _⟩ := (⟨OV.le, OV.max, OV.src⟩ : Lies Mg.cells 9 V A4 c4 L).msg pre.length hpl
          have hLm : L[pre.length] = m := by
            obtain ⟨r, hr⟩ := (show pre ++ [m] <+: L from hV)
            have : L[pre.length]? = some m := by rw [← hr]; simp
            rw [List.getElem?_eq_getElem hpl] at this
            exact Option.some.inj this
          rw [hLm] at e9
          subst hA'
          clear hLm
          gi_wp2_with fail
          refine wp_region_r [0, 0, 0, 0, 0, 0, 0, 0, 0, 0, 0, 0] (fun x => ∀ b ∈ [gn, gw, B, ib], x.heap[b]? = V.heap[b]?) (fun _ => trivial) (by kernel_rfl) (by kernel_rfl) (by kernel_rfl) (by kernel_rfl) (fun _ _ => rfl) ?_
          refine hls_same (fun K hK => ?_)
          go_simp
          refine hK _ ?_
          clear hK K
          refine hls_same (fun K hK => ?_)
          go_simp
          refine hK _ ?_
          clear hK K
          refine hls_same (fun K hK => ?_)
          go_simp
          refine hK _ ?_
          clear hK K
          refine hls_same (fun K hK => ?_)
          go_simp
          refine hK _ ?_
          clear hK K
          refine hls_same (fun K hK => ?_)
          go_simp
          refine hK _ ?_
          clear hK K
          refine hls_same (fun K hK => ?_)
          go_simp
          refine hK _ ?_
          clear hK K
          refine hls_same (fun K hK => ?_)
          go_simp
          refine hK _ ?_
          clear hK K
          refine hls_same (fun K hK => ?_)
          go_simp
          refine hK _ ?_
          clear hK K
          refine hls_same (fun K hK => ?_)
          go_simp
          refine hK _ ?_
          clear hK K
          refine hls_same (fun K hK => ?_)
          go_simp
          refine hK _ ?_
          clear hK K
          refine hls_same (fun K hK => ?_)
          go_simp
          refine hK _ ?_
          clear hK K
          refine hls_same (fun K hK => ?_)
          go_simp
          refine hK _ ?_
          clear hK K
          refine hls_nil ?_
          obtain ⟨U, hU⟩ : ∃ U, U = V.drew := ⟨_, rfl⟩
          have xU : Ext V U := by rw [hU]; exact (Ext.refl V).drew
          have kU : KeepsOthers V U := others_ext xU
          rw [← hU]
          clear hU cn zn c5 cw eM
          have NU := hI.num.ext xU
          have cn : U.cell? ⟨gn, 0, none⟩ = some (.int .i64 (pre.length : Nat)) := NU.cell 0
          have zn := NU.frozen 0
          have sU := NU.lt
          have c5 : U.cell? ⟨w.heap.size, 0, none⟩ = some (.int .i64 stop) := ((hI.chg.extR xU).at H5z (by simp; omega)).cell 0
          have hfar := hI.far
          have HC := Lib.hid ((hI.chg.extR xU).set (p := ⟨gn, 0, none⟩) (.inl (by simp)) (.int .i64 ((pre.length : Nat) + 1)))
          have HN := Lib.hid (NU.set 0 (.int .i64 ((pre.length : Nat) + 1)))
          have HKO := Lib.hid (kU.trans (KeepsOthers.setCell U ⟨gn, 0, none⟩ (.int .i64 ((pre.length : Nat) + 1))))
          have sVU := xU.size
          have HKP := Lib.hid (KpF.chg (cb := cb) (A := Aa) ((Chg.of_ext xU [gn]).set (p := ⟨gn, 0, none⟩) (.inl (by simp)) (.int .i64 ((pre.length : Nat) + 1))) ⟨by have := hI.chg.size; omega, by simp; omega⟩ (fun k hk => ⟨by have := aan k hk; omega, fun h => by have := aan k hk; simp at h; omega⟩))
          have hpl1 : pre.length ≤ 1000 := by omega
          have e1 : (((pre ++ [m]).length : Nat) : Int) = (pre.length : Nat) + 1 := by simp
          have HE1 := Lib.hid e1
          have n5 : w.heap.size ≠ gn := by omega
          clear hI OV e9 hbw xU kU NU e1 hV bM sM
          generalize hq : ((pre.length : Nat) : Int) = q at *
          have hq0 : 0 ≤ q ∧ q ≤ 1000 := by omega
          have hw1 : wrap64 (q + 1) = q + 1 := wrap64_in ⟨by omega, by omega⟩
          have HQ := Lib.hid hq
          clear hq
          by_cases hs : q + 1 = stop
          · have hsb : (q + 1 == stop) = true := beq_iff_eq.2 hs
            have HS := Lib.hid hs
            clear hs hfar
            gi_wp2_with fail
            exact ⟨HKO.out, ⟨rfl, HC.out, by rw [HE1.out]; exact HN.out, by rw [HE1.out]; exact HS.out, by simp⟩⟩
          · have hsb : (q + 1 == stop) = false := beq_eq_false_iff_ne.2 hs
            have HS := Lib.hid hs
            have HF := Lib.hid hfar
            clear hs hfar
            gi_wp2_with fail
            exact ⟨HKO.out, HKP.out, ⟨HC.out, by rw [HE1.out]; exact HN.out, fun h0 => by have h1 := HF.out h0; have h2 := HS.out; rw [HE1.out]; omega⟩⟩
        case hdone =>
          intro D2 xs X2 hD2 hS hI hDd2
          have hS' : xs = L := hS
          rw [hS'] at hI
          clear hS hS'
          have cn : X2.cell? ⟨gn, 0, none⟩ = some (.int .i64 (L.length : Nat)) := hI.num.cell 0
          have hfar := hI.far
          have hC := hI.chg
          have c5 : X2.cell? ⟨w.heap.size, 0, none⟩ = some (.int .i64 stop) := (hC.at H5z (by simp; omega)).cell 0
          have cw : X2.cell? ⟨gw, 0, none⟩ = some (.slice A4 L.length c4) := (hC.at GZ (by simp; omega)).cell 0
          have H6x := hC.at H6z (by simp; omega)
          have c6' : X2.cell? ⟨w.heap.size + 1, 0, none⟩ = some (.bool false) := H6x.cell 0
          have z6' := H6x.frozen 0
          have s6' := H6x.lt
          have hDx : X2.heap[D1]? = some (.deferred (some [])) := (hC.block D1 (by omega) (by simp; omega)).trans hDz
          have xX := hC.extOfV DZ.ext (by simp; omega)
          by_cases h0 : 0 < stop
          · have h1 := hfar h0
            have h2 : ¬ stop < (L.length : Int) := by omega
            clear hfar
            gi_wp2_with fail
            have k3 : KeepsOthers X2 (X2.setCell ⟨w.heap.size + 1, 0, none⟩ (.bool true)) := KeepsOthers.setCell _ _ _
            have d2 := k3.same D2 _ hDd2 rfl
            have d1 : ((X2.setCell ⟨w.heap.size + 1, 0, none⟩ (.bool true)).putObj D2 (.deferred none)).heap[D1]? = some (.deferred (some [])) := (World.putObj_heap_other (by omega)).trans (k3.same D1 _ hDx rfl)
            refine ⟨by simp, .inl ⟨_, _, rfl, run_takeDeferred d2, ?_⟩⟩
            refine ⟨by simp, .inl ⟨_, _, rfl, run_takeDeferred d1, ?_⟩⟩
            have c7 : (((X2.setCell ⟨w.heap.size + 1, 0, none⟩ (.bool true)).putObj D2 (.deferred none)).putObj D1 (.deferred none)).cell? ⟨w.heap.size + 1, 0, none⟩ = some (.bool true) := (((H6x.set 0 (.bool true)).putObj (by omega) _).putObj (by omega) _).cell 0
            refine ⟨.bool true, ?_, rfl, Ext.putObj (Ext.putObj ((X1.trans xX).setCell (by simp) _) (by omega) _) (by omega) _⟩
            simp [results, Try.results4, go_sem, c7]
          · clear hfar
            gi_wp2_with fail
            have k3 : KeepsOthers X2 (X2.setCell ⟨w.heap.size + 1, 0, none⟩ (.bool true)) := KeepsOthers.setCell _ _ _
            have d2 := k3.same D2 _ hDd2 rfl
            have d1 : ((X2.setCell ⟨w.heap.size + 1, 0, none⟩ (.bool true)).putObj D2 (.deferred none)).heap[D1]? = some (.deferred (some [])) := (World.putObj_heap_other (by omega)).trans (k3.same D1 _ hDx rfl)
            refine ⟨by simp, .inl ⟨_, _, rfl, run_takeDeferred d2, ?_⟩⟩
            refine ⟨by simp, .inl ⟨_, _, rfl, run_takeDeferred d1, ?_⟩⟩
            have c7 : (((X2.setCell ⟨w.heap.size + 1, 0, none⟩ (.bool true)).putObj D2 (.deferred none)).putObj D1 (.deferred none)).cell? ⟨w.heap.size + 1, 0, none⟩ = some (.bool true) := (((H6x.set 0 (.bool true)).putObj (by omega) _).putObj (by omega) _).cell 0
            refine ⟨.bool true, ?_, rfl, Ext.putObj (Ext.putObj ((X1.trans xX).setCell (by simp) _) (by omega) _) (by omega) _⟩
            simp [results, Try.results4, go_sem, c7]
        case hstop =>
          intro D2 cd pre X2 hD2 hSp hX hDd2
          obtain ⟨rfl, hC, hN, he, hp⟩ := hX
          have hle := (show pre <+: L from hSp).length_le
          have cn : X2.cell? ⟨gn, 0, none⟩ = some (.int .i64 (pre.length : Nat)) := hN.cell 0
          have c5 : X2.cell? ⟨w.heap.size, 0, none⟩ = some (.int .i64 stop) := (hC.at H5z (by simp; omega)).cell 0
          have cw : X2.cell? ⟨gw, 0, none⟩ = some (.slice A4 L.length c4) := (hC.at GZ (by simp; omega)).cell 0
          have H6x := hC.at H6z (by simp; omega)
          have c6' : X2.cell? ⟨w.heap.size + 1, 0, none⟩ = some (.bool false) := H6x.cell 0
          have z6' := H6x.frozen 0
          have s6' := H6x.lt
          have hDx : X2.heap[D1]? = some (.deferred (some [])) := (hC.block D1 (by omega) (by simp; omega)).trans hDz
          have xX := hC.extOfV DZ.ext (by simp; omega)
          have h0 : 0 < stop := by omega
          by_cases h2 : stop < (L.length : Int)
          · have heb : ((pre.length : Int) == stop) = true := beq_iff_eq.2 he
            clear he
            gi_wp2_with fail
            have k3 : KeepsOthers X2 (X2.setCell ⟨w.heap.size + 1, 0, none⟩ (.bool true)) := KeepsOthers.setCell _ _ _
            have d2 := k3.same D2 _ hDd2 rfl
            have d1 : ((X2.setCell ⟨w.heap.size + 1, 0, none⟩ (.bool true)).putObj D2 (.deferred none)).heap[D1]? = some (.deferred (some [])) := (World.putObj_heap_other (by omega)).trans (k3.same D1 _ hDx rfl)
            refine ⟨by simp, .inl ⟨_, _, rfl, run_takeDeferred d2, ?_⟩⟩
            refine ⟨by simp, .inl ⟨_, _, rfl, run_takeDeferred d1, ?_⟩⟩
            have c7 : (((X2.setCell ⟨w.heap.size + 1, 0, none⟩ (.bool true)).putObj D2 (.deferred none)).putObj D1 (.deferred none)).cell? ⟨w.heap.size + 1, 0, none⟩ = some (.bool true) := (((H6x.set 0 (.bool true)).putObj (by omega) _).putObj (by omega) _).cell 0
            refine ⟨.bool true, ?_, rfl, Ext.putObj (Ext.putObj ((X1.trans xX).setCell (by simp) _) (by omega) _) (by omega) _⟩
            simp [results, Try.results4, go_sem, c7]
          · have heb : ((pre.length : Int) == (L.length : Int)) = true := beq_iff_eq.2 (by omega)
            clear he
            gi_wp2_with fail
            have k3 : KeepsOthers X2 (X2.setCell ⟨w.heap.size + 1, 0, none⟩ (.bool true)) := KeepsOthers.setCell _ _ _
            have d2 := k3.same D2 _ hDd2 rfl
            have d1 : ((X2.setCell ⟨w.heap.size + 1, 0, none⟩ (.bool true)).putObj D2 (.deferred none)).heap[D1]? = some (.deferred (some [])) := (World.putObj_heap_other (by omega)).trans (k3.same D1 _ hDx rfl)
            refine ⟨by simp, .inl ⟨_, _, rfl, run_takeDeferred d2, ?_⟩⟩
            refine ⟨by simp, .inl ⟨_, _, rfl, run_takeDeferred d1, ?_⟩⟩
            have c7 : (((X2.setCell ⟨w.heap.size + 1, 0, none⟩ (.bool true)).putObj D2 (.deferred none)).putObj D1 (.deferred none)).cell? ⟨w.heap.size + 1, 0, none⟩ = some (.bool true) := (((H6x.set 0 (.bool true)).putObj (by omega) _).putObj (by omega) _).cell 0
            refine ⟨.bool true, ?_, rfl, Ext.putObj (Ext.putObj ((X1.trans xX).setCell (by simp) _) (by omega) _) (by omega) _⟩
            simp [results, Try.results4, go_sem, c7]
end Go.Proofs.Ythophidcgkjdeaa
