/- Regions that draw their order and only read, within a fence (in a round too). No condition beyond what 'chkS' reckons. -/
import Derived.Test.YthophidcgkjdeaaRs
import Derived.OrdersIn
namespace Go.Proofs.Ythophidcgkjdeaa
open Go.RowKit
section
variable {F : Fence} {n : Nat} {P : Program} {ops : Array Oper} {S : World → Prop} {Qx : Exit → Act → World → Prop} {Q : Act → Prop}
def noDefer (ops : Array Oper) : Bool := ops.toList.all fun o => match o.op with | .defer _ => false | _ => true
theorem noDefer_spec {ops : Array Oper} (h : noDefer ops = true) {i : Nat} {o : Oper} (hi : ops[i]? = some o) (c : Call) : o.op ≠ .defer c := fun e => by
  have := List.all_eq_true.1 h o (by rw [Array.mem_toList_iff]; exact Array.mem_of_getElem? hi)
  rw [e] at this
  cases this
theorem reads_wpOpIn (hfn : ∀ f, F.fn f) {i : Nat} {o : Oper} {v : Value} {a : Act} (hnd : ∀ c, o.op ≠ .defer c) (hi : ops[i]? = some o) (hy : YieldsIf P ops S o v a) {w : World} (hS : S w) {K : Act → World → Prop} (h : K (a.put o.dst v) w) : wpOpIn F n P ops Qx i K a w := by
  unfold Go.wpOpIn
  simp only [hi]
  rcases hy with ⟨hw, hv⟩ | ⟨hw, rfl⟩
  · simp only [hw, if_true]
    refine ⟨fun f _ => hfn f, ?_⟩
    rw [Oper.semAt_eq _ _ _ hnd, hv w hS]
    exact h
  · simp only [hw, Bool.false_eq_true, if_false]
    exact ⟨fun f _ => hfn f, h⟩
theorem wpAnyIn_read {ks : List Nat} (hfn : ∀ f, F.fn f) (hnd : noDefer ops = true) (Fa : FactsS ops ks) : ∀ (fuel : Nat) (listed : Array Bool) (R : List Nat) (a : Act) (w : World),
    RestS ops ks listed R [] → listed.size = ops.size → fuel = R.length → S w →
    HS P ops S (fun a' => Qx .normal a' w) R a → wpAnyIn F n P .any ops Qx fuel listed a w := by
  intro fuel
  induction fuel with
  | zero =>
    intro listed R a w hr hsz hf hS h
    have hR : R = [] := List.eq_nil_of_length_eq_zero (by omega)
    subst hR
    refine ⟨?_, h⟩
    rcases hrd : Region.ready .any ops listed with _ | ⟨i, l⟩
    · rfl
    · have : i ∈ Region.ready .any ops listed := by rw [hrd]; simp
      have := (hr.left i).1 (mem_ready.1 this).1
      simp at this
  | succ fuel ih =>
    intro listed R a w hr hsz hf hS h
    refine ⟨fun h0 => absurd h0 (hr.some_ready Fa hsz (by intro h1; rw [List.append_nil] at h1; rw [h1] at hf; simp at hf)), fun i hi => ?_⟩
    have hun := (mem_ready.1 hi).1
    have hlt : i < listed.size := by
      rcases Nat.lt_or_ge i listed.size with h' | h'
      · exact h'
      · simp [Array.getElem?_eq_none h'] at hun
    rcases (hr.left i).1 hun with hm | hm
    · obtain ⟨R1, R2, rfl⟩ := List.append_of_mem hm
      have hs := hr.sR
      simp only [List.pairwise_append, List.pairwise_cons, List.mem_cons] at hs
      obtain ⟨o, v, ho, hy, hh⟩ := HS.front Fa.sel h (fun j hj oj oi hoj hoi => by
        have hji : j < i := hs.2.2 j hj i (.inl rfl)
        rcases Fa.pair j i hji (hr.hR i hm).1 (hr.hR j (by simp [hj])).2 (hr.hR i hm).2 with h1 | h1
        · exact absurd hi (not_ready hr.clos h1 ((hr.left j).2 (.inl (by simp [hj]))))
        · exact h1 oj oi hoj hoi)
      exact reads_wpOpIn hfn (noDefer_spec hnd ho) ho hy hS (ih _ _ _ _ (hr.take hlt hi) (by simpa using hsz) (by simp at hf ⊢; omega) hS hh)
    · cases hm
/-- **The region's law, within a fence.** -/
theorem wp_region_r {id : Nat} (ks : List Nat) (S : World → Prop) {Q : Exit → Act → World → Prop} {a : Act} {w : World} {l : List Oper} (hfn : ∀ f, F.fn f) (hm : P.follows .mixedOrders = true) (hB : chkS l.toArray ks = true) (hk : others ks 0 l.length = []) (hnd : noDefer l.toArray = true) (hS : S w.drew)
    (h : HLS P l.toArray S (fun a' => Q .normal a' w.drew) l ks a) : (Code.region id l.toArray true).wpIn F n P Q a w := by
  have Fa := FactsS.of_chk hB
  refine wpIn_region_any hm ?_
  have hh := HLS.hs (ks0 := ks) l ks 0 a (fun j o ho => by simpa using ho) (fun j x hx => by simp [hx]) h
  have hlen : l.length = (readers ks 0 l.length).length := by
    have : ∀ (p : Nat → Bool) (L : List Nat), L.length = (L.filter p).length + (L.filter (fun i => !p i)).length := by
      intro p L
      induction L with
      | nil => rfl
      | cons x L ih =>
        by_cases hp : p x = true
        · rw [List.filter_cons_of_pos hp, List.filter_cons_of_neg (by simp [hp])]; simp; omega
        · rw [List.filter_cons_of_neg hp, List.filter_cons_of_pos (by simp at hp; simp [hp])]; simp; omega
    have h3 := this (fun i => ks.getD i 0 == 0) (List.range' 0 l.length)
    have h4 : ((List.range' 0 l.length).filter (fun i => !(ks.getD i 0 == 0))).length = (others ks 0 l.length).length := rfl
    rw [h4, hk, List.length_range'] at h3
    exact h3
  refine wpAnyIn_read (S := S) hfn hnd Fa _ _ (readers ks 0 l.length) a w.drew ⟨fun i => ?_, ?_, .nil, fun i hi => ?_, fun i hi => (by cases hi), fun k o hk => ?_⟩ (by simp) (by simpa using hlen) hS hh
  · rw [← hk]
    simp only [readers, others, List.mem_filter, List.mem_range'_1, Array.getD_eq_getD_getElem?, Array.getElem?_replicate, List.size_toArray]
    constructor
    · intro h0
      by_cases hi : i < l.length
      · by_cases hk : ks.getD i 0 = 0
        · exact .inl ⟨by omega, by simpa using hk⟩
        · exact .inr ⟨by omega, by simpa using hk⟩
      · simp [hi] at h0
    · intro h0
      have hi : i < l.length := by omega
      simp [hi]
  · exact List.Pairwise.filter _ List.pairwise_lt_range'
  · simp only [readers, List.mem_filter, List.mem_range'_1, List.size_toArray] at hi ⊢
    exact ⟨by omega, by simpa using hi.2⟩
  · simp only [Array.getD_eq_getD_getElem?, Array.getElem?_replicate] at hk
    split at hk <;> simp at hk
end
end Go.Proofs.Ythophidcgkjdeaa
