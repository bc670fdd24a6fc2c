/- Small words on blocks that are known whole: a store, a load of the whole. No condition. -/
import Derived.Test.YtgjaiikfgejgoaaSl
import Derived.Test.YtgjaiikfgejgoaaProg
namespace Go.Proofs.Ytgjaiikfgejgoaa
open Go.RowKit
theorem At.upd {w : World} {g : Nat} {t : TypeId} {cs cs' : Array Value} (h : At w g t cs) (i : Nat) (v : Value) (e : cs.setIfInBounds i v = cs') : At (w.setCell ⟨g, i, none⟩ v) g t cs' := e ▸ h.set i v
theorem At.drewN {w : World} {g : Nat} {t : TypeId} {cs : Array Value} (h : At w g t cs) (n : Nat) : At (w.drewN n) g t cs := h
theorem tup_open {α : Type} (P : α → Prop) (x : α) (h : P x) : ∃ y, y = x ∧ P y := ⟨x, rfl, h⟩
end Go.Proofs.Ytgjaiikfgejgoaa
