/- Laws of layer 3: what must come at any rate; unlike numbers. No condition. -/
import Derived.Test.YthhgkmdjplancaaO7
namespace Go.Proofs.Ythhgkmdjplancaa
open Go.RowKit
attribute [local go_sem] Later.cell QUpon_value QUpon_enter MUpon_value run_eql_slice_nil
theorem Wr.new {w : World} {g : Nat} (h : At w g 48 #[.slice none 0 0]) : Wr w g none [] := ⟨(fun x hx => by simp at hx), (fun k hk => by simp [ablk] at hk), ⟨0, h, Row.nil _ _ _ _⟩⟩
theorem Puts.ext0 {w0 w w1 : World} {g : Nat} {A1 : Option Addr} {bs : List Int} (h : Puts w g none bs w1 A1) (hx : Ext w0 w) (hg : w0.heap.size ≤ g) : Ext w0 w1 :=
  (Chg.step (Chg.of_ext hx []) h.chg (fun i hi => by simp [ablk] at hi; right; omega)).ext (by simp)
theorem numB_300 : numB 300 = [172, 2] := by rw [numB_big (by decide), numB_small (by decide)]; rfl
end Go.Proofs.Ythhgkmdjplancaa
