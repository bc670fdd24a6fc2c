/- What an int64 argument's form says of its number. -/
import Derived.Test.YtfbpmngdamaobaaFP
import Derived.Test.YtfbpmngdamaobaaFr
namespace Go.Proofs.Ytfbpmngdamaobaa
theorem I64.of_wf {a : Int} (h : (Lit.int .i64 a).wf = true) : I64 a := by
  simp only [Lit.wf, Bool.and_eq_true, decide_eq_true_eq] at h
  have e1 : IntKind.i64.min = -9223372036854775808 := by decide
  have e2 : IntKind.i64.max = 9223372036854775807 := by decide
  rw [e1, e2] at h
  exact ⟨h.1, h.2⟩
end Go.Proofs.Ytfbpmngdamaobaa
