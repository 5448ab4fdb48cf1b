-- Written by gen.py (a program of this repo) over the translation. Lean checks it.
import Derived.Test.YtpokafkkfdponaaPFnExactIdLessx2
import Derived.Test.YtpokafkkfdponaaOpen
import Derived.Test.YtpokafkkfdponaaPFnExactIdLessx2
namespace Go.Proofs.Ytpokafkkfdponaa.PFnExactIdLess
open Go.RowKit Go.Proofs.YtpokafkkfdponaaW.PrintWords Go.Proofs.YtpokafkkfdponaaW.PrintLast Go.Proofs.YtpokafkkfdponaaW.PrintMore
open Go.Proofs.Ytpokafkkfdponaa.Opens
attribute [local go_sem] max2_int min2_int max_two min_two max_three min_three max_four min_four   -- for this text's walks alone
set_option linter.unusedVariables false
set_option linter.unusedSimpArgs false

def good23 (x : S23) : Prop := (fun x : Int => (Lit.int .i64 x).wf = true) x.f0 ∧ (fun x : Int => (Lit.int .i64 x).wf = true) x.f1
theorem opn23 : Opn Try.prog 23 k23 good23 := Opn.struct (fun a => (⟨a.1, a.2⟩ : S23)) (OpnF.cons (Opn.int Try.underlying3) (by kernel_rfl) (by kernel_rfl) (OpnF.one (Opn.int Try.underlying3) (by kernel_rfl) (by kernel_rfl))) Try.underlying23 (fun _ => rfl) (by kernel_rfl)
def laws_FnExactIdLess.Pure : Prop := ∀ (a0_0 : Int) (a0_1 : Int) (a1_0 : Int) (a1_1 : Int), good23 (⟨a0_0, a0_1⟩ : S23) → good23 (⟨a1_0, a1_1⟩ : S23) → ∃ k, laws_FnExactIdLess.f k a0_0 a0_1 a1_0 a1_1 = some true
end Go.Proofs.Ytpokafkkfdponaa.PFnExactIdLess
