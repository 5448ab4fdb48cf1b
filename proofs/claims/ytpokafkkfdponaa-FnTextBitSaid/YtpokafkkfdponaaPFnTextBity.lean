-- Written by gen.py (a program of this repo) over the translation. Lean checks it.
import Derived.Test.YtpokafkkfdponaaPFnTextBitx3
import Derived.Test.YtpokafkkfdponaaOpen
import Derived.Test.YtpokafkkfdponaaPFnTextBitx3
namespace Go.Proofs.Ytpokafkkfdponaa.PFnTextBit
open Go.RowKit Go.Proofs.YtpokafkkfdponaaW.PrintWords Go.Proofs.YtpokafkkfdponaaW.PrintLast Go.Proofs.YtpokafkkfdponaaW.PrintMore
open Go.Proofs.Ytpokafkkfdponaa.Opens
attribute [local go_sem] max2_int min2_int max_two min_two max_three min_three max_four min_four   -- for this text's walks alone
set_option linter.unusedVariables false
set_option linter.unusedSimpArgs false

def laws_FnTextBit.Pure : Prop := ∀ (l0 : List Int) (l1 : List Int), (l0.length * 1 ≤ 140737488351232 ∧ ∀ x ∈ l0, ((Lit.int .u8 x).wf = true)) → (l1.length * 1 ≤ 140737488351232 ∧ ∀ x ∈ l1, ((Lit.int .u8 x).wf = true)) → ∃ k, laws_FnTextBit.f k l0 l1 = some true
end Go.Proofs.Ytpokafkkfdponaa.PFnTextBit
