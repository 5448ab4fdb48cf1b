/- Draws of one number out of several. Conditions as in Draw. -/
import Derived.Test.YtpokafkkfdponaaUFnTextBitDraw
import Derived.Test.YtpokafkkfdponaaPFnTextBitx2
namespace Go.Proofs.Ytpokafkkfdponaa.UFnTextBit
open Go.RowKit Go.Proofs.YtpokafkkfdponaaW.PrintWords Go.Proofs.YtpokafkkfdponaaW.PrintLast Go.Proofs.YtpokafkkfdponaaW.PrintMore Go.Proofs.Ytpokafkkfdponaa.PFnTextBit Go.Proofs.Ytpokafkkfdponaa.Base

theorem one_some (b : List Int) (p : Int) (l : List Int) (P : Int → Prop) (hb : Src b) (hp : 0 ≤ p) (hp1 : p ≤ 1000000) (hl : 1 ≤ l.length) (hl1 : l.length ≤ 1000) (hP : ∀ x ∈ l, P x) :
    ∃ s, Ev (fun k => spec_l1Rd_one.f k b p l) (s, p + 1) ∧ P s := by
  obtain ⟨r, hr, h0, h1, _⟩ := pick_some b p l.length hb hp hp1 (by omega)
  have h2 := h1 (by omega)
  refine ⟨rd l r, ?_, rd_mem hP h0 h2⟩
  unfold spec_l1Rd_one.f
  refine Ev.bind hr (Ev.all fun k => ?_)
  rw [if_pos h0, if_pos h2]
end Go.Proofs.Ytpokafkkfdponaa.UFnTextBit
