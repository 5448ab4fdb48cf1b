/- Draws: each draw returns a value within its bounds and moves the place on. Conditions: the code's bytes are bytes, at most 2000 of them; the place is not negative and small. -/
import Derived.Test.YtpokafkkfdponaaBase
import Derived.Test.YtpokafkkfdponaaPFnTextBitx1
namespace Go.Proofs.Ytpokafkkfdponaa.UFnTextBit
open Go.RowKit Go.Proofs.YtpokafkkfdponaaW.PrintWords Go.Proofs.YtpokafkkfdponaaW.PrintLast Go.Proofs.YtpokafkkfdponaaW.PrintMore Go.Proofs.Ytpokafkkfdponaa.PFnTextBit Go.Proofs.Ytpokafkkfdponaa.Base

/-- The code that is drawn from. -/
structure Src (b : List Int) : Prop where
  len : b.length ≤ 2000
  byte : ∀ x ∈ b, 0 ≤ x ∧ x ≤ 255

theorem open_code (l : List Int) (h : ∀ x ∈ l, (Lit.int .u8 x).wf = true) : ∃ b, spec_l1Open.f l = some (b, 0) ∧ Src b := by
  have hb : ∀ x ∈ l, 0 ≤ x ∧ x ≤ 255 := fun x hx => by
    have := h x hx
    simp [Lit.wf, IntKind.min, IntKind.max, IntKind.signed, IntKind.bits] at this
    omega
  unfold spec_l1Open.f
  by_cases h1 : (l.length : Int) > 2000
  · rw [if_pos h1, if_pos (by omega)]
    exact ⟨_, rfl, by simp; omega, fun x hx => hb x (List.mem_of_mem_take hx)⟩
  · rw [if_neg h1]
    exact ⟨_, rfl, by omega, hb⟩

theorem pick_some (b : List Int) (p n : Int) (hb : Src b) (hp : 0 ≤ p) (hp1 : p ≤ 1000000) (hn : n ≤ 1000000) : ∃ r, Ev (fun k => spec_l1Rd_pick.f k b p n) (r, p + 1) ∧ 0 ≤ r ∧ (1 ≤ n → r < n) ∧ (n < 1 → r = 0) := by
  have hl := hb.len
  have wq : wrap64 (p + 1) = p + 1 := w64 (by omega) (by omega)
  have wr : wrap64 (p + 1 - 1) = p := by rw [w64 (by omega) (by omega)]; omega
  by_cases h1 : n < 1
  · refine ⟨0, Ev.one (fun k => ?_), by omega, fun _ => by omega, fun _ => rfl⟩
    simp only [spec_l1Rd_pick.f, wq]
    rw [if_pos h1]
    simp [spec_l1Rd_pick.j0]
  by_cases h2 : (b.length : Int) = 0
  · refine ⟨0, Ev.one (fun k => ?_), by omega, fun _ => by omega, fun _ => rfl⟩
    simp only [spec_l1Rd_pick.f, wq]
    rw [if_neg h1]
    simp [spec_l1Rd_pick.j0, h2]
  have e2 : ((b.length : Int) == 0) = false := beq_eq_false_iff_ne.mpr h2
  by_cases h3 : p < b.length
  · have hB := rd_mem hb.byte hp h3
    have t := tmod_lt (n := n) hB.1 (by omega)
    refine ⟨Int.tmod (rd b p) n, Ev.one (fun k => ?_), t.1, fun _ => t.2, fun h => absurd h h1⟩
    simp only [spec_l1Rd_pick.f, wq]
    rw [if_neg h1, e2]
    simp only [spec_l1Rd_pick.j0, wr]
    rw [if_neg (by decide), if_pos h3, if_pos hp, if_neg (by omega), w64 (by omega) (by omega)]
  · have t1 := tmod_lt (a := p) (n := b.length) hp (by omega)
    have w7 : wrap64 (p * 7) = p * 7 := w64 (by omega) (by omega)
    have w73 : wrap64 (p * 7 + 3) = p * 7 + 3 := w64 (by omega) (by omega)
    have t2 := tmod_lt (a := p * 7 + 3) (n := b.length) (by omega) (by omega)
    have hA := rd_mem hb.byte t1.1 t1.2
    have hB := rd_mem hb.byte t2.1 t2.2
    have q1 : 0 ≤ Int.tdiv p b.length ∧ Int.tdiv p b.length ≤ p := by
      rw [Int.tdiv_eq_ediv_of_nonneg hp]
      exact ⟨Int.ediv_nonneg hp (by omega), Int.ediv_le_self _ hp⟩
    generalize hx1 : rd b (Int.tmod p b.length) = x1 at hA
    generalize hx2 : rd b (Int.tmod (p * 7 + 3) b.length) = x2 at hB
    generalize hx3 : Int.tdiv p b.length = x3 at q1
    have q2 : 0 ≤ Int.tdiv (x1 * 131 + x2 * 1117 + p * 29 + x3 * 53) 64 ∧ Int.tdiv (x1 * 131 + x2 * 1117 + p * 29 + x3 * 53) 64 < 2 ^ 62 := by
      rw [Int.tdiv_eq_ediv_of_nonneg (by omega)]
      omega
    have hx := xor_nonneg (a := x1 * 131 + x2 * 1117 + p * 29 + x3 * 53) (b := Int.tdiv (x1 * 131 + x2 * 1117 + p * 29 + x3 * 53) 64) (by omega) (by omega) q2.1 q2.2
    have t := tmod_lt (n := n) hx (by omega)
    refine ⟨_, Ev.one (fun k => ?_), t.1, fun _ => t.2, fun h => absurd h h1⟩
    simp only [spec_l1Rd_pick.f, wq]
    rw [if_neg h1, e2]
    simp only [spec_l1Rd_pick.j0, wr]
    rw [if_neg (by decide), if_neg h3, if_neg h2, if_pos t1.1, if_pos t1.2]
    simp only [w7, w73]
    rw [if_pos t2.1, if_pos t2.2, if_neg (by omega)]
    simp only [hx1, hx2, hx3]
    simp only [w64 (n := x1) (by omega) (by omega), w64 (n := x2) (by omega) (by omega), w64 (n := x1 * 131) (by omega) (by omega), w64 (n := x2 * 1117) (by omega) (by omega), w64 (n := x3) (by omega) (by omega), w64 (n := p * 29) (by omega) (by omega), w64 (n := x3 * 53) (by omega) (by omega), w64 (n := x1 * 131 + x2 * 1117) (by omega) (by omega), w64 (n := x1 * 131 + x2 * 1117 + p * 29) (by omega) (by omega), w64 (n := x1 * 131 + x2 * 1117 + p * 29 + x3 * 53) (by omega) (by omega), w64 (n := Int.tdiv (x1 * 131 + x2 * 1117 + p * 29 + x3 * 53) 64) (by omega) (by omega)]
end Go.Proofs.Ytpokafkkfdponaa.UFnTextBit
