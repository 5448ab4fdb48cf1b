/- The reference's count of bits is the program's. No condition. -/
import Derived.Test.YtpokafkkfdponaaUFnTextBitCountBits
import Derived.Test.YtpokafkkfdponaaPFnTextBitCountx3
import Derived.Test.YtpokafkkfdponaaPFnTextBitCountx2
namespace Go.Proofs.Ytpokafkkfdponaa.UFnTextBitCount
open Go.RowKit Go.Proofs.YtpokafkkfdponaaW.PrintWords Go.Proofs.YtpokafkkfdponaaW.PrintLast Go.Proofs.YtpokafkkfdponaaW.PrintMore Go.Proofs.Ytpokafkkfdponaa.PFnTextBitCount Go.Proofs.Ytpokafkkfdponaa.Base

theorem l2Place_eq (x : Int) : spec_l2Place.f x = some (pos x) := by
  unfold spec_l2Place.f spec_l1In.f pos
  by_cases h : x ≥ -1000000000
  · rw [if_pos h]
    simp only [Option.bind_some, Option.some.injEq, decide_eq_decide]
    omega
  · rw [if_neg h]
    simp only [Option.bind_some, Option.some.injEq]
    exact (decide_eq_false (by omega)).symm
theorem ends_eq (n a b : Int) (h0 : 0 ≤ n) (h1 : n ≤ 1000000) (ha : pos a = true) (hb : pos b = true) : Ev (fun k => spec_l2Ends.f k n a b) (sp n a b) := by
  have hA : -1000000000 ≤ a ∧ a ≤ 1000000000 := by simpa [pos] using ha
  have hB : -1000000000 ≤ b ∧ b ≤ 1000000000 := by simpa [pos] using hb
  refine ⟨3, fun k hk => ?_⟩
  obtain ⟨k, rfl⟩ : ∃ m, k = m + 3 := ⟨k - 3, by omega⟩
  have q1 : wrap64 (a + n) = a + n := w64 (by omega) (by omega)
  have q2 : wrap64 (b + n) = b + n := w64 (by omega) (by omega)
  have q3 : wrap64 (n - 1) = n - 1 := w64 (by omega) (by omega)
  have q6 : wrap64 (n - 1 + 1) = n := by rw [w64 (by omega) (by omega)]; omega
  have key : ∀ x y : Int, -2000000000 ≤ x → x ≤ 2000000000 → -2000000000 ≤ y → y ≤ 2000000000 →
      spec_l2Ends.j1 (k + 2) n x y = some (if mx x 0 > mn y (n - 1) then (0, 0) else (mx x 0, mn y (n - 1) + 1)) := by
    intro x y hx0 hx1 hy0 hy1
    have q5 : wrap64 (y + 1) = y + 1 := w64 (by omega) (by omega)
    simp only [spec_l2Ends.j1, spec_l2Ends.j2, q3, q5, q6]
    have m1 : x < 0 → mx x 0 = 0 := fun h => by unfold mx; rw [if_pos h]
    have m2 : ¬ x < 0 → mx x 0 = x := fun h => by unfold mx; rw [if_neg h]
    have m3 : y ≥ n → mn y (n - 1) = n - 1 := fun h => by unfold mn; rw [if_pos (by omega)]
    have m4 : ¬ y ≥ n → mn y (n - 1) = y := fun h => by unfold mn; split <;> omega
    by_cases c1 : x < 0
    · rw [if_pos c1, m1 c1]
      by_cases c2 : y ≥ n
      · rw [if_pos c2, m3 c2]
        by_cases c3 : (0 : Int) > n - 1
        · rw [if_pos c3, if_pos c3]
        · rw [if_neg c3, if_neg c3, show n - 1 + 1 = n by omega]
      · rw [if_neg c2, m4 c2]
        by_cases c3 : (0 : Int) > y
        · rw [if_pos c3, if_pos c3]
        · rw [if_neg c3, if_neg c3]
    · rw [if_neg c1, m2 c1]
      by_cases c2 : y ≥ n
      · rw [if_pos c2, m3 c2]
        by_cases c3 : x > n - 1
        · rw [if_pos c3, if_pos c3]
        · rw [if_neg c3, if_neg c3, show n - 1 + 1 = n by omega]
      · rw [if_neg c2, m4 c2]
        by_cases c3 : x > y
        · rw [if_pos c3, if_pos c3]
        · rw [if_neg c3, if_neg c3]
  unfold spec_l2Ends.f sp
  by_cases c1 : a < 0
  · simp only [if_pos c1, q1, spec_l2Ends.j0]
    by_cases c2 : b < 0
    · simp only [if_pos c2, q2]
      exact key _ _ (by omega) (by omega) (by omega) (by omega)
    · simp only [if_neg c2]
      exact key _ _ (by omega) (by omega) (by omega) (by omega)
  · simp only [if_neg c1, spec_l2Ends.j0]
    by_cases c2 : b < 0
    · simp only [if_pos c2, q2]
      exact key _ _ (by omega) (by omega) (by omega) (by omega)
    · simp only [if_neg c2]
      exact key _ _ (by omega) (by omega) (by omega) (by omega)
theorem spec_loop (s : ByteArray) (b : Nat) (hb : b ≤ 1000) (d : Nat) : ∀ (i : Nat) (acc : Int), i + d = 8 * b → 0 ≤ acc → acc + d ≤ 100000 → Ev (fun k => spec_TextBitCount.l0 k s b acc i) (acc + gs s i d) := by
  induction d with
  | zero =>
    intro i acc h _ _
    refine Ev.one (fun k => ?_)
    simp only [spec_TextBitCount.l0]
    rw [w64 (by omega) (by omega), if_neg (by omega)]
    simp [gs]
  | succ d ih =>
    intro i acc h h0 h1
    have g := gb_bound s i
    rw [gs_front, ← Int.add_assoc]
    refine Ev.step (fun k => ?_) (ih (i + 1) (acc + gb s i) (by omega) (by omega) (by omega))
    simp only [spec_TextBitCount.l0]
    rw [w64 (n := 8 * (b : Int)) (by omega) (by omega), if_pos (by omega), l8Get_eq s i (by omega)]
    simp only [Option.bind_some]
    rw [w64 (by omega) (by omega), w64 (by omega) (by omega)]
    rfl
theorem spec_count_eq (s : ByteArray) (a b : Int) : Ev (fun k => spec_TextBitCount.f k s a b) (ones s a b) := by
  have hj : ∀ k, spec_TextBitCount.j0 (k + 1) s a b true = some 0 := fun k => by simp [spec_TextBitCount.j0]
  unfold spec_TextBitCount.f ones
  by_cases hs : 40 < s.size
  · refine Ev.one (fun k => ?_)
    rw [if_pos (by omega), if_pos hs, hj]
  · simp only [if_neg hs, if_neg (show ¬ ((s.size : Int) > 40) by omega), l2Place_eq, Option.bind_some]
    cases ha : pos a with
    | false => exact Ev.one (fun k => by simp [hj])
    | true =>
      cases hb : pos b with
      | false => exact Ev.one (fun k => by simp [hj])
      | true =>
        simp only [if_true, Bool.not_true, Bool.and_self]
        refine Ev.step (fun k => by simp only [spec_TextBitCount.j0]; rw [if_neg (by decide)]) (Ev.bind (ends_eq s.size a b (by omega) (by omega) ha hb) ?_)
        have h := sp_bound (n := s.size) (a := a) (b := b) (by omega)
        have := spec_loop s (sp s.size a b).2.toNat (by omega) (8 * ((sp s.size a b).2 - (sp s.size a b).1).toNat) (8 * (sp s.size a b).1.toNat) 0 (by omega) (by omega) (by omega)
        rw [show (((sp s.size a b).2.toNat : Nat) : Int) = (sp s.size a b).2 by omega, show ((8 * (sp s.size a b).1.toNat : Nat) : Int) = 8 * (sp s.size a b).1 by omega, Int.zero_add] at this
        rw [show wrap64 (8 * (sp s.size a b).1) = 8 * (sp s.size a b).1 from w64 (by omega) (by omega)]
        exact this
end Go.Proofs.Ytpokafkkfdponaa.UFnTextBitCount
