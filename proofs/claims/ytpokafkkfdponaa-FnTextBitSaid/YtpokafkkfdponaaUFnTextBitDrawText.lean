/- Draws of a text, and a byte many times over. Conditions as in Draw. -/
import Derived.Test.YtpokafkkfdponaaUFnTextBitDrawOf
import Derived.Test.YtpokafkkfdponaaPFnTextBitx2
namespace Go.Proofs.Ytpokafkkfdponaa.UFnTextBit
open Go.RowKit Go.Proofs.YtpokafkkfdponaaW.PrintWords Go.Proofs.YtpokafkkfdponaaW.PrintLast Go.Proofs.YtpokafkkfdponaaW.PrintMore Go.Proofs.Ytpokafkkfdponaa.PFnTextBit Go.Proofs.Ytpokafkkfdponaa.Base

theorem many_loop (m : Nat) : ∀ (x y : ByteArray) (n : Int), 0 ≤ n → n < 2 ^ m → m ≤ 10 → x.size ≤ 2 ^ (20 - m) → y.size + n * x.size ≤ 1000000 → ∃ s, Ev (fun k => spec_l1Many.l0 k x n y) s ∧ (s.size : Int) = y.size + n * x.size := by
  induction m with
  | zero =>
    intro x y n h0 h1 _ _ _
    obtain rfl : n = 0 := by omega
    exact ⟨y, Ev.one (fun k => by simp [spec_l1Many.l0]), by simp⟩
  | succ m ih =>
    intro x y n h0 h1 hm hx hy
    by_cases hn : n > 0
    · have hd : Int.tdiv n 2 = n / 2 := Int.tdiv_eq_ediv_of_nonneg h0
      have hw : wrap64 (Int.tdiv n 2) = n / 2 := by
        rw [hd]
        have : n < 2 ^ 64 / 4 := Int.lt_of_lt_of_le h1 (by have : (2 : Int) ^ (m + 1) ≤ 2 ^ 10 := by exact_mod_cast Nat.pow_le_pow_right (by decide) hm
                                                           omega)
        exact w64 (by omega) (by omega)
      have ht : Int.tmod n 2 = n % 2 := Int.tmod_eq_emod_of_nonneg h0
      have hxs : (x ++ x).size = x.size + x.size := ByteArray.size_append
      have hp2 : 2 ^ (20 - m) = 2 ^ (20 - (m + 1)) + 2 ^ (20 - (m + 1)) := by rw [show 20 - m = (20 - (m + 1)) + 1 by omega, Nat.pow_succ]; omega
      have hbig : (2 : Nat) ^ (20 - (m + 1)) ≤ 2 ^ 20 := Nat.pow_le_pow_right (by decide) (by omega)
      have hh : n / 2 < 2 ^ m := by
        have : (2 : Int) ^ (m + 1) = 2 ^ m + 2 ^ m := by rw [Int.pow_succ]; omega
        omega
      have hnn : n = 2 * (n / 2) + n % 2 := by omega
      by_cases h2 : n % 2 = 1
      · have hys : (y ++ x).size = y.size + x.size := ByteArray.size_append
        have hsum : (y.size : Int) + n * x.size = (y.size + x.size : Nat) + n / 2 * (x.size + x.size : Nat) := by
          have : n * (x.size : Int) = (2 * (n / 2) + 1) * x.size := by rw [← h2, ← hnn]
          rw [this]
          push_cast
          rw [Int.add_mul, Int.mul_comm 2 (n / 2), Int.mul_assoc, Int.one_mul, Int.two_mul]
          omega
        obtain ⟨s, hs, hl⟩ := ih (x ++ x) (y ++ x) (n / 2) (by omega) hh (by omega) (by rw [hxs]; omega) (by rw [hys, hxs, ← hsum]; exact hy)
        refine ⟨s, Ev.step (fun k => ?_) hs, by rw [hl, hys, hxs, hsum]⟩
        simp only [spec_l1Many.l0]
        rw [if_pos hn, ht, if_pos h2, if_pos, if_pos (by omega), hw]
        have : 0 ≤ n / 2 * (x.size + x.size : Nat) := Int.mul_nonneg (by omega) (by omega)
        omega
      · have hsum : (y.size : Int) + n * x.size = y.size + n / 2 * (x.size + x.size : Nat) := by
          have : n * (x.size : Int) = (2 * (n / 2)) * x.size := by rw [show 2 * (n / 2) = n by omega]
          rw [this]
          push_cast
          rw [Int.mul_comm 2 (n / 2), Int.mul_assoc, Int.two_mul]
        obtain ⟨s, hs, hl⟩ := ih (x ++ x) y (n / 2) (by omega) hh (by omega) (by rw [hxs]; omega) (by rw [hxs, ← hsum]; exact hy)
        refine ⟨s, Ev.step (fun k => ?_) hs, by rw [hl, hxs, hsum]⟩
        simp only [spec_l1Many.l0]
        rw [if_pos hn, ht, if_neg h2, if_pos (by omega), hw]
    · obtain rfl : n = 0 := by omega
      exact ⟨y, Ev.one (fun k => by simp [spec_l1Many.l0]), by simp⟩
theorem many_some (x : ByteArray) (hx : x.size = 1) (n : Int) (h0 : 0 ≤ n) (h1 : n < 1000) : ∃ s, Ev (fun k => spec_l1Many.f k x n) s ∧ (s.size : Int) = n := by
  obtain ⟨s, hs, hl⟩ := many_loop 10 x ⟨#[]⟩ n h0 (by omega) (by decide) (by rw [hx]; decide) (by rw [hx]; simp; show (0 : Int) + n ≤ _; omega)
  refine ⟨s, hs, ?_⟩
  rw [hl, hx]
  show (0 : Int) + n * 1 = n
  omega
theorem text_some (b : List Int) (p : Int) (hb : Src b) (hp : 0 ≤ p) (hp1 : p ≤ 1000000) : ∃ s, Ev (fun k => spec_l11Text.f k b p) (s, p + 1) ∧ s.size ≤ 40 := by
  obtain ⟨m, hm, hml⟩ := many_some ⟨#[120]⟩ rfl 40 (by omega) (by omega)
  obtain ⟨s, hs, h⟩ := of_some b p [⟨#[]⟩, ⟨#[97]⟩, ⟨#[98]⟩, ⟨#[99]⟩, ⟨#[53]⟩, ⟨#[45, 51]⟩, ⟨#[104, 101, 108, 108, 111]⟩, ⟨#[13, 10]⟩, ⟨#[255]⟩, m, ⟨#[57, 57, 57, 57, 57, 57, 57, 57, 57]⟩] (fun x => x.size ≤ 40) hb hp hp1 (by simp) (by simp) (by
    intro x hx
    simp only [List.mem_cons, List.not_mem_nil, or_false] at hx
    rcases hx with rfl | rfl | rfl | rfl | rfl | rfl | rfl | rfl | rfl | rfl | rfl <;> first | decide | omega)
  refine ⟨s, ?_, h⟩
  unfold spec_l11Text.f
  exact Ev.bind hm (Ev.bind hs (Ev.all fun k => rfl))
end Go.Proofs.Ytpokafkkfdponaa.UFnTextBit
