/- PURE FnExactIdLess: the law's function on numbers answers true for all numbers that fit their kinds. -/
import Derived.Test.YtpokafkkfdponaaPFnExactIdLessy
namespace Go.Proofs.Ytpokafkkfdponaa.Pure
open Go.RowKit Go.Proofs.Ytpokafkkfdponaa.PFnExactIdLess Go.Proofs.YtpokafkkfdponaaW.PrintWords Go.Proofs.YtpokafkkfdponaaW.PrintLast

theorem compare_eq (a b : Int) : cmp_Compare_int.f a b = some (if a < b then -1 else if a > b then 1 else 0) := by
  simp [cmp_Compare_int.f, cmp_isNaN_int.f]
  split <;> (try split) <;> rfl
theorem or_eq (a b : Int) : cmp_Or_int.f 3 [a, b] = some (if a = 0 then b else a) := by
  have w1 : wrap64 1 = 1 := by unfold wrap64; omega
  have w2 : wrap64 2 = 2 := by unfold wrap64; omega
  by_cases ha : a = 0
  · by_cases hb : b = 0 <;> simp [cmp_Or_int.f, cmp_Or_int.l0, rd, ha, hb, w1, w2]
  · simp [cmp_Or_int.f, cmp_Or_int.l0, rd, ha]
theorem less_eq (a b c d : Int) : impl_IdLess.f 3 a b c d = spec_IdLess.f a b c d := by
  simp only [impl_IdLess.f, impl_idOrder.f, compare_eq, or_eq, Option.bind_some, spec_IdLess.f]
  by_cases h1 : a < c
  · simp [h1]
  · by_cases h2 : a = c
    · subst h2
      by_cases h3 : b < d
      · simp [h3]
      · by_cases h4 : b > d <;> simp [h3, h4]
    · have h3 : a > c := by omega
      simp [h1, h2, h3]
theorem FnExactIdLess : laws_FnExactIdLess.Pure := by
  intro a b c d _ _
  refine ⟨3, ?_⟩
  have h : ∃ r, spec_IdLess.f a b c d = some r := by unfold spec_IdLess.f; split <;> (try split) <;> exact ⟨_, rfl⟩
  obtain ⟨r, hr⟩ := h
  simp only [laws_FnExactIdLess.f, laws_toId.f, Option.bind_some, less_eq, hr]
  simp
end Go.Proofs.Ytpokafkkfdponaa.Pure
