/- PURE FnTextBit: the law's function on numbers and lists answers true. No condition beyond the sizes that the statement gives. -/
import Derived.Test.YtpokafkkfdponaaUFnTextBitBitPut
import Derived.Test.YtpokafkkfdponaaUFnTextBitDrawText
import Derived.Test.YtpokafkkfdponaaUFnTextBitDrawOne
import Derived.Test.YtpokafkkfdponaaPFnTextBity
namespace Go.Proofs.Ytpokafkkfdponaa.Pure
open Go.RowKit Go.Proofs.Ytpokafkkfdponaa.PFnTextBit Go.Proofs.Ytpokafkkfdponaa.UFnTextBit Go.Proofs.Ytpokafkkfdponaa.Base Go.Proofs.YtpokafkkfdponaaW.PrintWords Go.Proofs.YtpokafkkfdponaaW.PrintLast Go.Proofs.YtpokafkkfdponaaW.PrintMore

theorem drawn (l : List Int) (h : ∀ x ∈ l, (Lit.int .u8 x).wf = true) : ∃ s a b, Ev (fun k => spec_DrawTextBitPut.f k l) (s, a, b) ∧ s.size ≤ 41 ∧ -1 ≤ a ∧ a ≤ 1000 := by
  obtain ⟨c, hc, hC⟩ := open_code l h
  obtain ⟨s1, h1, z1⟩ := text_some c 0 hC (by omega) (by omega)
  obtain ⟨s2, h2, z2⟩ := text_some c (0 + 1) hC (by omega) (by omega)
  obtain ⟨s3, h3, z3⟩ := many_some ⟨#[120]⟩ rfl 41 (by omega) (by omega)
  obtain ⟨s, h4, z4⟩ := of_some c (0 + 1 + 1) [s1, s2, s3] (fun x => x.size ≤ 41) hC (by omega) (by omega) (by simp) (by simp) (by
    intro x hx
    simp only [List.mem_cons, List.not_mem_nil, or_false] at hx
    rcases hx with rfl | rfl | rfl <;> omega)
  obtain ⟨q, h5, q0, q1, _⟩ := pick_some c (0 + 1 + 1 + 1) 256 hC (by omega) (by omega) (by omega)
  have q2 := q1 (by omega)
  obtain ⟨a, h6, ha⟩ := one_some c (0 + 1 + 1 + 1 + 1) [0, 7, 8, 15, q, 319, 320, -1] (fun x => -1 ≤ x ∧ x ≤ 1000) hC (by omega) (by omega) (by simp) (by simp) (by
    intro x hx
    simp only [List.mem_cons, List.not_mem_nil, or_false] at hx
    rcases hx with rfl | rfl | rfl | rfl | rfl | rfl | rfl | rfl <;> omega)
  obtain ⟨b, h7, _⟩ := one_some c 0 [0, 1, 1, 2] (fun _ => True) hC (by omega) (by omega) (by simp) (by simp) (fun _ _ => trivial)
  refine ⟨s, a, b, ?_, z4, ha⟩
  unfold spec_DrawTextBitPut.f spec_DrawTextBitGet.f
  refine Ev.bind (a := (s, a)) ?_ (Ev.pure hc (Ev.bind h7 (Ev.all fun k => rfl)))
  exact Ev.pure hc (Ev.bind h1 (Ev.bind h2 (Ev.bind h3 (Ev.bind h4 (Ev.bind h5 (Ev.bind h6 (Ev.all fun k => rfl)))))))
theorem within_eq (x a b : Int) : impl_within.f x a b = some (decide (a ≤ x ∧ x ≤ b)) := by
  unfold impl_within.f
  by_cases h : x ≥ a
  · rw [if_pos h]
    simp
    omega
  · rw [if_neg h]
    simp
    omega
theorem l1In_eq (x a b : Int) : spec_l1In.f x a b = some (decide (a ≤ x ∧ x ≤ b)) := by
  unfold spec_l1In.f
  by_cases h : x ≥ a
  · rw [if_pos h]
    simp
    omega
  · rw [if_neg h]
    simp
    omega
/-- What both return. -/
def put (s : ByteArray) (a b : Int) : ByteArray × Int × Bool := if s.size ≤ 40 ∧ (0 ≤ a ∧ a ≤ 319) ∧ 0 ≤ b ∧ b ≤ 1 then (putb s a.toNat b, gb s a.toNat, true) else (s, 0, false)
theorem impl_put (s : ByteArray) (a b : Int) : impl_TextBitPut.f s a b = some (put s a b) := by
  unfold impl_TextBitPut.f put
  rw [within_eq, within_eq]
  by_cases h1 : s.size ≤ 40
  · rw [if_neg (by omega)]
    simp only [Option.bind_some]
    by_cases h2 : 0 ≤ a ∧ a ≤ 319
    · rw [if_pos (decide_eq_true h2)]
      by_cases h3 : 0 ≤ b ∧ b ≤ 1
      · rw [if_pos (decide_eq_true h3), if_pos ⟨h1, h2, h3⟩]
        obtain ⟨i, rfl⟩ := Int.eq_ofNat_of_zero_le h2.1
        have := bitAt_eq s i (by omega)
        simp only [Int.ofNat_eq_natCast, Int.toNat_natCast] at this ⊢
        rw [this]
        rfl
      · rw [if_neg (by simpa using h3), if_neg (fun h => h3 h.2.2)]
    · rw [if_neg (by simpa using h2), if_neg (fun h => h2 h.2.1)]
  · rw [if_pos (by omega), if_neg (fun h => h1 h.1)]
theorem spec_put_eq (s : ByteArray) (a b : Int) : spec_TextBitPut.f s a b = some (put s a b) := by
  unfold spec_TextBitPut.f spec_l8Bit.f put
  rw [l1In_eq, l1In_eq]
  by_cases h1 : s.size ≤ 40
  · rw [if_pos (by omega)]
    simp only [Option.bind_some]
    by_cases h2 : 0 ≤ a ∧ a ≤ 319
    · rw [if_pos (decide_eq_true h2)]
      by_cases h3 : 0 ≤ b ∧ b ≤ 1
      · rw [if_pos (decide_eq_true h3), if_pos ⟨h1, h2, h3⟩]
        obtain ⟨i, rfl⟩ := Int.eq_ofNat_of_zero_le h2.1
        have := l8Get_eq s i (by omega)
        have q := spec_put s i b h3.1 h3.2
        simp only [Int.ofNat_eq_natCast, Int.toNat_natCast] at this q ⊢
        rw [this]
        simp only [Option.bind_some]
        rw [q]
      · rw [if_neg (by simpa using h3), if_neg (fun h => h3 h.2.2)]
    · rw [if_neg (by simpa using h2), if_neg (fun h => h2 h.2.1)]
  · rw [if_neg (by omega), if_neg (fun h => h1 h.1)]
    rfl
/-- What both TextBitGet return. -/
def get (s : ByteArray) (a : Int) : Int := if s.size ≤ 40 ∧ 0 ≤ a ∧ a ≤ 319 then gb s a.toNat else 0
theorem impl_get (s : ByteArray) (a : Int) : impl_TextBitGet.f s a = some (get s a) := by
  unfold impl_TextBitGet.f get
  rw [within_eq]
  by_cases h1 : s.size ≤ 40
  · rw [if_neg (by omega)]
    simp only [Option.bind_some]
    by_cases h2 : 0 ≤ a ∧ a ≤ 319
    · rw [if_pos (decide_eq_true h2), if_pos ⟨h1, h2⟩]
      obtain ⟨i, rfl⟩ := Int.eq_ofNat_of_zero_le h2.1
      have := bitAt_eq s i (by omega)
      simp only [Int.ofNat_eq_natCast, Int.toNat_natCast] at this ⊢
      rw [this]
      rfl
    · rw [if_neg (by simpa using h2), if_neg (fun h => h2 h.2)]
  · rw [if_pos (by omega), if_neg (fun h => h1 h.1)]
theorem spec_get (s : ByteArray) (a : Int) : spec_TextBitGet.f s a = some (get s a) := by
  unfold spec_TextBitGet.f spec_l8Bit.f get
  rw [l1In_eq]
  by_cases h1 : s.size ≤ 40
  · rw [if_pos (by omega)]
    simp only [Option.bind_some]
    by_cases h2 : 0 ≤ a ∧ a ≤ 319
    · rw [if_pos (decide_eq_true h2), if_pos ⟨h1, h2⟩]
      obtain ⟨i, rfl⟩ := Int.eq_ofNat_of_zero_le h2.1
      have := l8Get_eq s i (by omega)
      simp only [Int.ofNat_eq_natCast, Int.toNat_natCast] at this ⊢
      rw [this]
      rfl
    · rw [if_neg (by simpa using h2), if_neg (fun h => h2 h.2)]
  · rw [if_neg (by omega), if_neg (fun h => h1 h.1)]
    rfl
theorem gs_congr (s t : ByteArray) (i n : Nat) (h : ∀ m, m < n → gb s (i + m) = gb t (i + m)) : gs s i n = gs t i n := by
  induction n with
  | zero => rfl
  | succ n ih =>
    simp only [gs]
    rw [ih (fun m hm => h m (by omega)), h n (by omega)]
theorem gs_behind (s : ByteArray) (n : Nat) : gs s (8 * s.size) n = 0 := by
  induction n with
  | zero => rfl
  | succ n ih =>
    simp only [gs]
    rw [ih]
    unfold gb
    rw [if_neg (by omega)]
    rfl
theorem FnTextBit : laws_FnTextBit.Pure := by
  intro l0 l1 hl0 _
  refine Ev.rounds ?_
  have hj : ∀ k, laws_FnTextBit.j0 (k + 1) l0 l1 true = some true := fun k => by simp [laws_FnTextBit.j0]
  unfold laws_FnTextBit.f
  by_cases c0 : (l0.length : Int) > 1048576
  · simp only [if_pos c0]
    exact Ev.one hj
  simp only [if_neg c0]
  by_cases c1 : (l1.length : Int) > 1048576
  · simp only [decide_eq_true c1]
    exact Ev.one hj
  simp only [decide_eq_false c1]
  obtain ⟨s, a, b, hd, hz, ha0, ha1⟩ := drawn l0 hl0.2
  refine Ev.step (fun k => by simp only [laws_FnTextBit.j0]; rw [if_neg (by decide)]) (Ev.bind hd (Ev.pure (impl_put s a b) (Ev.pure (spec_put_eq s a b) ?_)))
  simp only [if_true, bne_self_eq_false, Bool.false_eq_true, if_false, impl_get, spec_get, Option.bind_some]
  by_cases hok : s.size ≤ 40 ∧ (0 ≤ a ∧ a ≤ 319) ∧ 0 ≤ b ∧ b ≤ 1
  · have hp : put s a b = (putb s a.toNat b, gb s a.toNat, true) := by unfold put; rw [if_pos hok]
    simp only [hp, Bool.not_true]
    obtain ⟨hs, ⟨h0, h1⟩, hb0, hb1⟩ := hok
    obtain ⟨i, rfl⟩ := Int.eq_ofNat_of_zero_le h0
    simp only [Int.ofNat_eq_natCast, Int.toNat_natCast] at hp h0 h1 ha0 ha1 ⊢
    have hxs := putb_size s i b
    have hx : (putb s i b).size ≤ 40 := by omega
    have hg := gb_bound s i
    have fin : Ev (fun k => laws_FnTextBit.j2 k s (i : Int) b (putb s i b) (gb s i) false) true := by
      refine Ev.step (fun k => by simp only [laws_FnTextBit.j2]; rw [if_neg (by decide)]) (Ev.pure (impl_put _ _ _) ?_)
      have e1 : put (putb s i b) i (gb s i) = (putb (putb s i b) i (gb s i), gb (putb s i b) i, true) := by
        unfold put
        rw [if_pos ⟨hx, ⟨by omega, by omega⟩, hg.1, hg.2⟩]
        simp
      have e2 : get (putb s i b) i = b := by
        unfold get
        rw [if_pos ⟨hx, by omega, by omega⟩, Int.toNat_natCast, putb_bit s i b hb0 hb1, if_pos rfl]
      have e3 : get s i = gb s i := by
        unfold get
        rw [if_pos ⟨hs, by omega, by omega⟩, Int.toNat_natCast]
      have e4 : gb (putb s i b) i = b := by rw [putb_bit s i b hb0 hb1, if_pos rfl]
      simp only [e1, e4, impl_get, Option.bind_some, e2, e3, if_true]
      have hys := putb_size (putb s i b) i (gb s i)
      have same : ∀ n, gb (putb (putb s i b) i (gb s i)) n = gb s n := by
        intro n
        rw [putb_bit _ _ _ hg.1 hg.2, putb_bit _ _ _ hb0 hb1]
        by_cases e : n = i
        · rw [if_pos e, e]
        · rw [if_neg e, if_neg e]
      have cnt : gs (putb (putb s i b) i (gb s i)) 0 (8 * (putb (putb s i b) i (gb s i)).size) = gs s 0 (8 * s.size) := by
        rw [gs_congr _ s 0 _ (fun m _ => same _)]
        obtain ⟨q, hq⟩ : ∃ q, (putb (putb s i b) i (gb s i)).size = s.size + q := ⟨_, (Nat.add_sub_cancel' (by omega)).symm⟩
        rw [hq, show 8 * (s.size + q) = 8 * s.size + 8 * q by omega, gs_add, Nat.zero_add, gs_behind]
        omega
      have o1 := count_eq (putb (putb s i b) i (gb s i)) 0 (-1)
      have o2 := count_eq s 0 (-1)
      rw [ones_all _ (by omega), cnt] at o1
      rw [ones_all _ hs] at o2
      refine Ev.bind o1 (Ev.bind o2 (Ev.all fun k => ?_))
      rw [if_pos rfl, if_pos (by omega), w64 (by omega) (by omega)]
      simp only [Option.some.injEq, decide_eq_true_eq]
      omega
    by_cases ho : ((l1.length : Int) % 320) = (i : Int)
    · refine Ev.step (fun k => by simp only [laws_FnTextBit.j1]; rw [if_neg (by decide), if_pos ho]) fin
    · have e5 : get (putb s i b) ((l1.length : Int) % 320) = get s ((l1.length : Int) % 320) := by
        unfold get
        rw [if_pos ⟨hx, by omega, by omega⟩, if_pos ⟨hs, by omega, by omega⟩, putb_bit _ _ _ hb0 hb1, if_neg (by omega)]
      refine Ev.step (fun k => by simp only [laws_FnTextBit.j1]; rw [if_neg (by decide), if_neg ho]) ?_
      simp only [impl_get, Option.bind_some, e5, bne_self_eq_false]
      exact fin
  · have hp : put s a b = (s, 0, false) := by unfold put; rw [if_neg hok]
    simp only [hp, Bool.not_false]
    refine Ev.one (fun k => ?_)
    simp [laws_FnTextBit.j1, impl_get, spec_get]
end Go.Proofs.Ytpokafkkfdponaa.Pure
