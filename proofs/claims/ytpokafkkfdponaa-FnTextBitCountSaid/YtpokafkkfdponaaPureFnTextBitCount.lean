/- PURE FnTextBitCount: the law's function on numbers and lists answers true. No condition beyond the sizes that the statement gives. -/
import Derived.Test.YtpokafkkfdponaaUFnTextBitCountBitsSpec
import Derived.Test.YtpokafkkfdponaaUFnTextBitCountDrawText
import Derived.Test.YtpokafkkfdponaaUFnTextBitCountDrawOne
import Derived.Test.YtpokafkkfdponaaPFnTextBitCounty
namespace Go.Proofs.Ytpokafkkfdponaa.Pure
open Go.RowKit Go.Proofs.Ytpokafkkfdponaa.PFnTextBitCount Go.Proofs.Ytpokafkkfdponaa.UFnTextBitCount Go.Proofs.Ytpokafkkfdponaa.Base Go.Proofs.YtpokafkkfdponaaW.PrintWords Go.Proofs.YtpokafkkfdponaaW.PrintLast Go.Proofs.YtpokafkkfdponaaW.PrintMore

theorem place_some (b : List Int) (p : Int) (hb : Src b) (hp : 0 ≤ p) (hp1 : p ≤ 1000000) : ∃ s, Ev (fun k => spec_l11Place.f k b p) (s, p + 1) := by
  obtain ⟨s, hs, _⟩ := one_some b p [0, 1, 2, -1, -2, 5, -9, 100, 1000000000, 1000000001] (fun _ => True) hb hp hp1 (by simp) (by simp) (fun _ _ => trivial)
  exact ⟨s, by unfold spec_l11Place.f; exact Ev.bind hs (Ev.all fun k => rfl)⟩
theorem drawn (l : List Int) (h : ∀ x ∈ l, (Lit.int .u8 x).wf = true) : ∃ s a b, Ev (fun k => spec_DrawTextBitCount.f k l) (s, a, b) ∧ s.size ≤ 41 := by
  obtain ⟨c, hc, hC⟩ := open_code l h
  obtain ⟨s1, h1, z1⟩ := text_some c 0 hC (by omega) (by omega)
  obtain ⟨s2, h2, z2⟩ := text_some c (0 + 1) hC (by omega) (by omega)
  obtain ⟨s3, h3, z3⟩ := many_some ⟨#[120]⟩ rfl 41 (by omega) (by omega)
  obtain ⟨s, h4, z4⟩ := of_some c (0 + 1 + 1) [s1, s2, s3] (fun x => x.size ≤ 41) hC (by omega) (by omega) (by simp) (by simp) (by
    intro x hx
    simp only [List.mem_cons, List.not_mem_nil, or_false] at hx
    rcases hx with rfl | rfl | rfl <;> omega)
  obtain ⟨a, h5⟩ := place_some c (0 + 1 + 1 + 1) hC (by omega) (by omega)
  obtain ⟨b, h6⟩ := place_some c (0 + 1 + 1 + 1 + 1) hC (by omega) (by omega)
  refine ⟨s, a, b, ?_, z4⟩
  unfold spec_DrawTextBitCount.f
  exact Ev.pure hc (Ev.bind h1 (Ev.bind h2 (Ev.bind h3 (Ev.bind h4 (Ev.bind h5 (Ev.bind h6 (Ev.all fun k => rfl)))))))
theorem gb_front (s : ByteArray) (c i : Nat) (hc : c ≤ s.size) (h : i < 8 * c) : gb (s.extract 0 c) i = gb s i := by
  have e : (s.extract 0 c).size = c := by simp; omega
  unfold gb
  rw [e, if_pos (by omega), if_pos (by omega)]
  have : bt (s.extract 0 c) (i / 8 : Nat) = bt s (i / 8 : Nat) := by
    unfold bt
    rw [dif_pos (by simp; omega), dif_pos (by simp; omega)]
    simp [ByteArray.getElem_extract]
  rw [this]
theorem gb_back (s : ByteArray) (c i : Nat) (hc : c ≤ s.size) (h : i < 8 * (s.size - c)) : gb (s.extract c s.size) i = gb s (8 * c + i) := by
  have e : (s.extract c s.size).size = s.size - c := by simp
  unfold gb
  rw [e, if_pos (by omega), if_pos (by omega), show (8 * c + i) % 8 = i % 8 by omega, show (8 * c + i) / 8 = c + i / 8 by omega]
  have : bt (s.extract c s.size) (i / 8 : Nat) = bt s (c + i / 8 : Nat) := by
    unfold bt
    rw [dif_pos (by simp; omega), dif_pos (by simp; omega)]
    have q : c + ((i / 8 : Nat) : Int).toNat = ((c + i / 8 : Nat) : Int).toNat := by omega
    simp only [ByteArray.getElem_extract, q]
  rw [this]
theorem gs_congr (s t : ByteArray) (i j n : Nat) (h : ∀ m, m < n → gb s (i + m) = gb t (j + m)) : gs s i n = gs t j n := by
  induction n with
  | zero => rfl
  | succ n ih =>
    simp only [gs]
    rw [ih (fun m hm => h m (by omega)), h n (by omega)]
theorem last_loop (s : ByteArray) (hs : s.size ≤ 40) (n c t : Int) (r : Bool) (d : Nat) : ∀ (i : Nat) (acc : Int), i + d = 8 * s.size → 0 ≤ acc → acc + d ≤ 100000 →
    Ev (fun k => laws_FnTextBitCount.l0 k s n c t (acc + gs s i d) ((8 * s.size : Nat) : Int)) r → Ev (fun k => laws_FnTextBitCount.l0 k s n c t acc i) r := by
  induction d with
  | zero =>
    intro i acc h _ _ hr
    simp only [gs, Int.add_zero] at hr
    rw [show i = 8 * s.size by omega]
    exact hr
  | succ d ih =>
    intro i acc h h0 h1 hr
    have g := gb_bound s i
    rw [gs_front, ← Int.add_assoc] at hr
    refine Ev.step (fun k => ?_) (ih (i + 1) (acc + gb s i) (by omega) (by omega) (by omega) hr)
    simp only [laws_FnTextBitCount.l0]
    rw [w64 (n := 8 * (s.size : Int)) (by omega) (by omega), if_pos (by omega), bitGet_eq s hs i (by omega)]
    simp only [Option.bind_some]
    rw [w64 (by omega) (by omega), w64 (by omega) (by omega)]
    rfl
theorem FnTextBitCount : laws_FnTextBitCount.Pure := by
  intro l0 l1 hl0 _
  have hw0 := hl0.2
  refine Ev.rounds ?_
  have hj : ∀ k, laws_FnTextBitCount.j0 (k + 1) l0 l1 true = some true := fun k => by simp [laws_FnTextBitCount.j0]
  unfold laws_FnTextBitCount.f
  by_cases c0 : (l0.length : Int) > 1048576
  · simp only [if_pos c0]
    exact Ev.one hj
  simp only [if_neg c0]
  by_cases c1 : (l1.length : Int) > 1048576
  · simp only [decide_eq_true c1]
    exact Ev.one hj
  simp only [decide_eq_false c1]
  obtain ⟨s, a, b, hd, hz⟩ := drawn l0 hw0
  refine Ev.step (fun k => by simp only [laws_FnTextBitCount.j0]; rw [if_neg (by decide)]) (Ev.bind hd (Ev.bind (count_eq s a b) (Ev.bind (spec_count_eq s a b) ?_)))
  simp only [if_true]
  by_cases c2 : (s.size : Int) > 40
  · simp only [decide_eq_true c2]
    refine Ev.step (f := fun k => (spec_TextBitCount.f k s a b).bind fun t => some (ones s a b == t)) (fun k => by simp only [laws_FnTextBitCount.j1, if_true]) (Ev.bind (spec_count_eq s a b) (Ev.all fun k => by rw [beq_self_eq_true]))
  simp only [decide_eq_false c2]
  have hs : s.size ≤ 40 := by omega
  have wl : wrap64 ((s.size : Int) + 1) = s.size + 1 := w64 (by omega) (by omega)
  refine Ev.step (fun k => by simp only [laws_FnTextBitCount.j1, wl]; rw [if_neg (by decide), if_neg (by omega)]) (Ev.bind (count_eq s 0 (-1)) ?_)
  rw [ones_all s hs]
  refine last_loop s hs _ _ _ _ (8 * s.size) 0 0 (by omega) (by omega) (by omega) ?_
  rw [Int.zero_add]
  obtain ⟨c, hc, hcs⟩ : ∃ c : Nat, (l1.length : Int) % (s.size + 1) = c ∧ c ≤ s.size := by
    have := Int.emod_nonneg (l1.length : Int) (b := (s.size : Int) + 1) (by omega)
    have := Int.emod_lt_of_pos (l1.length : Int) (b := (s.size : Int) + 1) (by omega)
    exact ⟨((l1.length : Int) % (s.size + 1)).toNat, by omega, by omega⟩
  rw [hc]
  have e1 : (s.extract 0 c).size = c := by simp; omega
  have e2 : (s.extract c s.size).size = s.size - c := by simp
  have o1 := count_eq (s.extract 0 c) 0 (-1)
  have o2 := count_eq (s.extract c s.size) 0 (-1)
  rw [ones_all _ (by omega), e1, gs_congr (s.extract 0 c) s 0 0 (8 * c) (fun m hm => by rw [Nat.zero_add]; exact gb_front s c m hcs hm)] at o1
  rw [ones_all _ (by omega), e2, gs_congr (s.extract c s.size) s 0 (8 * c) (8 * (s.size - c)) (fun m hm => by rw [Nat.zero_add]; exact gb_back s c m hcs hm)] at o2
  have sum : gs s 0 (8 * c) + gs s (8 * c) (8 * (s.size - c)) = gs s 0 (8 * s.size) := by
    have := gs_add s 0 (8 * c) (8 * (s.size - c))
    rw [Nat.zero_add, show 8 * c + 8 * (s.size - c) = 8 * s.size by omega] at this
    exact this.symm
  have g1 := gs_bound s 0 (8 * s.size)
  have hn : 0 ≤ ones s a b ∧ ones s a b ≤ gs s 0 (8 * s.size) := by
    unfold ones
    rw [if_neg (by omega)]
    split
    · have h := sp_bound (n := s.size) (a := a) (b := b) (by omega)
      have q1 := gs_bound s (8 * (sp s.size a b).1.toNat) (8 * ((sp s.size a b).2 - (sp s.size a b).1).toNat)
      have q2 := gs_add s 0 (8 * (sp s.size a b).1.toNat) (8 * ((sp s.size a b).2 - (sp s.size a b).1).toNat)
      have q3 := gs_add s 0 (8 * (sp s.size a b).1.toNat + 8 * ((sp s.size a b).2 - (sp s.size a b).1).toNat) (8 * s.size - (8 * (sp s.size a b).1.toNat + 8 * ((sp s.size a b).2 - (sp s.size a b).1).toNat))
      rw [show 8 * (sp s.size a b).1.toNat + 8 * ((sp s.size a b).2 - (sp s.size a b).1).toNat + (8 * s.size - (8 * (sp s.size a b).1.toNat + 8 * ((sp s.size a b).2 - (sp s.size a b).1).toNat)) = 8 * s.size by omega] at q3
      have q4 := gs_bound s 0 (8 * (sp s.size a b).1.toNat)
      have q5 := gs_bound s (0 + (8 * (sp s.size a b).1.toNat + 8 * ((sp s.size a b).2 - (sp s.size a b).1).toNat)) (8 * s.size - (8 * (sp s.size a b).1.toNat + 8 * ((sp s.size a b).2 - (sp s.size a b).1).toNat))
      rw [Nat.zero_add] at q2
      omega
    · omega
  refine Ev.step (fun k => by simp only [laws_FnTextBitCount.l0]; rw [w64 (n := 8 * (s.size : Int)) (by omega) (by omega), if_neg (by omega), if_pos (by omega), if_pos (by omega), Int.toNat_natCast]) (Ev.bind o1 (Ev.bind o2 (Ev.all fun k => ?_)))
  rw [sum, w64 (by omega) (by omega)]
  simp only [if_true]
  rw [if_pos (by omega)]
  simp only [Option.some.injEq, decide_eq_true_eq]
  exact hn.2
end Go.Proofs.Ytpokafkkfdponaa.Pure
