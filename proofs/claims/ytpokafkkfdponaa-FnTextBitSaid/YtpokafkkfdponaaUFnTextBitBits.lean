/- The bits of a text of at most 40 bytes: what a bit is, and how many bits are one between two places, in the program and in the reference. Conditions: the text has at most 40 bytes. -/
import Derived.Test.YtpokafkkfdponaaBase
import Derived.Test.YtpokafkkfdponaaPFnTextBitx1
import Derived.Test.YtpokafkkfdponaaPFnTextBitx2
import Derived.Test.YtpokafkkfdponaaPFnTextBitx1
namespace Go.Proofs.Ytpokafkkfdponaa.UFnTextBit
open Go.RowKit Go.Proofs.YtpokafkkfdponaaW.PrintWords Go.Proofs.YtpokafkkfdponaaW.PrintLast Go.Proofs.YtpokafkkfdponaaW.PrintMore Go.Proofs.Ytpokafkkfdponaa.PFnTextBit Go.Proofs.Ytpokafkkfdponaa.Base

/-- Bit i of a text. -/
def gb (s : ByteArray) (i : Nat) : Int := if i / 8 < s.size then bt s (i / 8 : Nat) / 2 ^ (7 - i % 8) % 2 else 0
/-- The sum of n bits from i on. -/
def gs (s : ByteArray) (i : Nat) : Nat → Int
  | 0 => 0
  | n + 1 => gs s i n + gb s (i + n)
theorem gb_bound (s : ByteArray) (i : Nat) : 0 ≤ gb s i ∧ gb s i ≤ 1 := by
  unfold gb
  split <;> omega
theorem gs_bound (s : ByteArray) (i n : Nat) : 0 ≤ gs s i n ∧ gs s i n ≤ n := by
  induction n with
  | zero => simp [gs]
  | succ n ih =>
    have := gb_bound s (i + n)
    simp only [gs]
    omega
theorem gs_add (s : ByteArray) (i m n : Nat) : gs s i (m + n) = gs s i m + gs s (i + m) n := by
  induction n with
  | zero => simp [gs]
  | succ n ih =>
    rw [show m + (n + 1) = (m + n) + 1 by omega]
    simp only [gs]
    rw [ih, show i + m + n = i + (m + n) by omega]
    omega
theorem gs_front (s : ByteArray) (i n : Nat) : gs s i (n + 1) = gb s i + gs s (i + 1) n := by
  rw [show n + 1 = 1 + n by omega, gs_add]
  simp [gs]

theorem div8 {i : Nat} (h : i < 4000000) : wrap64 (Int.tdiv (i : Int) 8) = ((i / 8 : Nat) : Int) := by
  rw [Int.tdiv_eq_ediv_of_nonneg (by omega), w64 (by omega) (by omega)]
  omega
theorem sub8 {i : Nat} (h : i < 4000000) : wrap64 (7 - Int.tmod (i : Int) 8) = ((7 - i % 8 : Nat) : Int) := by
  rw [Int.tmod_eq_emod_of_nonneg (by omega), w64 (by omega) (by omega)]
  omega
theorem shr_bound {x : Int} (h0 : 0 ≤ x) (h1 : x ≤ 255) (j : Nat) : 0 ≤ x / 2 ^ j ∧ x / 2 ^ j ≤ 255 := by
  have hp : (1 : Int) ≤ 2 ^ j := by exact_mod_cast Nat.one_le_two_pow
  exact ⟨Int.ediv_nonneg h0 (by omega), Int.le_trans (Int.ediv_le_self _ h0) h1⟩
theorem bit_val (s : ByteArray) (i : Nat) (h : i / 8 < s.size) (k : IntKind) (hk : 8 ≤ k.bits) (x : Int) (hx : x = bt s (i / 8 : Nat)) :
    Go.bits .and .i64 (wrap64 (shr k x ((7 - i % 8 : Nat) : Int))) 1 = gb s i ∧ Go.bits .and .i64 (shr k x ((7 - i % 8 : Nat) : Int)) 1 = gb s i := by
  have hb := bt_bound s (i / 8 : Nat)
  have e : shr k x ((7 - i % 8 : Nat) : Int) = bt s (i / 8 : Nat) / 2 ^ (7 - i % 8) := by
    unfold shr
    rw [hx, Int.toNat_natCast, Nat.min_eq_left (by omega)]
  have hs := shr_bound hb.1 hb.2 (7 - i % 8)
  rw [e, w64 (by omega) (by omega), and1 hs.1 (by omega)]
  unfold gb
  rw [if_pos h]
  exact ⟨rfl, rfl⟩
theorem l8Get_eq (s : ByteArray) (i : Nat) (hi : i < 4000000) : spec_l8Get.f s i = some (gb s i) := by
  unfold spec_l8Get.f
  rw [div8 hi, sub8 hi]
  by_cases h : i / 8 < s.size
  · have hb := bt_bound s (i / 8 : Nat)
    rw [if_neg (by omega), if_pos (by omega), if_pos (by omega), if_pos (by omega), w64 (n := bt s (i / 8 : Nat)) (by omega) (by omega)]
    rw [(bit_val s i h .i64 (by decide) _ rfl).2]
  · rw [if_pos (by omega)]
    unfold gb
    rw [if_neg h]
theorem bitAt_eq (s : ByteArray) (i : Nat) (hi : i < 4000000) : impl_bitAt.f s i = some (gb s i) := by
  unfold impl_bitAt.f
  rw [div8 hi, sub8 hi]
  by_cases h : i / 8 < s.size
  · rw [if_neg (by omega), if_pos (by omega), if_pos (by omega), if_pos (by omega)]
    rw [(bit_val s i h .u8 (by decide) _ rfl).1]
  · rw [if_pos (by omega)]
    unfold gb
    rw [if_neg h]
theorem bitGet_eq (s : ByteArray) (hs : s.size ≤ 40) (i : Nat) (hi : i < 320) : impl_TextBitGet.f s i = some (gb s i) := by
  unfold impl_TextBitGet.f impl_within.f
  rw [if_neg (by omega), if_pos (by omega)]
  simp only [Option.bind_some]
  rw [if_pos (by simp; omega), bitAt_eq s i (by omega)]
  rfl

/-- One byte's ones. -/
theorem pop_table : ∀ x : Fin 256, bits_OnesCount8.f (x.val : Int) = some ((x.val : Int) / 2 ^ 7 % 2 + (x.val : Int) / 2 ^ 6 % 2 + (x.val : Int) / 2 ^ 5 % 2 + (x.val : Int) / 2 ^ 4 % 2 + (x.val : Int) / 2 ^ 3 % 2 + (x.val : Int) / 2 ^ 2 % 2 + (x.val : Int) / 2 ^ 1 % 2 + (x.val : Int) / 2 ^ 0 % 2) := by
  unfold bits_OnesCount8.f wrap64
  decide +kernel
theorem pop_eq (s : ByteArray) (a : Nat) (h : a < s.size) : bits_OnesCount8.f (bt s a) = some (gs s (8 * a) 8) := by
  have hb := bt_bound s (a : Int)
  have ht := pop_table ⟨(bt s a).toNat, by omega⟩
  have e : (((bt s a).toNat : Nat) : Int) = bt s a := by omega
  simp only [e] at ht
  rw [ht]
  have g : ∀ j, j < 8 → gb s (8 * a + j) = bt s a / 2 ^ (7 - j) % 2 := fun j hj => by
    unfold gb
    rw [show (8 * a + j) / 8 = a by omega, show (8 * a + j) % 8 = j by omega, if_pos h]
  simp only [gs]
  rw [g 0 (by omega), g 1 (by omega), g 2 (by omega), g 3 (by omega), g 4 (by omega), g 5 (by omega), g 6 (by omega), g 7 (by omega)]
  simp
theorem count_loop (s : ByteArray) (hs : s.size ≤ 40) (b : Nat) (hb : b ≤ s.size) (d : Nat) : ∀ (a : Nat) (acc : Int), a + d = b → 0 ≤ acc → acc + 8 * d ≤ 100000 → Ev (fun k => impl_TextBitCount.l0 k s b acc a) (acc + gs s (8 * a) (8 * d)) := by
  induction d with
  | zero =>
    intro a acc h _ _
    refine Ev.one (fun k => ?_)
    simp only [impl_TextBitCount.l0]
    rw [if_neg (by omega)]
    simp [gs]
  | succ d ih =>
    intro a acc h h0 h1
    have g := gs_bound s (8 * a) 8
    have e : gs s (8 * a) (8 * (d + 1)) = gs s (8 * a) 8 + gs s (8 * (a + 1)) (8 * d) := by
      rw [show 8 * (d + 1) = 8 + 8 * d by omega, gs_add, show 8 * a + 8 = 8 * (a + 1) by omega]
    rw [e, ← Int.add_assoc]
    refine Ev.step (fun k => ?_) (ih (a + 1) (acc + gs s (8 * a) 8) (by omega) (by omega) (by omega))
    simp only [impl_TextBitCount.l0]
    rw [if_pos (by omega), if_pos (by omega), if_pos (by omega), pop_eq s a (by omega)]
    simp only [Option.bind_some]
    rw [w64 (by omega) (by omega), w64 (by omega) (by omega)]
    rfl

/-- The places from one position to another, the second one not among them. -/
def sp (n a b : Int) : Int × Int :=
  if mx (if a < 0 then a + n else a) 0 > mn (if b < 0 then b + n else b) (n - 1) then (0, 0) else (mx (if a < 0 then a + n else a) 0, mn (if b < 0 then b + n else b) (n - 1) + 1)
theorem sp_bound {n a b : Int} (h : 0 ≤ n) : 0 ≤ (sp n a b).1 ∧ (sp n a b).1 ≤ (sp n a b).2 ∧ (sp n a b).2 ≤ n := by
  unfold sp mx mn
  repeat' split
  all_goals simp only []
  all_goals omega
theorem mx_bound {a b : Int} (h : a ≤ 2000000000) (h1 : b ≤ 2000000000) (h2 : -2000000000 ≤ a) : -2000000000 ≤ mx a b ∧ mx a b ≤ 2000000000 := by
  unfold mx
  split <;> omega
theorem mn_bound {a b : Int} (h : -2000000000 ≤ a) (h1 : -2000000000 ≤ b) (h2 : a ≤ 2000000000) : -2000000000 ≤ mn a b ∧ mn a b ≤ 2000000000 := by
  unfold mn
  split <;> omega
def pos (x : Int) : Bool := decide (-1000000000 ≤ x ∧ x ≤ 1000000000)
theorem position_eq (x : Int) : impl_position.f x = some (pos x) := by
  unfold impl_position.f impl_within.f pos
  by_cases h : x ≥ -1000000000
  · rw [if_pos h]
    simp only [Option.bind_some, Option.some.injEq, decide_eq_decide]
    omega
  · rw [if_neg h]
    simp only [Option.bind_some, Option.some.injEq]
    exact (decide_eq_false (by omega)).symm
theorem span_eq (n a b : Int) (h0 : 0 ≤ n) (h1 : n ≤ 1000000) : Ev (fun k => impl_span.f k n a b) (if pos a && pos b then sp n a b else (0, 0)) := by
  refine ⟨3, fun k hk => ?_⟩
  obtain ⟨k, rfl⟩ : ∃ m, k = m + 3 := ⟨k - 3, by omega⟩
  unfold impl_span.f
  rw [position_eq a, position_eq b]
  simp only [Option.bind_some]
  cases ha : pos a with
  | false => rfl
  | true =>
    rw [if_pos rfl]
    cases hb : pos b with
    | false => rfl
    | true =>
      have hA : -1000000000 ≤ a ∧ a ≤ 1000000000 := by simpa [pos] using ha
      have hB : -1000000000 ≤ b ∧ b ≤ 1000000000 := by simpa [pos] using hb
      simp only [Bool.not_true, Bool.and_self, if_true, impl_span.j0, sp]
      rw [if_neg (by decide)]
      have q1 : wrap64 (a + n) = a + n := w64 (by omega) (by omega)
      have q2 : wrap64 (b + n) = b + n := w64 (by omega) (by omega)
      have q3 : wrap64 (n - 1) = n - 1 := w64 (by omega) (by omega)
      have q4 : wrap64 (mn (b + n) (n - 1) + 1) = mn (b + n) (n - 1) + 1 := by
        have := mn_bound (a := b + n) (b := n - 1) (by omega) (by omega) (by omega)
        exact w64 (by omega) (by omega)
      have q5 : wrap64 (mn b (n - 1) + 1) = mn b (n - 1) + 1 := by
        have := mn_bound (a := b) (b := n - 1) (by omega) (by omega) (by omega)
        exact w64 (by omega) (by omega)
      by_cases c1 : a < 0
      · simp only [if_pos c1, q1, impl_span.j1]
        by_cases c2 : b < 0
        · simp only [if_pos c2, q2, q3, q4]
          split <;> rfl
        · simp only [if_neg c2, q3, q5]
          split <;> rfl
      · simp only [if_neg c1, impl_span.j1]
        by_cases c2 : b < 0
        · simp only [if_pos c2, q2, q3, q4]
          split <;> rfl
        · simp only [if_neg c2, q3, q5]
          split <;> rfl

/-- The ones of a text's bytes from one position to another. -/
def ones (s : ByteArray) (a b : Int) : Int := if 40 < s.size then 0 else if pos a && pos b then gs s (8 * (sp s.size a b).1.toNat) (8 * ((sp s.size a b).2 - (sp s.size a b).1).toNat) else 0
theorem count_eq (s : ByteArray) (a b : Int) : Ev (fun k => impl_TextBitCount.f k s a b) (ones s a b) := by
  unfold impl_TextBitCount.f ones
  by_cases hs : 40 < s.size
  · exact Ev.all (fun k => by rw [if_pos (by omega), if_pos hs])
  · simp only [if_neg hs, if_neg (show ¬ ((s.size : Int) > 40) by omega)]
    refine Ev.bind (span_eq s.size a b (by omega) (by omega)) ?_
    cases hp : (pos a && pos b) with
    | false =>
      have := count_loop s (by omega) 0 (by omega) 0 0 0 rfl (by omega) (by omega)
      simpa [gs] using this
    | true =>
      have h := sp_bound (n := s.size) (a := a) (b := b) (by omega)
      have := count_loop s (by omega) (sp s.size a b).2.toNat (by omega) ((sp s.size a b).2 - (sp s.size a b).1).toNat (sp s.size a b).1.toNat 0 (by omega) (by omega) (by omega)
      rw [show (((sp s.size a b).2.toNat : Nat) : Int) = (sp s.size a b).2 by omega, show (((sp s.size a b).1.toNat : Nat) : Int) = (sp s.size a b).1 by omega, Int.zero_add] at this
      exact this
theorem ones_all (s : ByteArray) (hs : s.size ≤ 40) : ones s 0 (-1) = gs s 0 (8 * s.size) := by
  unfold ones
  rw [if_neg (by omega)]
  have : (pos 0 && pos (-1)) = true := by decide
  rw [this, if_pos rfl]
  by_cases h : s.size = 0
  · have e : sp (s.size : Int) 0 (-1) = (0, 0) := by rw [h]; decide
    rw [e, h]
    rfl
  · have e : sp (s.size : Int) 0 (-1) = (0, (s.size : Int)) := by
      have m1 : mx 0 0 = 0 := by decide
      have m2 : mn (-1 + (s.size : Int)) ((s.size : Int) - 1) = s.size - 1 := by
        unfold mn
        split <;> omega
      unfold sp
      rw [if_neg (by omega : ¬ (0 : Int) < 0), if_pos (by omega : (-1 : Int) < 0), m1, m2, if_neg (by omega)]
      congr 1
      omega
    rw [e]
    simp
end Go.Proofs.Ytpokafkkfdponaa.UFnTextBit
