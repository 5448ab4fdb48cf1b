/- Small facts on numbers and rounds that the pure proofs of this seat use. No condition beyond what each states. -/
import Derived.Test.YtpokafkkfdponaaWMore
import Derived.Test.YtpokafkkfdponaaWLast
import Derived.Laws.BitsLemmas
import Derived.IntWalk
namespace Go.Proofs.Ytpokafkkfdponaa.Base
open Go.RowKit Go.Proofs.YtpokafkkfdponaaW.PrintWords Go.Proofs.YtpokafkkfdponaaW.PrintLast Go.Proofs.YtpokafkkfdponaaW.PrintMore

theorem w64 {n : Int} (h0 : -9223372036854775808 ≤ n) (h1 : n ≤ 9223372036854775807) : wrap64 n = n := by unfold wrap64; omega
theorem wraps_i64 (n : Int) (h₀ : 0 ≤ n) (h₁ : n < 2 ^ 62) : IntKind.i64.wrap n = n := by rw [IntKind.wrap_i64]; omega
theorem and1 {x : Int} (h0 : 0 ≤ x) (h1 : x < 2 ^ 62) : Go.bits .and .i64 x 1 = x % 2 := bits_mask .i64 62 (by decide) wraps_i64 1 (by decide) x h0 h1
theorem xor_nonneg {a b : Int} (ha : 0 ≤ a) (ha1 : a < 2 ^ 62) (hb : 0 ≤ b) (hb1 : b < 2 ^ 62) : 0 ≤ Go.bits .xor .i64 a b := by
  obtain ⟨x, rfl⟩ := Int.eq_ofNat_of_zero_le ha
  obtain ⟨y, rfl⟩ := Int.eq_ofNat_of_zero_le hb
  have hx : x < 2 ^ 62 := by exact_mod_cast ha1
  have hy : y < 2 ^ 62 := by exact_mod_cast hb1
  have hp : x ^^^ y < 2 ^ 62 := Nat.xor_lt_two_pow hx hy
  have e1 : x % 2 ^ 64 = x := Nat.mod_eq_of_lt (by omega)
  have e2 : y % 2 ^ 64 = y := Nat.mod_eq_of_lt (by omega)
  have e : Go.bits .xor .i64 (x : Int) (y : Int) = IntKind.i64.wrap (((x ^^^ y : Nat)) : Int) := by
    have q : (BitVec.ofNat 64 x ^^^ BitVec.ofNat 64 y).toNat = x ^^^ y := by rw [BitVec.toNat_xor, BitVec.toNat_ofNat, BitVec.toNat_ofNat, e1, e2]
    simp only [Go.bits, IntKind.bits, BitVec.ofInt_natCast]
    exact congrArg (fun n : Nat => IntKind.i64.wrap (n : Int)) q
  rw [e, wraps_i64 _ (Int.natCast_nonneg _) (by exact_mod_cast hp)]
  exact Int.natCast_nonneg _
theorem tmod_lt {a n : Int} (ha : 0 ≤ a) (hn : 1 ≤ n) : 0 ≤ Int.tmod a n ∧ Int.tmod a n < n := by
  rw [Int.tmod_eq_emod_of_nonneg ha]
  exact ⟨Int.emod_nonneg _ (by omega), Int.emod_lt_of_pos _ (by omega)⟩
theorem rd_mem {b : List Int} {P : Int → Prop} (h : ∀ x ∈ b, P x) {i : Int} (h0 : 0 ≤ i) (h1 : i < b.length) : P (rd b i) := by
  unfold rd
  rw [List.getD_eq_getElem?_getD, List.getElem?_eq_getElem (by omega)]
  exact h _ (List.getElem_mem _)
theorem rdOf_mem {α : Type} {d : α} {b : List α} {P : α → Prop} (h : ∀ x ∈ b, P x) {i : Int} (h0 : 0 ≤ i) (h1 : i < b.length) : P (rdOf d b i) := by
  unfold rdOf
  rw [List.getD_eq_getElem?_getD, List.getElem?_eq_getElem (by omega)]
  exact h _ (List.getElem_mem _)
theorem bt_bound (s : ByteArray) (i : Int) : 0 ≤ bt s i ∧ bt s i ≤ 255 := by
  unfold bt
  split
  · have := (s[i.toNat]).toNat_lt
    omega
  · omega
/-- A result that does not depend on the rounds. -/
theorem Ev.all {α : Type} {g : Nat → Option α} {r : α} (h : ∀ k, g k = some r) : Ev g r := ⟨0, fun k _ => h k⟩
/-- From one round on. -/
theorem Ev.one {α : Type} {g : Nat → Option α} {r : α} (h : ∀ k, g (k + 1) = some r) : Ev g r := ⟨1, fun k hk => by obtain ⟨m, rfl⟩ : ∃ m, k = m + 1 := ⟨k - 1, by omega⟩; exact h m⟩
/-- A bind whose first part is known. -/
theorem Ev.pure {α β : Type} {x : Option α} {a : α} {f : Nat → α → Option β} {r : β} (h : x = some a) (k : Ev (fun n => f n a) r) : Ev (fun n => x.bind (f n)) r := by
  subst h
  exact k
end Go.Proofs.Ytpokafkkfdponaa.Base
