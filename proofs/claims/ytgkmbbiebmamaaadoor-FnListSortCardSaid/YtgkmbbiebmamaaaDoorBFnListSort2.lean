/- Texts of this claim, packed: walks and laws that its row stands on. Each states its own conditions. -/
import Derived.Below
import Derived.BigCall
import Derived.BigGuard
import Derived.ChangeArms
import Derived.ChangeOld
import Derived.ChangeSlices
import Derived.DataElems
import Derived.OpenShut
import Derived.ProofKit
import Derived.Shelf.LaysC
import Derived.Shelf.LaysM
import Derived.Shelf.Strconv.ErrVarAll
import Derived.Shelf.Strconv.Itoa3
import Derived.Shelf.Strings.Cut
import Derived.ShutString
import Derived.SizedLaws
import Derived.Test.YtgkmbbiebmamaaaDoorBFnListSort1
namespace Go.Proofs.YtgkmbbiebmamaaaDoor.Am
open Go
set_option maxRecDepth 100000
set_option maxHeartbeats 1000000
set_option linter.unusedSimpArgs false
set_option linter.unusedVariables false
abbrev by8 (bs : List Int) : AV := .t (.list false 1 (bs.map fun b => [T.int .u8 b]))
structure Drw (bs : List Int) (p : Int) : Prop where
  b : ∀ x ∈ bs, 0 ≤ x ∧ x ≤ 255
  l : bs.length ≤ 2000
  p0 : 0 ≤ p
  p1 : p ≤ 1000000000
abbrev dwH (bs : List Int) (p : Int) : Hp := [(9000, .box [by8 bs, I p])]
theorem wrap_i {n : Int} (h0 : 0 ≤ n) (h1 : n ≤ 9223372036854775807) : IntKind.i64.wrap n = n := wrap64 (by omega) (by omega)
theorem xor_ok {a b : Int} (ha : 0 ≤ a ∧ a < 4611686018427387904) (hb : 0 ≤ b ∧ b < 4611686018427387904) :
    ∃ v : Int, IntKind.i64.wrap (BitVec.ofInt IntKind.i64.bits a ^^^ BitVec.ofInt IntKind.i64.bits b).toNat = v ∧ 0 ≤ v ∧ v < 4611686018427387904 := by
  obtain ⟨a, rfl⟩ := Int.eq_ofNat_of_zero_le ha.1
  obtain ⟨b, rfl⟩ := Int.eq_ofNat_of_zero_le hb.1
  have h1 : a < 2 ^ 62 := by have := ha.2; omega
  have h2 : b < 2 ^ 62 := by have := hb.2; omega
  have h3 : (BitVec.ofInt IntKind.i64.bits (a : Int) ^^^ BitVec.ofInt IntKind.i64.bits (b : Int)).toNat = a ^^^ b := by
    rw [BitVec.toNat_xor, BitVec.ofInt_natCast, BitVec.ofInt_natCast, BitVec.toNat_ofNat, BitVec.toNat_ofNat, Nat.mod_eq_of_lt, Nat.mod_eq_of_lt]
    · show b < 2 ^ 64; omega
    · show a < 2 ^ 64; omega
  have h4 : a ^^^ b < 2 ^ 62 := Nat.xor_lt_two_pow h1 h2
  rw [h3]
  exact ⟨_, rfl, by rw [wrap64 (by omega) (by omega)]; omega, by rw [wrap64 (by omega) (by omega)]; omega⟩
theorem p_pick : Plain Tryd.prog 52 := ⟨_, Tryd.func52, rfl, by decide⟩
theorem byte_at {bs : List Int} {k : Nat} (hk : k < bs.length) : (bs.map fun b => [T.int .u8 b]).getD k [] = [T.int .u8 bs[k]] := row_getD (fun b => [T.int .u8 b]) bs hk
theorem s_pick (bs : List Int) (p n : Int) (h : Drw bs p) (hn : n ≤ 1000000000) : SpecO Tryd.prog 52 [.ptr 9000 0 0, I n] (dwH bs p)
    (fun r h' => (∃ v : Int, r = I v ∧ 0 ≤ v ∧ (v < n ∨ v = 0)) ∧ h' = dwH bs (p + 1)) := by
  obtain ⟨hb, hl, hp0, hp1⟩ := h
  refine SpecO.of tysOk mixed Tryd.func52 rfl (by decide) ?_
  have w1 : IntKind.i64.wrap (p + 1) = p + 1 := wrap64 (by omega) (by omega)
  have w2 : IntKind.i64.wrap (p + 1 - 1) = p := by rw [wrap64 (by omega) (by omega)]; omega
  simp -implicitDefEqProofs only [go_sem, Tryd.f52, by8, w1, w2]
  refine BrA_i (fun h1 => ?_) (fun h1 => ?_) <;> simp -implicitDefEqProofs only [go_sem]
  · exact ⟨0, rfl, by omega, .inr rfl⟩
  have h1 : 1 ≤ n := by simp at h1; omega
  refine BrA_i (fun h2 => ?_) (fun h2 => ?_) <;> simp -implicitDefEqProofs only [go_sem]
  · exact ⟨0, rfl, by omega, .inr rfl⟩
  have h2 : 0 < bs.length := by have := of_decide_eq_false h2; omega
  simp -implicitDefEqProofs only [go_sem, w2]
  refine BrA_i (fun h3 => ?_) (fun h3 => ?_) <;> simp -implicitDefEqProofs only [go_sem]
  · obtain ⟨k, rfl⟩ := Int.eq_ofNat_of_zero_le hp0
    have h3 : k < bs.length := by simp at h3; omega
    have hk := hb _ (List.getElem_mem h3)
    have h0i : (0 : Int) ≤ k := by omega
    have h1i : (k : Int) < bs.length := by omega
    have wk : IntKind.i64.wrap bs[k] = bs[k] := wrap_i (by omega) (by omega)
    simp -implicitDefEqProofs only [go_sem, h0i, h1i, byte_at h3, wk]
    exact ⟨by omega, _, rfl, Int.tmod_nonneg _ hk.1, .inl (Int.tmod_lt_of_pos _ (by omega))⟩
  · obtain ⟨k, rfl⟩ := Int.eq_ofNat_of_zero_le hp0
    have e1 : ((k : Int).tmod bs.length) = ((k % bs.length : Nat) : Int) := rfl
    have e2 : (IntKind.i64.wrap (IntKind.i64.wrap ((k : Int) * 7) + 3)).tmod bs.length = (((k * 7 + 3) % bs.length : Nat) : Int) := by
      rw [wrap_i (n := (k : Int) * 7) (by omega) (by omega), wrap_i (by omega) (by omega)]; rfl
    have g1 : k % bs.length < bs.length := Nat.mod_lt _ h2
    have g2 : (k * 7 + 3) % bs.length < bs.length := Nat.mod_lt _ h2
    obtain ⟨m1, hm1⟩ : ∃ m, m = k % bs.length := ⟨_, rfl⟩
    obtain ⟨m2, hm2⟩ : ∃ m, m = (k * 7 + 3) % bs.length := ⟨_, rfl⟩
    rw [← hm1] at e1 g1
    rw [← hm2] at e2 g2
    have z1 : (0 : Int) ≤ m1 := by omega
    have z2 : (0 : Int) ≤ m2 := by omega
    have y1 : (m1 : Int) < bs.length := by omega
    have y2 : (m2 : Int) < bs.length := by omega
    have k1 := hb _ (List.getElem_mem g1)
    have k2 := hb _ (List.getElem_mem g2)
    have wk1 : IntKind.i64.wrap bs[m1] = bs[m1] := wrap_i (by omega) (by omega)
    have wk2 : IntKind.i64.wrap bs[m2] = bs[m2] := wrap_i (by omega) (by omega)
    have hn0 : ¬ (bs.length : Int) = 0 := by omega
    refine RegD_of sch_52_7 tysOk (by kernel_rfl) ?_
    simp -implicitDefEqProofs only [go_sem, e1, e2, z1, z2, y1, y2, byte_at g1, byte_at g2, wk1, wk2, hn0]
    refine ⟨by omega, ?_⟩
    have q1 : (k : Int).tdiv bs.length = ((k / bs.length : Nat) : Int) := rfl
    have q2 : k / bs.length ≤ k := Nat.div_le_self _ _
    obtain ⟨q, hq⟩ : ∃ q, q = k / bs.length := ⟨_, rfl⟩
    rw [← hq] at q1 q2
    have u1 : IntKind.i64.wrap (bs[m1] * 131) = bs[m1] * 131 := wrap_i (by omega) (by omega)
    have u2 : IntKind.i64.wrap (bs[m2] * 1117) = bs[m2] * 1117 := wrap_i (by omega) (by omega)
    have u3 : IntKind.i64.wrap (bs[m1] * 131 + bs[m2] * 1117) = bs[m1] * 131 + bs[m2] * 1117 := wrap_i (by omega) (by omega)
    have u4 : IntKind.i64.wrap ((k : Int) * 29) = (k : Int) * 29 := wrap_i (by omega) (by omega)
    have u5 : IntKind.i64.wrap (q : Int) = (q : Int) := wrap_i (by omega) (by omega)
    have u6 : IntKind.i64.wrap ((q : Int) * 53) = (q : Int) * 53 := wrap_i (by omega) (by omega)
    have u7 : IntKind.i64.wrap (bs[m1] * 131 + bs[m2] * 1117 + (k : Int) * 29) = bs[m1] * 131 + bs[m2] * 1117 + (k : Int) * 29 := wrap_i (by omega) (by omega)
    have u8 : IntKind.i64.wrap (bs[m1] * 131 + bs[m2] * 1117 + (k : Int) * 29 + (q : Int) * 53) = bs[m1] * 131 + bs[m2] * 1117 + (k : Int) * 29 + (q : Int) * 53 := wrap_i (by omega) (by omega)
    rw [q1, u1, u2, u3, u4, u5, u6, u7, u8]
    obtain ⟨X, hX⟩ : ∃ X : Int, X = bs[m1] * 131 + bs[m2] * 1117 + (k : Int) * 29 + (q : Int) * 53 := ⟨_, rfl⟩
    rw [← hX]
    have hX0 : 0 ≤ X ∧ X < 4611686018427387904 := by omega
    have u9 : IntKind.i64.wrap (X.tdiv 64) = X.tdiv 64 := by
      have : X.tdiv 64 = X / 64 := Int.tdiv_eq_ediv_of_nonneg hX0.1
      rw [this]; exact wrap_i (by omega) (by omega)
    have hY0 : 0 ≤ X.tdiv 64 ∧ X.tdiv 64 < 4611686018427387904 := by
      have : X.tdiv 64 = X / 64 := Int.tdiv_eq_ediv_of_nonneg hX0.1
      rw [this]; omega
    obtain ⟨v, e, v0, v1⟩ := xor_ok hX0 hY0
    rw [u9]
    exact ⟨v.tmod n, congrArg (fun z => AV.t (T.int IntKind.i64 (Int.tmod z n))) e, Int.tmod_nonneg _ v0, .inl (Int.tmod_lt_of_pos _ (by omega))⟩
theorem p_of : Plain Tryd.prog 38 := ⟨_, Tryd.func38, rfl, by decide⟩
abbrev strR (b : ByteArray) : List T := [.str b]
theorem s_of (bs : List Int) (p : Int) (xs : List ByteArray) (h : Drw bs p) (hx : 0 < xs.length ∧ xs.length ≤ 1000) : SpecO Tryd.prog 38 [.ptr 9000 0 0, .refw 9001] (dwH bs p ++ [(9001, .rows 1 (xs.map strR))])
    (fun r h' => (∃ b, r = .t (.str b) ∧ b ∈ xs) ∧ h' = dwH bs (p + 1) ++ [(9001, .rows 1 (xs.map strR))]) := by
  refine SpecO.of tysOk mixed Tryd.func38 rfl (by decide) ?_
  simp -implicitDefEqProofs only [go_sem, Tryd.f38, by8, List.cons_append, List.nil_append]
  refine CallW.o [(9000, 9000)] (s_pick bs p xs.length h (by omega)) p_pick o52 rfl (by conv => lhs; simp -implicitDefEqProofs only [go_sem]) (by simp -implicitDefEqProofs only [go_sem]) ?_
  rintro _ _ ⟨⟨v, rfl, h0, h1⟩, rfl⟩
  obtain ⟨k, rfl⟩ := Int.eq_ofNat_of_zero_le h0
  have h1 : k < xs.length := by omega
  have h1i : (k : Int) < xs.length := by omega
  simp -implicitDefEqProofs only [go_sem, by8, h0, h1i, row_getD _ _ h1]
  exact ⟨h1, _, rfl, List.getElem_mem _⟩
theorem p_l1Open : Plain Tryd.prog 35 := ⟨_, Tryd.func35, rfl, by decide⟩
theorem s_l1Open (bs : List Int) (hb : ∀ x ∈ bs, 0 ≤ x ∧ x ≤ 255) (hl : bs.length ≤ 1048576) : ∃ cs, Drw cs 0 ∧ SpecB Tryd.prog 35 [by8 bs] [by8 cs, I 0] := by
  refine ⟨bs.take 2000, ⟨fun x hx => hb x (List.mem_of_mem_take hx), by simp; omega, by omega, by omega⟩, ?_⟩
  refine SpecB.of tysOk mixed Tryd.func35 rfl (by decide) rfl ?_
  simp -implicitDefEqProofs only [go_sem, Tryd.f35]
  refine BrA_i (fun h1 => ?_) (fun h1 => ?_) <;> simp -implicitDefEqProofs only [go_sem]
  · have e : List.take (Int.toNat 2000 - Int.toNat 0) (List.drop (Int.toNat 0) (List.map (fun b => [T.int IntKind.u8 b]) bs)) = (bs.take 2000).map fun b => [T.int IntKind.u8 b] := by
      show List.take 2000 (List.map _ bs) = _
      rw [List.map_take]
    rw [e]
    have h1 := of_decide_eq_true h1
    exact ⟨by omega, 2, 80, rfl, rfl, by decide, rfl⟩
  · have h1 := of_decide_eq_false h1
    have e : bs.take 2000 = bs := List.take_of_length_le (by omega)
    rw [e]
    exact ⟨2, 80, rfl, rfl, by decide, rfl⟩
theorem p_l1Many : Plain Tryd.prog 67 := ⟨_, Tryd.func67, rfl, by decide⟩
theorem s_l1Many (s : ByteArray) (n : Nat) (hs : s.size ≤ 1) (hn : n < 100) : Spec Tryd.prog 67 [.t (.str s), I n] (fun r => ∃ b, r = .t (.str b) ∧ b.size ≤ 1000 ∧ ∀ c ∈ b.data.toList, c ∈ s.data.toList) := by
  obtain ⟨s0, hs0⟩ : ∃ s0 : ByteArray, s0 = s := ⟨_, rfl⟩
  rw [← hs0]
  refine Spec.of tysOk mixed Tryd.func67 rfl (by decide) ?_
  simp -implicitDefEqProofs only [go_sem, Tryd.f67]
  refine LoopW.slotsM [true, true, false, false, false, true, false, false, false, false, false, false, false, false, false, false, false, false, false, false] (α := ByteArray × Nat × ByteArray × Nat) (fun x => [(0, .t (.str x.1)), (1, I x.2.1), (5, .t (.str x.2.2.1))]) (fun _ => []) (fun x => x.2.1) (fun x => x.2.2.1.size ≤ x.1.size ∧ x.2.1 < 2 ^ x.2.2.2 ∧ x.1.size * 2 ^ x.2.2.2 ≤ 1000 ∧ x.2.1 < 100 ∧ (∀ c ∈ x.1.data.toList, c ∈ s0.data.toList) ∧ ∀ c ∈ x.2.2.1.data.toList, c ∈ s0.data.toList) (s0, n, ⟨#[]⟩, 7) (by simp -implicitDefEqProofs only [go_sem, LeTs_undef, LeTs_same, LeTs_nil]; try simp [LeTs]) rfl ⟨Nat.zero_le _, (show n < 2 ^ 7 by omega), (show s0.size * 2 ^ 7 ≤ 1000 by rw [hs0]; omega), hn, fun _ h => h, fun _ h => (by cases h)⟩ ?_
  clear hs0 hs s
  rintro ⟨s, n, o, f⟩ ⟨h1, h2, h3, h8, h9, h10⟩
  simp only at h1 h2 h3 h8 h9 h10
  have hss9 : ∀ c ∈ (s ++ s).data.toList, c ∈ s0.data.toList := fun c hc => by
    rw [ByteArray.data_append, Array.toList_append, List.mem_append] at hc
    exact hc.elim (h9 c) (h9 c)
  have hos9 : ∀ c ∈ (o ++ s).data.toList, c ∈ s0.data.toList := fun c hc => by
    rw [ByteArray.data_append, Array.toList_append, List.mem_append] at hc
    exact hc.elim (h10 c) (h9 c)
  simp -implicitDefEqProofs only [go_sem]
  refine BrA_i (fun h => ?_) (fun h => ?_) <;> simp -implicitDefEqProofs only [go_sem]
  · have h : 0 < n := by simp at h; omega
    obtain ⟨f, rfl⟩ : ∃ g, f = g + 1 := ⟨f - 1, by cases f <;> simp at h2 ⊢; omega⟩
    rw [Nat.pow_succ] at h2 h3
    have h4 : s.size * 2 ≤ 1000 := by
      have := Nat.one_le_two_pow (n := f)
      have h5 : s.size * 2 * 1 ≤ s.size * 2 * 2 ^ f := Nat.mul_le_mul_left _ this
      have h6 : s.size * (2 ^ f * 2) = s.size * 2 * 2 ^ f := by rw [Nat.mul_comm (2 ^ f) 2, Nat.mul_assoc]
      omega
    have e1 : (n : Int).tmod 2 = ((n % 2 : Nat) : Int) := rfl
    have e2 : IntKind.i64.wrap ((n : Int).tdiv 2) = ((n / 2 : Nat) : Int) := by
      have h0 : (n : Int).tdiv 2 = ((n / 2 : Nat) : Int) := rfl
      rw [h0, wrap64 (by omega) (by omega)]
    have hss : (s ++ s).size = s.size + s.size := ByteArray.size_append
    have hos : (o ++ s).size = o.size + s.size := ByteArray.size_append
    have h7 : (s ++ s).size * 2 ^ f ≤ 1000 := by
      rw [hss]
      have : s.size * (2 ^ f * 2) = (s.size + s.size) * 2 ^ f := by rw [Nat.mul_comm (2 ^ f) 2, ← Nat.mul_assoc, Nat.mul_two]
      omega
    have m1 : (o.size : Int) + s.size ≤ strMax := by unfold strMax; omega
    have m2 : (s.size : Int) + s.size ≤ strMax := by unfold strMax; omega
    simp -implicitDefEqProofs only [go_sem, e1, e2, m1, m2]
    refine BrA_i (fun h => ?_) (fun h => ?_) <;> simp -implicitDefEqProofs only [go_sem, e1, e2, m1, m2]
    · refine .to [] (s ++ s, n / 2, o ++ s, f) rfl ?_ rfl (by show n / 2 < n; omega) ⟨by show (o ++ s).size ≤ (s ++ s).size; omega, by show n / 2 < 2 ^ f; omega, h7, by show n / 2 < 100; omega, hss9, hos9⟩
      simp -implicitDefEqProofs only [go_sem, LeTs_undef, LeTs_same, LeTs_nil]
    · refine .to [] (s ++ s, n / 2, o, f) rfl ?_ rfl (by show n / 2 < n; omega) ⟨by show o.size ≤ (s ++ s).size; omega, by show n / 2 < 2 ^ f; omega, h7, by show n / 2 < 100; omega, hss9, h10⟩
      simp -implicitDefEqProofs only [go_sem, LeTs_undef, LeTs_same, LeTs_nil]
  · refine ⟨o, rfl, ?_, h10⟩
    have := Nat.one_le_two_pow (n := f)
    have h5 : s.size * 1 ≤ s.size * 2 ^ f := Nat.mul_le_mul_left _ this
    omega
theorem p_l11Text : Plain Tryd.prog 77 := ⟨_, Tryd.func77, rfl, by decide⟩
theorem s_l11Text (bs : List Int) (p : Int) (h : Drw bs p) : SpecO Tryd.prog 77 [.ptr 9000 0 0] (dwH bs p)
    (fun r h' => (∃ b, r = .t (.str b) ∧ b.size ≤ 1000 ∧ ∀ c ∈ b.data.toList, c ≠ 102) ∧ h' = dwH bs (p + 1)) := by
  refine SpecO.of tysOk mixed Tryd.func77 rfl (by decide) ?_
  simp -implicitDefEqProofs only [go_sem, Tryd.f77]
  refine CallW.p (s_l1Many ⟨#[120]⟩ 40 (by decide) (by decide)) p_l1Many rfl rfl ?_
  rintro _ ⟨b, rfl, hb, hb2⟩
  simp -implicitDefEqProofs only [go_sem]
  refine CallW.o [(9000, 9000), (9001, 40)] (s_of bs p [⟨#[]⟩, ⟨#[97]⟩, ⟨#[98]⟩, ⟨#[99]⟩, ⟨#[53]⟩, ⟨#[45, 51]⟩, ⟨#[104, 101, 108, 108, 111]⟩, ⟨#[13, 10]⟩, ⟨#[255]⟩, b, ⟨#[57, 57, 57, 57, 57, 57, 57, 57, 57]⟩] h (by simp)) p_of o38 rfl (by (conv => lhs; simp -implicitDefEqProofs only [go_sem]) <;> rfl) (by (simp -implicitDefEqProofs only [go_sem]) <;> rfl) ?_
  rintro _ _ ⟨⟨c, rfl, hc⟩, rfl⟩
  simp -implicitDefEqProofs only [go_sem]
  refine ⟨c, rfl, ?_⟩
  have hb3 : ∀ c ∈ b.data.toList, c ≠ 102 := fun c hc => by
    have := hb2 c hc
    simp at this
    subst this
    decide
  simp only [List.mem_cons, List.not_mem_nil, or_false] at hc
  rcases hc with rfl | rfl | rfl | rfl | rfl | rfl | rfl | rfl | rfl | rfl | rfl <;> first | exact ⟨hb, hb3⟩ | decide
end Go.Proofs.YtgkmbbiebmamaaaDoor.Am
namespace Go.Proofs.YtgkmbbiebmamaaaDoor.Am
open Go
set_option maxRecDepth 100000
set_option linter.unusedSimpArgs false
set_option linter.unusedVariables false
def dig (n : Nat) : ByteArray := ⟨#[UInt8.ofNat (IntKind.u8.wrap (48 + (n : Int))).toNat]⟩
def mtL (n : Nat) (out : ByteArray) : ByteArray := if h : n = 0 then out else mtL (n / 10) (dig (n % 10) ++ out)
termination_by n
decreasing_by omega
def mt (k : Int) : ByteArray := if k ≤ 0 then "m0".toUTF8 else "m".toUTF8 ++ mtL k.toNat .empty
end Go.Proofs.YtgkmbbiebmamaaaDoor.Am
namespace Go.Proofs.YtgkmbbiebmamaaaDoor.Am
open Go
set_option maxRecDepth 100000
set_option linter.unusedSimpArgs false
set_option linter.unusedVariables false
def decM (n : Nat) : ByteArray := if h : n < 10 then dig n else decM (n / 10) ++ dig (n % 10)
termination_by n
decreasing_by omega
theorem decM_lt {n : Nat} (h : n < 10) : decM n = dig n := by rw [decM, dif_pos h]
theorem decM_ge {n : Nat} (h : ¬ n < 10) : decM n = decM (n / 10) ++ dig (n % 10) := by rw [decM, dif_neg h]
def bval (l : List UInt8) : Nat := l.foldl (fun a b => 10 * a + (b.toNat - 48)) 0
theorem bval_snoc (l : List UInt8) (b : UInt8) : bval (l ++ [b]) = 10 * bval l + (b.toNat - 48) := by simp [bval, List.foldl_append]
theorem dig_list (n : Nat) (h : n < 10) : ∃ b : UInt8, (dig n).data.toList = [b] ∧ b.toNat = 48 + n := by
  refine ⟨UInt8.ofNat (IntKind.u8.wrap (48 + (n : Int))).toNat, rfl, ?_⟩
  have : IntKind.u8.wrap (48 + (n : Int)) = 48 + (n : Int) := by
    simp [IntKind.wrap, IntKind.signed, IntKind.bits]; omega
  rw [this]
  have h2 : (48 + (n : Int)).toNat = 48 + n := by omega
  rw [h2]
  simp [UInt8.toNat_ofNat']
  omega
theorem bval_decM (n : Nat) : bval (decM n).data.toList = n := by
  induction n using Nat.strongRecOn with
  | _ n ih =>
    by_cases h : n < 10
    · obtain ⟨b, h1, h2⟩ := dig_list n h
      rw [decM_lt h, h1]
      simp [bval, h2]
    · obtain ⟨b, h1, h2⟩ := dig_list (n % 10) (by omega)
      rw [decM_ge h, ByteArray.data_append, Array.toList_append, h1, bval_snoc, ih _ (by omega), h2]
      omega
theorem decM_size (n : Nat) (h : n < 10000000000000000000) : (decM n).size ≤ 19 := by
  have : ∀ k n, n < 10 ^ (k + 1) → (decM n).size ≤ k + 1 := by
    intro k
    induction k with
    | zero => intro n hn; rw [decM_lt (by simpa using hn)]; show 1 ≤ 1; omega
    | succ k ih =>
      intro n hn
      by_cases h : n < 10
      · rw [decM_lt h]; show 1 ≤ _; omega
      · rw [decM_ge h, ByteArray.size_append]
        have := ih (n / 10) (by rw [Nat.pow_succ] at hn; omega)
        have h1 : (dig (n % 10)).size = 1 := rfl
        omega
  exact this 18 n (by simpa using h)
theorem p_l1Dec : Plain Tryd.prog 29 := ⟨_, Tryd.func29, rfl, by decide⟩
theorem s_l1Dec (n : Nat) (hn : n < 1000000000000000000) : Spec Tryd.prog 29 [I n] (fun r => r = .t (.str (decM n))) := by
  induction n using Nat.strongRecOn with
  | _ n ih =>
    refine Spec.of tysOk mixed Tryd.func29 rfl (by decide) ?_
    have h1 : ¬ (n : Int) < -9223372036854775807 := by omega
    have h2 : ¬ (n : Int) < 0 := by omega
    simp -implicitDefEqProofs only [go_sem, Tryd.f29, h1, h2, decide_false]
    refine BrA_i (fun h => ?_) (fun h => ?_)
    · have h : n < 10 := by have := of_decide_eq_true h; omega
      have w : IntKind.i64.wrap (48 + (n : Int)) = 48 + (n : Int) := wrap64 (by omega) (by omega)
      simp -implicitDefEqProofs only [go_sem, w]
      rw [decM_lt h]; rfl
    · have h : ¬ n < 10 := by have := of_decide_eq_false h; omega
      have e1 : (n : Int).tmod 10 = ((n % 10 : Nat) : Int) := rfl
      have e2 : IntKind.i64.wrap ((n : Int).tdiv 10) = ((n / 10 : Nat) : Int) := by
        have h0 : (n : Int).tdiv 10 = ((n / 10 : Nat) : Int) := rfl
        rw [h0, wrap64 (by omega) (by omega)]
      have w : IntKind.i64.wrap (48 + ((n % 10 : Nat) : Int)) = 48 + ((n % 10 : Nat) : Int) := wrap64 (by omega) (by omega)
      have ed : (⟨#[UInt8.ofNat (IntKind.u8.wrap (48 + ((n % 10 : Nat) : Int))).toNat]⟩ : ByteArray) = dig (n % 10) := rfl
      have hsz := decM_size (n / 10) (by omega)
      have hs2 : ((decM (n / 10)).size : Int) + (dig (n % 10)).size ≤ strMax := by
        have : (dig (n % 10)).size = 1 := rfl
        unfold strMax; omega
      simp -implicitDefEqProofs only [go_sem]
      refine RegD_of sch_29_7 tysOk (by kernel_rfl) ?_
      simp -implicitDefEqProofs only [go_sem, e1, e2, w]
      refine ⟨?_, ?_⟩
      all_goals (first | (refine CallW.one (ih (n / 10) (by omega) (by omega)) p_l1Dec rfl trivial ?_) | skip)
      all_goals simp -implicitDefEqProofs only [go_sem, e1, e2, w, ed, hs2, decM_ge h]
end Go.Proofs.YtgkmbbiebmamaaaDoor.Am
namespace Go.Proofs.YtgkmbbiebmamaaaDoor.Am
open Go Go.Proofs Go.Shelf Go.RowKit Go.Sort
set_option maxRecDepth 100000
set_option maxHeartbeats 1000000
set_option linter.unusedSimpArgs false
set_option linter.unusedVariables false
def layItoa_ren : Go.Shelf.Ren := ⟨fun | 171 => 54 | 243 => 68 | 246 => 78 | 283 => 87 | 284 => 88 | 285 => 89 | 286 => 90 | 129 => 97 | 317 => 96 | 318 => 98 | 319 => 99 | 320 => 100 | 337 => 101 | 338 => 102 | n => n, fun | 3 => 3 | 9 => 9 | 2 => 2 | 4 => 4 | 171 => 101 | 0 => 0 | 53 => 94 | 37 => 32 | 5 => 5 | 173 => 104 | 212 => 115 | 51 => 106 | 20 => 20 | 213 => 116 | 46 => 93 | 232 => 119 | 233 => 120 | n => n, fun | 17 => 3 | 18 => 4 | 19 => 5 | n => n⟩
theorem layItoa : LaysM.n171 Tryd.prog layItoa_ren := {
  mixed := by kernel_rfl
  f129 := Tryd.func97.trans (congrArg some (by kernel_rfl))
  f171 := Tryd.func54.trans (congrArg some (by kernel_rfl))
  f243 := Tryd.func68.trans (congrArg some (by kernel_rfl))
  f246 := Tryd.func78.trans (congrArg some (by kernel_rfl))
  f283 := Tryd.func87.trans (congrArg some (by kernel_rfl))
  f284 := Tryd.func88.trans (congrArg some (by kernel_rfl))
  f285 := Tryd.func89.trans (congrArg some (by kernel_rfl))
  f286 := Tryd.func90.trans (congrArg some (by kernel_rfl))
  f317 := Tryd.func96.trans (congrArg some (by kernel_rfl))
  f318 := Tryd.func98.trans (congrArg some (by kernel_rfl))
  f319 := Tryd.func99.trans (congrArg some (by kernel_rfl))
  f320 := Tryd.func100.trans (congrArg some (by kernel_rfl))
  f337 := Tryd.func101.trans (congrArg some (by kernel_rfl))
  f338 := Tryd.func102.trans (congrArg some (by kernel_rfl))
  t0 := Tryd.underlying0
  a0 := Tryd.isAgg0
  z0 := Tryd.sizeOf0
  v0 := Tryd.zeroValue0
  t2 := Tryd.underlying2
  a2 := Tryd.isAgg2
  z2 := Tryd.sizeOf2
  v2 := Tryd.zeroValue2
  t3 := Tryd.underlying3
  a3 := Tryd.isAgg3
  z3 := Tryd.sizeOf3
  v3 := Tryd.zeroValue3
  t4 := Tryd.underlying4
  a4 := Tryd.isAgg4
  z4 := Tryd.sizeOf4
  v4 := Tryd.zeroValue4
  t5 := Tryd.underlying5
  a5 := Tryd.isAgg5
  z5 := Tryd.sizeOf5
  v5 := Tryd.zeroValue5
  t9 := Tryd.underlying9
  a9 := Tryd.isAgg9
  z9 := Tryd.sizeOf9
  v9 := Tryd.zeroValue9
  t20 := Tryd.underlying20
  a20 := Tryd.isAgg20
  z20 := Tryd.sizeOf20
  v20 := Tryd.zeroValue20
  t37 := Tryd.underlying32
  a37 := Tryd.isAgg32
  z37 := Tryd.sizeOf32
  v37 := Tryd.zeroValue32
  t46 := Tryd.underlying93
  a46 := Tryd.isAgg93
  z46 := Tryd.sizeOf93
  v46 := Tryd.zeroValue93
  t51 := Tryd.underlying106
  a51 := Tryd.isAgg106
  z51 := Tryd.sizeOf106
  v51 := Tryd.zeroValue106
  t53 := Tryd.underlying94
  a53 := Tryd.isAgg94
  z53 := Tryd.sizeOf94
  v53 := Tryd.zeroValue94
  t171 := Tryd.underlying101
  a171 := Tryd.isAgg101
  z171 := Tryd.sizeOf101
  v171 := Tryd.zeroValue101
  t173 := Tryd.underlying104
  a173 := Tryd.isAgg104
  z173 := Tryd.sizeOf104
  v173 := Tryd.zeroValue104
  t212 := Tryd.underlying115
  a212 := Tryd.isAgg115
  z212 := Tryd.sizeOf115
  v212 := Tryd.zeroValue115
  t213 := Tryd.underlying116
  a213 := Tryd.isAgg116
  z213 := Tryd.sizeOf116
  t232 := Tryd.underlying119
  a232 := Tryd.isAgg119
  z232 := Tryd.sizeOf119
  v232 := Tryd.zeroValue119
  t233 := Tryd.underlying120
  a233 := Tryd.isAgg120
  z233 := Tryd.sizeOf120
  v233 := Tryd.zeroValue120
  g17 := by kernel_rfl
  g18 := by kernel_rfl
  g19 := by kernel_rfl
  i0 := by kernel_rfl
  i2 := by kernel_rfl
  i3 := by kernel_rfl
  i4 := by kernel_rfl
  i5 := by kernel_rfl
  i9 := by kernel_rfl
  i20 := by kernel_rfl
  i37 := by kernel_rfl
  i46 := by kernel_rfl
  i51 := by kernel_rfl
  i53 := by kernel_rfl
  i171 := by kernel_rfl
  i173 := by kernel_rfl
  i212 := by kernel_rfl
  i232 := by kernel_rfl
  i233 := by kernel_rfl
  m17 := by kernel_rfl
  m18 := by kernel_rfl
  m19 := by kernel_rfl
}
theorem WStep.grow' (w : World) (k : Nat) (os : Array Obj) : WStep w (grow (w.drewN k) os) none := by
  refine ⟨rfl, rfl, rfl, ?_, ?_, fun b hb _ => ?_⟩
  · exact DrLe.of_le (by simp only [grow, World.drewN]; omega)
  · simp [grow, World.drewN]
  · simp only [grow, World.drewN]
    rw [Array.getElem?_append_left hb]
theorem Spec.of_grow {P : Program} {f : FuncId} {args : List AV} {r : T} {v : Value} (hr : ∀ w D, Rd w D r v) (h : ∀ (w : World) (D : Dm) (vs : List Value), DmOk w D → AVr.AVrs (inCx w D) args vs → Calls P f vs.toArray w fun e w' => e = .returned v ∧ ∃ k os, w' = grow (w.drewN k) os) : Spec P f args (fun x => x = .t r) :=
  fun w D vs hD hv => (h w D vs hD hv).mono fun e w' ⟨he, k, os, hw⟩ => by
    subst hw
    exact ⟨v, .t r, he, rfl, WStep.grow' w k os, fun _ => none, (fun b p hb => by cases hb), hr _ _⟩
def itoaB (n : Int) : ByteArray := ⟨(Lib.itoa n).toArray⟩
theorem s_Itoa (n : Int) (h0 : -9223372036854775808 ≤ n) (h1 : n ≤ 9223372036854775807) : Spec Tryd.prog 54 [I n] (fun r => r = .t (.str (itoaB n))) := by
  refine Spec.of_grow (fun w D => .str _) fun w D vs hD hv => ?_
  match vs, hv with
  | [v], ⟨hv, _⟩ =>
    have hv' : v = .int .i64 n := by cases hv; rfl
    subst hv'
    exact Any.strconv_Itoa layItoa n h0 h1 w hD.gl.pow
theorem dec_list (n : Nat) : (decM n).data.toList = Lib.decDigits n := by
  induction n using Nat.strongRecOn with
  | _ n ih =>
    by_cases h : n < 10
    · obtain ⟨b, h1, h2⟩ := dig_list n h
      rw [decM_lt h, h1, Lib.decDigits, dif_pos h]
      congr 1
      apply UInt8.toNat_inj.1
      rw [h2]; simp [UInt8.toNat_ofNat']; omega
    · obtain ⟨b, h1, h2⟩ := dig_list (n % 10) (by omega)
      rw [decM_ge h, ByteArray.data_append, Array.toList_append, ih (n / 10) (by omega), h1]
      conv => rhs; rw [Lib.decDigits, dif_neg h]
      congr 2
      apply UInt8.toNat_inj.1
      rw [h2]; simp [UInt8.toNat_ofNat']; omega
theorem itoa_dec (n : Nat) : itoaB n = decM n := by
  have h : (itoaB n).data.toList = (decM n).data.toList := by
    rw [dec_list]
    unfold itoaB Lib.itoa
    rw [if_neg (by omega)]
    simp
  exact ByteArray.ext (Array.toList_inj.1 h)
end Go.Proofs.YtgkmbbiebmamaaaDoor.Am
namespace Go.Proofs.YtgkmbbiebmamaaaDoor.Am
open Go
set_option maxRecDepth 100000
set_option linter.unusedSimpArgs false
set_option linter.unusedVariables false
theorem s_isNaN (n : Int) : Spec Tryd.prog 65 [I n] (fun r => r = Bo false) := by
  refine Spec.of tysOk mixed Tryd.func65 rfl (by decide) ?_
  simp -implicitDefEqProofs only [go_sem, Tryd.f65]
theorem p_isNaN : Plain Tryd.prog 65 := ⟨_, Tryd.func65, rfl, by decide⟩
def cmpM (a b : Int) : Int := if a < b then -1 else if b < a then 1 else 0
theorem s_compare (a b : Int) : Spec Tryd.prog 49 [I a, I b] (fun r => r = I (cmpM a b)) := by
  refine Spec.of tysOk mixed Tryd.func49 rfl (by decide) ?_
  simp -implicitDefEqProofs only [go_sem, Tryd.f49]
  refine .one (s_isNaN _) p_isNaN rfl trivial ?_
  simp -implicitDefEqProofs only [go_sem]
  refine .one (s_isNaN _) p_isNaN rfl trivial ?_
  simp -implicitDefEqProofs only [go_sem]
  refine BrA_i (fun h => ?_) (fun h => ?_)
  · simp -implicitDefEqProofs only [go_sem]; simp_all [cmpM]
  · simp -implicitDefEqProofs only [go_sem]
    refine BrA_i (fun h => ?_) (fun h => ?_) <;> simp -implicitDefEqProofs only [go_sem] <;> simp_all [cmpM] <;> omega
theorem p_compare : Plain Tryd.prog 49 := ⟨_, Tryd.func49, rfl, by decide⟩
def withinM (n lo hi : Int) : Bool := decide (lo ≤ n) && decide (n ≤ hi)
theorem s_within (n lo hi : Int) : Spec Tryd.prog 53 [I n, I lo, I hi] (fun r => r = Bo (withinM n lo hi)) := by
  refine Spec.of tysOk mixed Tryd.func53 rfl (by decide) ?_
  simp -implicitDefEqProofs only [go_sem, Tryd.f53]
  refine BrA_i (fun h => ?_) (fun h => ?_) <;> simp -implicitDefEqProofs only [go_sem] <;> simp_all [withinM] <;> omega
end Go.Proofs.YtgkmbbiebmamaaaDoor.Am
namespace Go.Proofs.YtgkmbbiebmamaaaDoor.Am
open Go
set_option maxRecDepth 100000
set_option linter.unusedSimpArgs false
set_option linter.unusedVariables false
theorem p_l1In : Plain Tryd.prog 55 := ⟨_, Tryd.func55, rfl, by decide⟩
theorem s_l1In (n lo hi : Int) : Spec Tryd.prog 55 [I n, I lo, I hi] (fun r => r = Bo (withinM n lo hi)) := by
  refine Spec.of tysOk mixed Tryd.func55 rfl (by decide) ?_
  simp -implicitDefEqProofs only [go_sem, Tryd.f55]
  refine BrA_i (fun h => ?_) (fun h => ?_) <;> simp -implicitDefEqProofs only [go_sem] <;> simp_all [withinM] <;> omega
end Go.Proofs.YtgkmbbiebmamaaaDoor.Am
namespace Go.Proofs.YtgkmbbiebmamaaaDoor.Am
open Go
set_option maxRecDepth 100000
set_option maxHeartbeats 1000000
set_option linter.unusedSimpArgs false
set_option linter.unusedVariables false
def digB (b : UInt8) : Bool := decide (48 ≤ b.toNat) && decide (b.toNat ≤ 57)
theorem digB_dig {n : Nat} (h : n < 10) : ∀ b ∈ (dig n).data.toList, digB b = true := by
  obtain ⟨b, h1, h2⟩ := dig_list n h
  intro c hc
  rw [h1] at hc
  simp only [List.mem_cons, List.not_mem_nil, or_false] at hc
  subst hc
  simp only [digB, h2, Bool.and_eq_true, decide_eq_true_eq]; omega
abbrev decL (n : Nat) : List UInt8 := (decM n).data.toList
theorem decL_dig (n : Nat) : ∀ b ∈ decL n, digB b = true := by
  induction n using Nat.strongRecOn with
  | _ n ih =>
    intro b hb
    by_cases h : n < 10
    · unfold decL at hb; rw [decM_lt h] at hb; exact digB_dig h b hb
    · unfold decL at hb
      rw [decM_ge h, ByteArray.data_append, Array.toList_append, List.mem_append] at hb
      rcases hb with hb | hb
      · exact ih (n / 10) (by omega) b hb
      · exact digB_dig (by omega) b hb
theorem decL_ne (n : Nat) : decL n ≠ [] := by
  by_cases h : n < 10
  · obtain ⟨b, h1, _⟩ := dig_list n h
    unfold decL; rw [decM_lt h, h1]; simp
  · obtain ⟨b, h1, _⟩ := dig_list (n % 10) (by omega)
    unfold decL; rw [decM_ge h, ByteArray.data_append, Array.toList_append, h1]; simp
theorem decL_head (n : Nat) : (decL n).length = 1 ∨ ∃ b l, decL n = b :: l ∧ b.toNat ≠ 48 := by
  induction n using Nat.strongRecOn with
  | _ n ih =>
    by_cases h : n < 10
    · obtain ⟨b, h1, _⟩ := dig_list n h
      left; unfold decL; rw [decM_lt h, h1]; rfl
    · right
      obtain ⟨c, h1, _⟩ := dig_list (n % 10) (by omega)
      have e : decL n = decL (n / 10) ++ [c] := by
        show (decM n).data.toList = _
        rw [decM_ge h, ByteArray.data_append, Array.toList_append, h1]
      rw [e]
      rcases ih (n / 10) (by omega) with h2 | ⟨b, l, h2, h3⟩
      · by_cases h9 : n / 10 < 10
        · obtain ⟨b, h4, h5⟩ := dig_list (n / 10) h9
          have e2 : decL (n / 10) = [b] := by show (decM _).data.toList = _; rw [decM_lt h9, h4]
          exact ⟨b, [c], by rw [e2]; rfl, by omega⟩
        · exfalso
          have : decL (n / 10) = decL (n / 10 / 10) ++ (dig (n / 10 % 10)).data.toList := by
            show (decM _).data.toList = _
            rw [decM_ge h9, ByteArray.data_append, Array.toList_append]
          obtain ⟨d, h6, _⟩ := dig_list (n / 10 % 10) (by omega)
          rw [this, h6, List.length_append] at h2
          have hp := List.length_pos_iff.2 (decL_ne (n / 10 / 10))
          rw [List.length_singleton] at h2; omega
      · exact ⟨b, l ++ [c], by rw [h2]; rfl, h3⟩
def canon (l : List UInt8) : Prop := (∀ b ∈ l, digB b = true) ∧ l ≠ [] ∧ (l.length = 1 ∨ ∀ b t, l = b :: t → b.toNat ≠ 48)
theorem bval_pos : ∀ {l : List UInt8} {b : UInt8} {t : List UInt8}, (∀ b ∈ l, digB b = true) → l = b :: t → b.toNat ≠ 48 → 0 < bval l := by
  intro l
  induction h : l.length generalizing l with
  | zero => intro b t _ e; subst e; simp at h
  | succ k ih =>
    intro b t hd e hb
    rcases List.eq_nil_or_concat t with rfl | ⟨t', c, rfl⟩
    · subst e
      have := hd b (by simp)
      simp only [digB, Bool.and_eq_true, decide_eq_true_eq] at this
      simp only [bval, List.foldl_cons, List.foldl_nil]; omega
    · have e2 : l = (b :: t') ++ [c] := by rw [e]; simp
      have := ih (l := b :: t') (by rw [e2] at h; simp at h ⊢; omega) (fun x hx => hd x (by rw [e2]; simp at hx ⊢; rcases hx with h | h <;> simp [h])) rfl hb
      rw [e2, bval_snoc]; omega
theorem canon_dec : ∀ {l : List UInt8}, canon l → l = decL (bval l) := by
  intro l
  induction h : l.length generalizing l with
  | zero => intro hc; exact absurd (List.length_eq_zero_iff.1 h) hc.2.1
  | succ k ih =>
    rintro ⟨h1, h2, h3⟩
    rcases List.eq_nil_or_concat l with rfl | ⟨t, c, rfl⟩
    · exact absurd rfl h2
    simp only [List.concat_eq_append] at *
    have hc := h1 c (by simp)
    simp only [digB, Bool.and_eq_true, decide_eq_true_eq] at hc
    have hdig : ∀ d, d < 10 → c.toNat = 48 + d → (dig d).data.toList = [c] := by
      intro d hd e
      obtain ⟨b, g1, g2⟩ := dig_list d hd
      rw [g1]; congr 1; apply UInt8.toNat_inj.1; omega
    rw [bval_snoc]
    by_cases ht : t = []
    · subst ht
      show [c] = (decM _).data.toList
      have e0 : 10 * bval [] + (c.toNat - 48) = c.toNat - 48 := by simp [bval]
      rw [e0, decM_lt (by omega), hdig _ (by omega) (by omega)]
    · obtain ⟨b, t', e⟩ : ∃ b t', t = b :: t' := by cases t with | nil => exact absurd rfl ht | cons b t' => exact ⟨b, t', rfl⟩
      have hb : b.toNat ≠ 48 := by
        rcases h3 with h3 | h3
        · rw [e] at h3; simp at h3
        · exact h3 b (t' ++ [c]) (by rw [e]; rfl)
      have hd : ∀ x ∈ t, digB x = true := fun x hx => h1 x (by simp [hx])
      have hp := bval_pos hd e hb
      have hr := ih (l := t) (by simp at h; omega) ⟨hd, ht, .inr fun b2 t2 e2 => by rw [e] at e2; cases e2; exact hb⟩
      show _ = (decM _).data.toList
      have e1 : (10 * bval t + (c.toNat - 48)) / 10 = bval t := by omega
      have e2 : (10 * bval t + (c.toNat - 48)) % 10 = c.toNat - 48 := by omega
      rw [decM_ge (by omega), ByteArray.data_append, Array.toList_append, e1, e2, hdig _ (by omega) (by omega)]
      have hr' : t = (decM (bval t)).data.toList := hr
      conv => lhs; rw [hr']
theorem bval_lt : ∀ {l : List UInt8}, (∀ b ∈ l, digB b = true) → bval l < 10 ^ l.length := by
  intro l
  induction h : l.length generalizing l with
  | zero => intro _; rw [List.length_eq_zero_iff.1 h]; decide
  | succ k ih =>
    intro hd
    rcases List.eq_nil_or_concat l with rfl | ⟨t, c, rfl⟩
    · simp at h
    simp only [List.concat_eq_append] at *
    have hc := hd c (by simp)
    simp only [digB, Bool.and_eq_true, decide_eq_true_eq] at hc
    have := ih (l := t) (by simp at h; omega) (fun x hx => hd x (by simp [hx]))
    rw [bval_snoc, Nat.pow_succ]; omega
theorem canon_decL (n : Nat) : canon (decL n) := ⟨decL_dig n, decL_ne n, (decL_head n).imp id fun ⟨b, l, e, hb⟩ b2 t2 e2 => by rw [e] at e2; cases e2; exact hb⟩
theorem bval_decL (n : Nat) : bval (decL n) = n := bval_decM n
theorem decL_len {n : Nat} (h : n < 10000000000) : (decL n).length ≤ 10 := by
  have key : ∀ k n, n < 10 ^ (k + 1) → (decL n).length ≤ k + 1 := by
    intro k
    induction k with
    | zero =>
      intro n hn
      obtain ⟨b, h1, _⟩ := dig_list n (by omega)
      show (decM n).data.toList.length ≤ _
      rw [decM_lt (by omega), h1]; simp
    | succ k ih =>
      intro n hn
      by_cases h : n < 10
      · obtain ⟨b, h1, _⟩ := dig_list n (by omega)
        show (decM n).data.toList.length ≤ _
        rw [decM_lt (by omega), h1]; simp
      · obtain ⟨c, h1, _⟩ := dig_list (n % 10) (by omega)
        show (decM n).data.toList.length ≤ _
        rw [decM_ge h, ByteArray.data_append, Array.toList_append, h1, List.length_append]
        have := ih (n / 10) (by rw [Nat.pow_succ] at hn; omega)
        simp at this ⊢; omega
  exact key 9 n h
open Classical in
noncomputable def figM (s : ByteArray) : Int := if canon s.data.toList ∧ s.size ≤ 10 then (bval s.data.toList : Int) else -1
theorem size_list (s : ByteArray) : s.size = s.data.toList.length := rfl
theorem figM_dec (n : Nat) (h : n < 10000000000) : figM (decM n) = n := by
  unfold figM
  rw [if_pos ⟨canon_decL n, by rw [size_list]; exact decL_len h⟩]
  exact congrArg Int.ofNat (bval_decL n)
theorem figM_some {s : ByteArray} (h : 0 ≤ figM s) : ∃ n : Nat, figM s = n ∧ s = decM n ∧ n < 10000000000 := by
  unfold figM at h ⊢
  split at h
  · rename_i hc
    rw [if_pos hc]
    refine ⟨_, rfl, ByteArray.ext (Array.toList_inj.1 (canon_dec hc.1)), ?_⟩
    have := bval_lt hc.1.1
    have h10 : s.data.toList.length ≤ 10 := hc.2
    exact Nat.lt_of_lt_of_le this (Nat.pow_le_pow_right (by decide) h10)
  · omega
end Go.Proofs.YtgkmbbiebmamaaaDoor.Am
namespace Go.Proofs.YtgkmbbiebmamaaaDoor.Am
open Go Go.Proofs Go.Shelf Go.RowKit Go.Sort
set_option maxRecDepth 100000
set_option maxHeartbeats 1000000
set_option linter.unusedSimpArgs false
set_option linter.unusedVariables false
def layAtoi_ren : Go.Shelf.Ren := ⟨fun | 172 => 34 | 244 => 57 | 245 => 58 | 247 => 70 | 279 => 71 | 280 => 72 | 281 => 73 | 282 => 74 | 287 => 83 | 316 => 84 | 171 => 54 | 205 => 85 | 321 => 93 | 322 => 94 | 243 => 68 | 246 => 78 | 283 => 87 | 284 => 88 | 285 => 89 | 286 => 90 | 129 => 97 | 317 => 96 | 318 => 98 | 319 => 99 | 320 => 100 | 337 => 101 | 338 => 102 | n => n, fun | 9 => 9 | 3 => 3 | 75 => 55 | 76 => 56 | 4 => 4 | 5 => 5 | 167 => 82 | 37 => 32 | 0 => 0 | 85 => 83 | 2 => 2 | 168 => 85 | 53 => 94 | 175 => 95 | 46 => 93 | 210 => 99 | 127 => 110 | 145 => 113 | 143 => 111 | 21 => 21 | 171 => 101 | 173 => 104 | 212 => 115 | 51 => 106 | 20 => 20 | 213 => 116 | 232 => 119 | 233 => 120 | 80 => 121 | n => n, fun | 15 => 1 | 16 => 2 | 17 => 3 | 18 => 4 | 19 => 5 | n => n⟩
theorem layAtoi : LaysC.n172 Tryd.prog layAtoi_ren := {
  mixed := by kernel_rfl
  f129 := Tryd.func97.trans (congrArg some (by kernel_rfl))
  f171 := Tryd.func54.trans (congrArg some (by kernel_rfl))
  f172 := Tryd.func34.trans (congrArg some (by kernel_rfl))
  f205 := Tryd.func85.trans (congrArg some (by kernel_rfl))
  f243 := Tryd.func68.trans (congrArg some (by kernel_rfl))
  f244 := Tryd.func57.trans (congrArg some (by kernel_rfl))
  f245 := Tryd.func58.trans (congrArg some (by kernel_rfl))
  f246 := Tryd.func78.trans (congrArg some (by kernel_rfl))
  f247 := Tryd.func70.trans (congrArg some (by kernel_rfl))
  f279 := Tryd.func71.trans (congrArg some (by kernel_rfl))
  f280 := Tryd.func72.trans (congrArg some (by kernel_rfl))
  f281 := Tryd.func73.trans (congrArg some (by kernel_rfl))
  f282 := Tryd.func74.trans (congrArg some (by kernel_rfl))
  f283 := Tryd.func87.trans (congrArg some (by kernel_rfl))
  f284 := Tryd.func88.trans (congrArg some (by kernel_rfl))
  f285 := Tryd.func89.trans (congrArg some (by kernel_rfl))
  f286 := Tryd.func90.trans (congrArg some (by kernel_rfl))
  f287 := Tryd.func83.trans (congrArg some (by kernel_rfl))
  f316 := Tryd.func84.trans (congrArg some (by kernel_rfl))
  f317 := Tryd.func96.trans (congrArg some (by kernel_rfl))
  f318 := Tryd.func98.trans (congrArg some (by kernel_rfl))
  f319 := Tryd.func99.trans (congrArg some (by kernel_rfl))
  f320 := Tryd.func100.trans (congrArg some (by kernel_rfl))
  f321 := Tryd.func93.trans (congrArg some (by kernel_rfl))
  f322 := Tryd.func94.trans (congrArg some (by kernel_rfl))
  f337 := Tryd.func101.trans (congrArg some (by kernel_rfl))
  f338 := Tryd.func102.trans (congrArg some (by kernel_rfl))
  t0 := Tryd.underlying0
  a0 := Tryd.isAgg0
  z0 := Tryd.sizeOf0
  v0 := Tryd.zeroValue0
  t2 := Tryd.underlying2
  a2 := Tryd.isAgg2
  z2 := Tryd.sizeOf2
  v2 := Tryd.zeroValue2
  t3 := Tryd.underlying3
  a3 := Tryd.isAgg3
  z3 := Tryd.sizeOf3
  v3 := Tryd.zeroValue3
  t4 := Tryd.underlying4
  a4 := Tryd.isAgg4
  z4 := Tryd.sizeOf4
  v4 := Tryd.zeroValue4
  t5 := Tryd.underlying5
  a5 := Tryd.isAgg5
  z5 := Tryd.sizeOf5
  v5 := Tryd.zeroValue5
  t9 := Tryd.underlying9
  a9 := Tryd.isAgg9
  z9 := Tryd.sizeOf9
  v9 := Tryd.zeroValue9
  t20 := Tryd.underlying20
  a20 := Tryd.isAgg20
  z20 := Tryd.sizeOf20
  v20 := Tryd.zeroValue20
  t21 := Tryd.underlying21
  a21 := Tryd.isAgg21
  z21 := Tryd.sizeOf21
  v21 := Tryd.zeroValue21
  t37 := Tryd.underlying32
  a37 := Tryd.isAgg32
  z37 := Tryd.sizeOf32
  v37 := Tryd.zeroValue32
  t46 := Tryd.underlying93
  a46 := Tryd.isAgg93
  z46 := Tryd.sizeOf93
  v46 := Tryd.zeroValue93
  t51 := Tryd.underlying106
  a51 := Tryd.isAgg106
  z51 := Tryd.sizeOf106
  v51 := Tryd.zeroValue106
  t53 := Tryd.underlying94
  a53 := Tryd.isAgg94
  z53 := Tryd.sizeOf94
  v53 := Tryd.zeroValue94
  t75 := Tryd.underlying55
  a75 := Tryd.isAgg55
  z75 := Tryd.sizeOf55
  v75 := Tryd.zeroValue55
  t76 := Tryd.underlying56
  a76 := Tryd.isAgg56
  z76 := Tryd.sizeOf56
  v76 := Tryd.zeroValue56
  t85 := Tryd.underlying83
  a85 := Tryd.isAgg83
  z85 := Tryd.sizeOf83
  v85 := Tryd.zeroValue83
  t127 := Tryd.underlying110
  a127 := Tryd.isAgg110
  z127 := Tryd.sizeOf110
  v127 := Tryd.zeroValue110
  t143 := Tryd.underlying111
  a143 := Tryd.isAgg111
  z143 := Tryd.sizeOf111
  v143 := Tryd.zeroValue111
  t145 := Tryd.underlying113
  a145 := Tryd.isAgg113
  z145 := Tryd.sizeOf113
  v145 := Tryd.zeroValue113
  t167 := Tryd.underlying82
  a167 := Tryd.isAgg82
  z167 := Tryd.sizeOf82
  v167 := Tryd.zeroValue82
  t168 := Tryd.underlying85
  a168 := Tryd.isAgg85
  z168 := Tryd.sizeOf85
  v168 := Tryd.zeroValue85
  t171 := Tryd.underlying101
  a171 := Tryd.isAgg101
  z171 := Tryd.sizeOf101
  v171 := Tryd.zeroValue101
  t173 := Tryd.underlying104
  a173 := Tryd.isAgg104
  z173 := Tryd.sizeOf104
  v173 := Tryd.zeroValue104
  t175 := Tryd.underlying95
  a175 := Tryd.isAgg95
  z175 := Tryd.sizeOf95
  v175 := Tryd.zeroValue95
  t210 := Tryd.underlying99
  a210 := Tryd.isAgg99
  z210 := Tryd.sizeOf99
  v210 := Tryd.zeroValue99
  t212 := Tryd.underlying115
  a212 := Tryd.isAgg115
  z212 := Tryd.sizeOf115
  v212 := Tryd.zeroValue115
  t213 := Tryd.underlying116
  a213 := Tryd.isAgg116
  z213 := Tryd.sizeOf116
  t232 := Tryd.underlying119
  a232 := Tryd.isAgg119
  z232 := Tryd.sizeOf119
  v232 := Tryd.zeroValue119
  t233 := Tryd.underlying120
  a233 := Tryd.isAgg120
  z233 := Tryd.sizeOf120
  v233 := Tryd.zeroValue120
  g15 := by kernel_rfl
  g16 := by kernel_rfl
  g17 := by kernel_rfl
  g18 := by kernel_rfl
  g19 := by kernel_rfl
  t80 := Tryd.underlying121
  a80 := Tryd.isAgg121
  z80 := Tryd.sizeOf121
  v80 := Tryd.zeroValue121
  i0 := by kernel_rfl
  i2 := by kernel_rfl
  i3 := by kernel_rfl
  i4 := by kernel_rfl
  i5 := by kernel_rfl
  i9 := by kernel_rfl
  i20 := by kernel_rfl
  i21 := by kernel_rfl
  i37 := by kernel_rfl
  i46 := by kernel_rfl
  i51 := by kernel_rfl
  i53 := by kernel_rfl
  i75 := by kernel_rfl
  i76 := by kernel_rfl
  i80 := by kernel_rfl
  i85 := by kernel_rfl
  i127 := by kernel_rfl
  i143 := by kernel_rfl
  i145 := by kernel_rfl
  i167 := by kernel_rfl
  i168 := by kernel_rfl
  i171 := by kernel_rfl
  i173 := by kernel_rfl
  i175 := by kernel_rfl
  i210 := by kernel_rfl
  i212 := by kernel_rfl
  i232 := by kernel_rfl
  i233 := by kernel_rfl
  m15 := by kernel_rfl
  m16 := by kernel_rfl
  m17 := by kernel_rfl
  m18 := by kernel_rfl
  m19 := by kernel_rfl
  c0 := Eq.refl (some false)
  c2 := Eq.refl (some true)
  c3 := Eq.refl (some true)
  c4 := Eq.refl (some true)
  c5 := Eq.refl (some true)
  c9 := Eq.refl (some true)
  c20 := Eq.refl (some true)
  c21 := Eq.refl (some true)
  c37 := Eq.refl (some false)
  c46 := Eq.refl (some true)
  c51 := Eq.refl (some true)
  c53 := Eq.refl (some true)
  c75 := Eq.refl (some true)
  c76 := Eq.refl (some false)
  c80 := Eq.refl (some false)
  c85 := Eq.refl (some false)
  c127 := Eq.refl (some true)
  c143 := Eq.refl (some true)
  c145 := Eq.refl (some true)
  c167 := Eq.refl (some true)
  c168 := Eq.refl (some true)
  c171 := Eq.refl (some true)
  c173 := Eq.refl (some false)
  c175 := Eq.refl (some false)
  c210 := Eq.refl (some true)
  c212 := Eq.refl (some true)
  c213 := Eq.refl (some true)
  c232 := Eq.refl (some true)
  c233 := Eq.refl (some true)
}
theorem WStep.of_below {w w' : World} (h : Below w.heap.size w w') : WStep w w' none := ⟨h.os, h.tape, h.output, trivial, h.size, fun b hb _ => h.block b hb⟩
theorem fold_ge : ∀ (l : List UInt8) (a : Nat), a ≤ l.foldl (fun a b => 10 * a + (b.toNat - 48)) a
  | [], a => Nat.le_refl _
  | b :: l, a => by
    rw [List.foldl_cons]
    exact Nat.le_trans (by omega) (fold_ge l _)
theorem parse_dec : ∀ (l : List UInt8) (a : Nat), (∀ b ∈ l, digB b = true) → l.foldl (fun a b => 10 * a + (b.toNat - 48)) a < 1000000000000000000 → Lib.parseUint10 a l = .ok (l.foldl (fun a b => 10 * a + (b.toNat - 48)) a)
  | [], a, _, _ => rfl
  | c :: l, a, hd, hb => by
    have hc := hd c (by simp)
    simp only [digB, Bool.and_eq_true, decide_eq_true_eq] at hc
    rw [List.foldl_cons] at hb ⊢
    have h1 := fold_ge l (10 * a + (c.toNat - 48))
    unfold Lib.parseUint10
    rw [if_pos hc, if_neg (by omega), if_neg (by omega), show a * 10 + (c.toNat - 48) = 10 * a + (c.toNat - 48) by omega]
    exact parse_dec l _ (fun b hb => hd b (by simp [hb])) hb
theorem atoi_dec (k : Nat) (hk : k < 100000000000000000) : Lib.atoiAll (decL k) = .ok (k : Int) := by
  have hne := decL_ne k
  have hd := decL_dig k
  have hv : (decL k).foldl (fun a b => 10 * a + (b.toNat - 48)) 0 = k := bval_decL k
  have hp := parse_dec (decL k) 0 hd (by rw [hv]; omega)
  rw [hv] at hp
  cases hl : decL k with
  | nil => exact absurd hl hne
  | cons c r =>
    rw [hl] at hp hd
    have hc := hd c (by simp)
    simp only [digB, Bool.and_eq_true, decide_eq_true_eq] at hc
    unfold Lib.atoiAll
    have e1 : (if c.toNat = 43 ∨ c.toNat = 45 then r else c :: r) = c :: r := if_neg (by omega)
    simp only [e1]
    have e2 : Lib.parseMag (c :: r) = .ok k := by unfold Lib.parseMag; rw [if_neg (by simp)]; exact hp
    rw [e2]
    have e3 : ¬ c.toNat = 45 := by omega
    have e4 : ¬ 9223372036854775808 ≤ k := by omega
    simp [e3, e4]
end Go.Proofs.YtgkmbbiebmamaaaDoor.Am
namespace Go.Proofs.YtgkmbbiebmamaaaDoor.Am
open Go
set_option maxRecDepth 100000
set_option maxHeartbeats 1000000
set_option linter.unusedSimpArgs false
set_option linter.unusedVariables false
theorem byteAt_nat {s : ByteArray} {i : Nat} (h : i < s.data.toList.length) : byteAt s (i : Int) = ((s.data.toList[i].toNat : Nat) : Int) := by
  have h2 : i < s.size := h
  have h3 : i < s.data.size := h
  simp [byteAt, Array.getD, h3, h2]
theorem digB_no {b : UInt8} (h : ¬ (48 ≤ (b.toNat : Int) ∧ (b.toNat : Int) ≤ 57)) : digB b = false := by
  simp only [digB, Bool.and_eq_false_iff, decide_eq_false_iff_not]; omega
theorem digB_yes {b : UInt8} (h : 48 ≤ (b.toNat : Int) ∧ (b.toNat : Int) ≤ 57) : digB b = true := by
  simp only [digB, Bool.and_eq_true, decide_eq_true_eq]; omega
theorem figM_no {s : ByteArray} (h : ¬ (canon s.data.toList ∧ s.size ≤ 10)) : figM s = -1 := by unfold figM; rw [if_neg h]
theorem p_l1Figures : Plain Tryd.prog 32 := ⟨_, Tryd.func32, rfl, by decide⟩
theorem s_l1Figures (s : ByteArray) (hs : s.size ≤ 1099511627776) : Spec Tryd.prog 32 [.t (.str s)] (fun r => r = I (figM s)) := by
  refine Spec.of tysOk mixed Tryd.func32 rfl (by decide) ?_
  obtain ⟨l, hl⟩ : ∃ l, l = s.data.toList := ⟨_, rfl⟩
  have hsz : s.size = l.length := by rw [hl]; rfl
  simp -implicitDefEqProofs only [go_sem, Tryd.f32]
  refine LoopW.slotsM [true, false, false, true, true, false, false, false, false, false, false, false, false, false, false, false, false, false, false, false, false, false, false, false, false, false, false, false, false, false, false, false, false, false, false, false, false, false, false, false, false, false, false, false, false, false] (α := Nat × Nat) (fun x => [(3, I x.2), (4, I x.1)]) (fun x => []) (fun x => s.size - x.1) (fun x => (x.1 ≤ s.size ∧ ∀ j (h : j < l.length), j < x.1 → digB l[j] = true) ∧ x.2 = bval (l.take (min x.1 10))) (0, 0) (by simp -implicitDefEqProofs only [go_sem, LeTs_undef, LeTs_same, LeTs_nil]; try simp [LeTs]) rfl ⟨⟨by simp, fun _ _ h => by cases h⟩, by simp [bval]⟩ ?_
  rintro ⟨i, n⟩ ⟨⟨hi, hj⟩, hn⟩
  simp only at hi hj hn
  have hdt : ∀ k, k ≤ i → ∀ b ∈ l.take k, digB b = true := fun k hk b hb => by
    obtain ⟨j, hjl, e⟩ := List.getElem_of_mem hb
    rw [List.getElem_take] at e
    rw [← e]
    rw [List.length_take] at hjl
    exact hj j (by omega) (by omega)
  have hn10 : n < 10000000000 := by
    have := bval_lt (hdt (min i 10) (by omega))
    rw [← hn] at this
    have h10 : (l.take (min i 10)).length ≤ 10 := by rw [List.length_take]; omega
    exact Nat.lt_of_lt_of_le this (Nat.le_trans (Nat.pow_le_pow_right (n := 10) (by decide) h10) (by decide))
  simp -implicitDefEqProofs only [go_sem]
  refine BrA_i (fun h => ?_) (fun h => ?_) <;> simp -implicitDefEqProofs only [go_sem]
  · have h : i < s.size := by simp at h; omega
    have h' : i < l.length := by omega
    have h0i : (0 : Int) ≤ i := by omega
    have h1i : (i : Int) < s.size := by omega
    have wi : IntKind.i64.wrap ((i : Int) + 1) = ((i + 1 : Nat) : Int) := by rw [wrap64 (by omega) (by omega)]; omega
    have hb : byteAt s (i : Int) = ((l[i].toNat : Nat) : Int) := by subst hl; exact byteAt_nat h'
    have hb2 : l[i].toNat < 256 := l[i].toNat_lt
    have no : ¬ (48 ≤ (l[i].toNat : Int) ∧ (l[i].toNat : Int) ≤ 57) → AV.t (T.int .i64 (-1)) = I (figM s) := fun hh => by
      rw [figM_no (fun hc => by
        have := hc.1.1 l[i] (by rw [← hl]; exact List.getElem_mem h')
        rw [digB_no hh] at this; cases this)]
    simp -implicitDefEqProofs only [go_sem, h0i, h1i, hb]
    refine BrA_i (fun h2 => ?_) (fun h2 => ?_) <;> simp -implicitDefEqProofs only [go_sem, h0i, h1i, hb]
    · exact no (fun hc => by simp at h2; omega)
    refine BrA_i (fun h3 => ?_) (fun h3 => ?_) <;> simp -implicitDefEqProofs only [go_sem, h0i, h1i, hb]
    · exact no (fun hc => by simp at h3; omega)
    have hd : 48 ≤ (l[i].toNat : Int) ∧ (l[i].toNat : Int) ≤ 57 := by simp at h2 h3; omega
    have hdig := digB_yes hd
    have hj' : ∀ j (h : j < l.length), j < i + 1 → digB l[j] = true := fun j h5 h6 => by
      by_cases e : j < i
      · exact hj j h5 e
      · obtain rfl : j = i := by omega
        exact hdig
    refine BrA_i (fun h4 => ?_) (fun h4 => ?_) <;> simp -implicitDefEqProofs only [go_sem, h0i, h1i, hb]
    · have h4 : i < 10 := by simp at h4; omega
      have w1 : IntKind.i64.wrap ((n : Int) * 10) = ((10 * n : Nat) : Int) := by rw [wrap64 (by omega) (by omega)]; omega
      have w2 : IntKind.u8.wrap ((l[i].toNat : Int) - 48) = ((l[i].toNat - 48 : Nat) : Int) := by
        simp [IntKind.wrap, IntKind.signed, IntKind.bits]; omega
      have w3 : IntKind.i64.wrap (((l[i].toNat - 48 : Nat) : Int)) = ((l[i].toNat - 48 : Nat) : Int) := wrap64 (by omega) (by omega)
      have w4 : IntKind.i64.wrap (((10 * n : Nat) : Int) + ((l[i].toNat - 48 : Nat) : Int)) = ((10 * n + (l[i].toNat - 48) : Nat) : Int) := by rw [wrap64 (by omega) (by omega)]; omega
      simp -implicitDefEqProofs only [go_sem, w1, w2, w3, w4, wi]
      refine .to [] (i + 1, 10 * n + (l[i].toNat - 48)) rfl ?_ ?_ (by show s.size - (i + 1) < s.size - i; omega) ⟨⟨by show i + 1 ≤ s.size; omega, hj'⟩, ?_⟩
      · simp -implicitDefEqProofs only [go_sem, LeTs_undef, LeTs_same, LeTs_nil]
      · rfl
      · show 10 * n + (l[i].toNat - 48) = bval (l.take (min (i + 1) 10))
        rw [show min (i + 1) 10 = i + 1 by omega, List.take_add_one, List.getElem?_eq_getElem h', hn, show min i 10 = i by omega]
        exact (bval_snoc _ _).symm
    · have h4 : 10 ≤ i := by simp at h4; omega
      simp -implicitDefEqProofs only [go_sem, wi]
      refine .to [] (i + 1, n) rfl ?_ ?_ (by show s.size - (i + 1) < s.size - i; omega) ⟨⟨by show i + 1 ≤ s.size; omega, hj'⟩, ?_⟩
      · simp -implicitDefEqProofs only [go_sem, LeTs_undef, LeTs_same, LeTs_nil]
      · rfl
      · show n = bval (l.take (min (i + 1) 10))
        rw [hn, show min (i + 1) 10 = 10 by omega, show min i 10 = 10 by omega]
  · have h : i = s.size := by simp at h; omega
    subst h
    refine CallW.one (s_l1In s.size 1 10) p_l1In (by first | (simp -implicitDefEqProofs only [go_sem]; done) | ((conv => lhs; simp -implicitDefEqProofs only [go_sem]); done) | (simp -implicitDefEqProofs only [go_sem]; rfl) | rfl) (by first | trivial | (simp [DeepR, DeepV, DeepVs, DeepC, DeepCs, T.scal]; done)) ?_
    cases hw : withinM s.size 1 10
    · simp -implicitDefEqProofs only [go_sem, hw, Bool.not_false]
      rw [figM_no (fun hc => by
        have h2 : s.data.toList.length ≠ 0 := fun e => hc.1.2.1 (List.length_eq_zero_iff.1 e)
        rw [← hl, ← hsz] at h2
        have : withinM s.size 1 10 = true := by
          unfold withinM; simp only [Bool.and_eq_true, decide_eq_true_eq]; have := hc.2; omega
        rw [hw] at this; cases this)]
    have hw2 : 1 ≤ s.size ∧ s.size ≤ 10 := by
      unfold withinM at hw; simp only [Bool.and_eq_true, decide_eq_true_eq] at hw; omega
    simp -implicitDefEqProofs only [go_sem, hw, Bool.not_true]
    have hn' : n = bval l := by rw [hn, List.take_of_length_le (by omega)]
    have hall : ∀ b ∈ l, digB b = true := fun b hb => by
      obtain ⟨j, hjl, e⟩ := List.getElem_of_mem hb
      rw [← e]; exact hj j hjl (by omega)
    have hne : l ≠ [] := fun e => by rw [e, List.length_nil] at hsz; omega
    refine BrA_i (fun h2 => ?_) (fun h2 => ?_) <;> simp -implicitDefEqProofs only [go_sem]
    · have h2 : 1 < s.size := by simp at h2; omega
      have h1i : (0 : Int) < s.size := by omega
      have h0 : 0 < l.length := by omega
      have hb : byteAt s 0 = ((l[0].toNat : Nat) : Int) := by subst hl; exact byteAt_nat (i := 0) h0
      simp -implicitDefEqProofs only [go_sem, h1i, hb, Int.le_refl]
      refine BrA_i (fun h3 => ?_) (fun h3 => ?_) <;> simp -implicitDefEqProofs only [go_sem]
      · rw [figM_no (fun hc => by
          rcases hc.1.2.2 with h5 | h5
          · rw [← hl] at h5; omega
          · have h6 := of_decide_eq_true h3
            refine h5 l[0] (l.drop 1) ?_ (by omega)
            rw [← hl]; cases l with
            | nil => exact absurd rfl hne
            | cons a t => rfl)]
      · have hc : canon s.data.toList ∧ s.size ≤ 10 := by
          rw [← hl]
          refine ⟨⟨hall, hne, .inr fun b t e e2 => ?_⟩, hw2.2⟩
          subst e
          have h6 := of_decide_eq_false h3
          simp only [List.getElem_cons_zero] at h6
          omega
        unfold figM
        rw [if_pos hc, ← hl, hn']
    · have h2 : s.size = 1 := by simp at h2; omega
      have hc : canon s.data.toList ∧ s.size ≤ 10 := by
        rw [← hl]
        exact ⟨⟨hall, hne, .inl (by omega)⟩, hw2.2⟩
      unfold figM
      rw [if_pos hc, ← hl, hn']
end Go.Proofs.YtgkmbbiebmamaaaDoor.Am
namespace Go.Proofs.YtgkmbbiebmamaaaDoor.Am
open Go
set_option maxRecDepth 100000
set_option maxHeartbeats 1000000
set_option linter.unusedSimpArgs false
set_option linter.unusedVariables false
theorem sz1 : (⟨#[45]⟩ : ByteArray).size = 1 := rfl
end Go.Proofs.YtgkmbbiebmamaaaDoor.Am
namespace Go.Proofs.YtgkmbbiebmamaaaDoor.Am
open Go Go.ChangeShapes Go.WideShapes Go.RowKit
def RdRow (w : World) (ts : List T) (cs : List Value) : Prop := ts.length = cs.length ∧ ∀ (j : Nat) (t : T) (v : Value), ts[j]? = some t → cs[j]? = some v → Rd w (fun b => b < w.heap.size) t v
structure Opn (P : Program) (t : TypeId) (sz : Nat) {α : Type} (row : α → List T) (G : α → Prop) : Prop where
  len : ∀ x, (row x).length = sz
  op : ∀ {H : Type} {enc : TypeId × Value → H} {W : World} {fuel : Nat} {cs : List Value} {D : DataW H} {ps : List MemPlace},
    DataW.trod enc P W 0 (fun _ => true) true fuel t cs = some (D, ps) → (∀ n ∈ DataW.weights P t D, n ≤ reachBytes) → ∃ x, RdRow W (row x) cs ∧ G x
theorem RdRow.one {w : World} {t : T} {v : Value} (h : Rd w (fun b => b < w.heap.size) t v) : RdRow w [t] [v] :=
  ⟨rfl, fun j t' v' h1 h2 => by
    cases j with
    | zero => simp at h1 h2; subst h1 h2; exact h
    | succ j => simp at h1⟩
theorem RdRow.append {w : World} {a b : List T} {c d : List Value} (h : RdRow w a c) (h' : RdRow w b d) : RdRow w (a ++ b) (c ++ d) :=
  ⟨by simp [h.1, h'.1], fun j t v h1 h2 => by
    rw [List.getElem?_append] at h1 h2
    have := h.1
    split at h1
    · rename_i hj
      rw [if_pos (by omega)] at h2
      exact h.2 j t v h1 h2
    · rename_i hj
      rw [if_neg (by omega)] at h2
      rw [this] at h1
      exact h'.2 _ t v h1 h2⟩
section
variable {P : Program} {t : TypeId}
theorem Opn.int {k : IntKind} (hu : P.underlying t = some (.int k)) : Opn P t 1 (fun x : Int => [T.int k x]) (fun x => (Lit.int k x).wf = true) where
  len := fun _ => rfl
  op := fun h _ => by
    obtain ⟨m, rfl, _, hw⟩ := DataW.trod_int hu h
    exact ⟨m, .one (.int _ _), hw⟩
theorem Opn.bool (hu : P.underlying t = some .bool) : Opn P t 1 (fun x : Bool => [T.bool x]) (fun _ => True) where
  len := fun _ => rfl
  op := fun h _ => by
    obtain ⟨m, rfl, _⟩ := DataW.trod_bool hu h
    exact ⟨m, .one (.bool _), trivial⟩
theorem Opn.string (hu : P.underlying t = some .string) : Opn P t 1 (fun x : ByteArray => [T.str x]) (fun x => x.size ≤ 140737488351232) where
  len := fun _ => rfl
  op := fun h hz => by
    obtain ⟨m, rfl, e, _⟩ := DataW.trod_string hu h
    obtain ⟨rfl, _⟩ := Prod.mk.inj e
    refine ⟨m, .one (.str _), ?_⟩
    have := hz m.data.toList.length (by simp [DataW.weights])
    simpa [reachBytes] using this
theorem Opn.slice {e : TypeId} {sz : Nat} {α : Type} {row : α → List T} {G : α → Prop} (he : Opn P e sz row G) (hu : P.underlying t = some (.slice e)) (hc : P.cellsOf e = sz) (hs : 0 < sz) {B : Nat} (hB : P.bytesOf e = B) :
    Opn P t 1 (fun xs : List α => [T.list false sz (xs.map row)]) (fun xs => xs.length * B ≤ 140737488351232 ∧ ∀ x ∈ xs, G x) where
  len := fun _ => rfl
  op := fun {H enc W fuel cs D ps} h hz => by
    rcases DataW.trod_slice hu h with ⟨rfl, _⟩ | ⟨a, len, cap, elems, rest, n, _, rfl, hx, hb, hl, hm, hlen, hel, hsp, _⟩
    · exact ⟨[], .one (.nil ..), by simp, by simp⟩
    · obtain ⟨rfl, _⟩ := Prod.mk.inj hx
      have hw0 := hz ((elems.map (·.1)).length + (rest.map (·.1)).length |>.mul (P.bytesOf e)) (by simp [DataW.weights, hu])
      have each : ∀ i, i < len → ∃ x c, RdRow W (row x) c ∧ G x ∧ c.length = sz ∧ ∀ j u, c[j]? = some u → W.cell? (a.add (i * sz + j)) = some u := by
        intro i hi
        have h1 := hel i hi
        have hil : i < elems.length := by omega
        rw [List.getElem?_eq_getElem hil] at h1
        rw [Option.bind_eq_some_iff] at h1
        obtain ⟨c, hcs, hy⟩ := h1
        have hD : ∀ m ∈ DataW.weights P e (elems[i]).1, m ≤ reachBytes := by
          intro m hmem
          refine hz m ?_
          simp only [DataW.weights, hu]
          refine List.mem_cons_of_mem _ (List.mem_append_left _ ?_)
          have : ∀ (l : List (DataW H)) (y : DataW H), y ∈ l → m ∈ DataW.weights P e y → m ∈ DataW.weightsAll P e l := by
            intro l
            induction l with
            | nil => intro y hy; cases hy
            | cons z l ih =>
              intro y hy hm2
              simp only [DataW.weightsAll, List.mem_append]
              rcases List.mem_cons.1 hy with rfl | hy
              · exact Or.inl hm2
              · exact Or.inr (ih y hy hm2)
          exact this _ _ (List.mem_map.2 ⟨elems[i], List.getElem_mem hil, rfl⟩) hmem
        obtain ⟨x, hK, hG⟩ := he.op (show DataW.trod enc P W 0 (fun _ => true) true n e c = some ((elems[i]).1, (elems[i]).2) from hy) hD
        obtain ⟨hb1, hb2, hb3⟩ := World.cells?_some hcs
        have hlen2 : c.length = sz := by rw [← hK.1, he.len]
        refine ⟨x, c, hK, hG, hlen2, fun j u hu2 => ?_⟩
        have hj := (List.getElem?_eq_some_iff.1 hu2).1
        have h3 := hb3 j (by rw [hc]; omega)
        rw [hu2] at h3
        rw [← h3, hc, Addr.add_add]
      have pick : ∀ l, l ≤ len → ∃ xs : List α, xs.length = l ∧ (∀ x ∈ xs, G x) ∧ ∀ j p, xs[j]? = some p → ∃ c, c.length = sz ∧ RdRow W (row p) c ∧ ∀ i u, c[i]? = some u → W.cell? (a.add (j * sz + i)) = some u := by
        intro l
        induction l with
        | zero => exact fun _ => ⟨[], rfl, by simp, fun j p h => by simp at h⟩
        | succ l ih =>
          intro hll
          obtain ⟨xs, h1, h2, h3⟩ := ih (by omega)
          obtain ⟨x, c, q1, q2, q3, q4⟩ := each l (by omega)
          refine ⟨xs ++ [x], by simp [h1], ?_, ?_⟩
          · intro y hy
            rcases List.mem_append.1 hy with hy | hy
            · exact h2 y hy
            · obtain rfl := List.mem_singleton.1 hy
              exact q2
          · intro j p hj
            by_cases hjl : j < xs.length
            · exact h3 j p (by rwa [List.getElem?_append_left hjl] at hj)
            · rw [List.getElem?_append_right (by omega)] at hj
              have : j - xs.length = 0 := by
                have := (List.getElem?_eq_some_iff.1 hj).1
                simpa using this
              rw [this] at hj
              have hjl2 : j = l := by omega
              subst hjl2
              obtain rfl : x = p := by simpa using hj
              exact ⟨c, q3, q1, q4⟩
      obtain ⟨xs, h1, h2, h3⟩ := pick len (Nat.le_refl _)
      subst h1
      refine ⟨xs, .one ?_, ?_, h2⟩
      · obtain ⟨ab, ao, asp⟩ := a
        have at0 : ∀ (j : Nat) (p : α), xs[j]? = some p → ∀ i, i < sz → ∃ u, W.cell? ⟨ab, ao + (j * sz + i), none⟩ = some u ∧ ∀ x, (row p)[i]? = some x → Rd W (fun b => b < W.heap.size) x u := by
          intro j p hj i hi
          obtain ⟨c, c1, c2, c3⟩ := h3 j p hj
          obtain ⟨u, hu2⟩ : ∃ u, c[i]? = some u := ⟨c[i]'(by omega), List.getElem?_eq_getElem _⟩
          have h4 := c3 i u hu2
          refine ⟨u, ?_, fun x hx => c2.2 i x u hx hu2⟩
          by_cases h0 : j * sz + i = 0
          · rw [h0] at h4 ⊢
            have : asp = none := by
              unfold World.cell? at h4
              simp only [Addr.add] at h4
              cases asp with
              | none => rfl
              | some q => simp at h4; split at h4 <;> simp at h4
            subst this
            exact h4
          · unfold Addr.add at h4
            rw [if_neg h0] at h4
            exact h4
        cases xs with
        | nil => exact .nil ..
        | cons x0 xs0 =>
          obtain ⟨u0, hu0, _⟩ := at0 0 x0 rfl 0 hs
          have hab : ab < W.heap.size := by
            unfold World.cell? at hu0
            simp only at hu0
            split at hu0
            · rename_i hh
              exact (Array.getElem?_eq_some_iff.1 hh).1
            · cases hu0
          have e1 : asp = none := by
            obtain ⟨c, c1, c2, c3⟩ := h3 0 x0 rfl
            have h4 := c3 0 (c[0]'(by omega)) (List.getElem?_eq_getElem _)
            simp only [Nat.zero_mul, Nat.add_zero, Addr.add, if_pos] at h4
            unfold World.cell? at h4
            cases asp with
            | none => rfl
            | some q => simp at h4; split at h4 <;> simp at h4
          subst e1
          have hrow : ∀ (i : Nat) (r : List T), ((x0 :: xs0).map row)[i]? = some r → ∃ p, (x0 :: xs0)[i]? = some p ∧ r = row p := by
            intro i r hr
            rw [List.getElem?_map] at hr
            cases hp : (x0 :: xs0)[i]? with
            | none => rw [hp] at hr; cases hr
            | some p => rw [hp] at hr; cases hr; exact ⟨p, rfl, rfl⟩
          have hfin := @Rd.list W (fun b => b < W.heap.size) false sz ((x0 :: xs0).map row) ab ao cap (fun i j => (W.cell? ⟨ab, ao + (i * sz + j), none⟩).getD Go.undef) (by simpa using hl) hab
            (fun i r hr => by obtain ⟨p, _, rfl⟩ := hrow i r hr; exact he.len p)
            (fun i r j x hr hx => by
              obtain ⟨p, hp, rfl⟩ := hrow i r hr
              obtain ⟨u, hu1, _⟩ := at0 i p hp j (by have := (List.getElem?_eq_some_iff.1 hx).1; rw [he.len] at this; exact this)
              simp only [hu1, Option.getD_some])
            (fun i r j x hr hx => by
              obtain ⟨p, hp, rfl⟩ := hrow i r hr
              obtain ⟨u, hu1, hu2⟩ := at0 i p hp j (by have := (List.getElem?_eq_some_iff.1 hx).1; rw [he.len] at this; exact this)
              simp only [hu1, Option.getD_some]
              exact hu2 x hx)
          rwa [List.length_map] at hfin
      have hw1 : (elems.length + rest.length) * P.bytesOf e ≤ reachBytes := by simpa using hw0
      rw [hB] at hw1
      rw [← hlen]
      exact Nat.le_trans (Nat.mul_le_mul_right _ (Nat.le_add_right _ _)) hw1
structure OpnF (P : Program) (fs : List Field) (o sz : Nat) {α : Type} (row : α → List T) (G : α → Prop) : Prop where
  len : ∀ x, (row x).length = sz
  op : ∀ {H : Type} {enc : TypeId × Value → H} {W : World} {fuel : Nat} {cs : List Value} {xs : List (DataW H × List MemPlace)},
    xs.length = fs.length → (∀ (i : Nat) (f : Field), fs[i]? = some f → DataW.trod enc P W 0 (fun _ => true) true fuel f.type ((cs.drop f.offset).take (P.cellsOf f.type)) = xs[i]?) →
    (∀ n ∈ DataW.weightsEach P (fs.map (·.type)) (xs.map (·.1)), n ≤ reachBytes) → cs.length = o + sz → ∃ x, RdRow W (row x) (cs.drop o) ∧ G x
theorem OpnF.one {f : Field} {o sz : Nat} {α : Type} {row : α → List T} {G : α → Prop} (he : Opn P f.type sz row G) (ho : f.offset = o) (hc : P.cellsOf f.type = sz) : OpnF P [f] o sz row G where
  len := he.len
  op := fun {H enc W fuel cs xs} hx h hz hl => by
    match xs, hx with
    | [y], _ =>
      have hy := h 0 f rfl
      rw [ho, hc, List.take_of_length_le (by simp; omega)] at hy
      exact he.op (show _ = some (y.1, y.2) from hy) (fun n hn => hz n (by simp only [List.map_cons, List.map_nil, DataW.weightsEach]; exact List.mem_append_left _ hn))
theorem OpnF.cons {f : Field} {r : List Field} {o sz sz2 : Nat} {α β : Type} {row : α → List T} {row2 : β → List T} {G : α → Prop} {G2 : β → Prop} (he : Opn P f.type sz row G) (ho : f.offset = o) (hc : P.cellsOf f.type = sz) (hr : OpnF P r (o + sz) sz2 row2 G2) :
    OpnF P (f :: r) o (sz + sz2) (fun x : α × β => row x.1 ++ row2 x.2) (fun x => G x.1 ∧ G2 x.2) where
  len := fun x => by rw [List.length_append, he.len, hr.len]
  op := fun {H enc W fuel cs xs} hx h hz hl => by
    match xs, hx with
    | y :: ys, hx =>
      have hl2 : cs.length = o + sz + sz2 := by omega
      have hy := h 0 f rfl
      rw [ho, hc] at hy
      obtain ⟨x, hK, hG⟩ := he.op (show _ = some (y.1, y.2) from hy) (fun n hn => hz n (by simp only [List.map_cons, DataW.weightsEach]; exact List.mem_append_left _ hn))
      obtain ⟨x2, hK2, hG2⟩ := hr.op (xs := ys) (by simpa using hx) (fun i g hg => h (i + 1) g hg) (fun n hn => hz n (by simp only [List.map_cons, DataW.weightsEach]; exact List.mem_append_right _ hn)) hl2
      refine ⟨(x, x2), ?_, hG, hG2⟩
      have := hK.append hK2
      rwa [← List.drop_drop, List.take_append_drop] at this
theorem Opn.struct {fs : Array Field} {sz : Nat} {α β : Type} {row : α → List T} {row2 : β → List T} {G : α → Prop} {G2 : β → Prop} (g : α → β) (hf : OpnF P fs.toList 0 sz row G) (hu : P.underlying t = some (.struct fs)) (hg : ∀ a, row2 (g a) = row a) (hG2 : ∀ a, G a → G2 (g a)) (hlen : ∀ b, (row2 b).length = sz) (hc : P.cellsOf t = sz) :
    Opn P t sz row2 G2 where
  len := hlen
  op := fun {H enc W fuel cs D ps} h hz => by
    obtain ⟨xs, n, _, hx, hl, hm, he⟩ := DataW.trod_struct hu h
    obtain ⟨rfl, _⟩ := Prod.mk.inj hx
    obtain ⟨x, hK, hG⟩ := hf.op (xs := xs) (by simpa using hm) (fun i f hf => he i f (by simpa using hf)) (fun n hn => hz n (by simp only [DataW.weights, hu]; exact hn)) (by omega)
    exact ⟨g x, by rw [hg]; simpa using hK, hG2 x hG⟩
end
theorem each_of {H : Type} {P : Program} {ts : List TypeId} {ds : List (DataW H)} (h : (DataW.weightsEach P ts ds).all (· ≤ reachBytes) = true) {j : Nat} {t : TypeId} {D : DataW H} (ht : ts[j]? = some t) (hd : ds[j]? = some D) : ∀ n ∈ DataW.weights P t D, n ≤ reachBytes := by
  intro n hn
  have := List.all_eq_true.1 h _ (DataW.weights_mem_each ht hd n hn)
  simpa using this
theorem arg_one {W : World} {t : T} {v : Value} (hv : v.cells.toList = [v]) (h : RdRow W [t] v.cells.toList) : AVr (inCx W fun b => b < W.heap.size) (.t t) v := by
  rw [hv] at h
  exact h.2 0 t v rfl rfl
theorem out_bool {w w' : World} {D : Dm} {b : Bool} {v : Value} (h : Out w D w' (.t (.bool b)) v) : v = .bool b ∧ Below w.heap.size w w' := by
  obtain ⟨h1, col, _, h2⟩ := h
  refine ⟨?_, h1.os, h1.tape, h1.output, h1.size, fun k hk => h1.block k hk (by simp)⟩
  have h3 : Rd (outCx w D w' col).w (outCx w D w' col).Dp (.bool b) v := h2
  cases h3
  rfl
end Go.Proofs.YtgkmbbiebmamaaaDoor.Am
namespace Go.Proofs.YtgkmbbiebmamaaaDoor.Am
open Go
set_option maxRecDepth 100000
set_option linter.unusedSimpArgs false
set_option linter.unusedVariables false
def Idt.row (x : Idt) : List T := [.int .i64 x.t, .int .i64 x.n]
def lG {α : Type} (G : α → Prop) (xs : List α) : Prop := xs.length ≤ 140737488351232 ∧ ∀ x ∈ xs, G x
def Pr.G (x : Pr) : Prop := x.k.size ≤ 140737488351232 ∧ x.v.size ≤ 140737488351232
def It.G (x : It) : Prop := lG Pr.G x.fields
def Wt.G (x : Wt) : Prop := x.who.size ≤ 140737488351232
def Gr.G (x : Gr) : Prop := x.name.size ≤ 140737488351232 ∧ lG Wt.G x.waits
def Stm.G (x : Stm) : Prop := lG It.G x.items ∧ lG Gr.G x.groups
end Go.Proofs.YtgkmbbiebmamaaaDoor.Am
namespace Go.Proofs.YtgkmbbiebmamaaaDoor.Am
open Go
set_option linter.unusedVariables false
set_option linter.unusedSimpArgs false
set_option maxRecDepth 100000
theorem lG_mk {α : Type} {G : α → Prop} {B : Nat} {xs : List α} (hB : 1 ≤ B) (h : xs.length * B ≤ 140737488351232 ∧ ∀ x ∈ xs, G x) : lG G xs :=
  ⟨Nat.le_trans (Nat.le_mul_of_pos_right _ hB) h.1, h.2⟩
def Stm.row (x : Stm) : List T := [.int .i64 x.last.t, .int .i64 x.last.n, .list false 3 (x.items.map It.row), .list false 4 (x.groups.map Gr.row)]
theorem Opn.weaken {P : Program} {t : TypeId} {sz : Nat} {α : Type} {row : α → List T} {G G' : α → Prop} (h : Opn P t sz row G) (hg : ∀ x, G x → G' x) : Opn P t sz row G' :=
  ⟨h.len, fun h1 h2 => by obtain ⟨x, a, b⟩ := h.op h1 h2; exact ⟨x, a, hg x b⟩⟩
end Go.Proofs.YtgkmbbiebmamaaaDoor.Am
namespace Go.Proofs.YtgkmbbiebmamaaaDoor.Am
open Go
set_option linter.unusedVariables false
set_option linter.unusedSimpArgs false
set_option maxRecDepth 100000
def isB (x : Int) : Prop := 0 ≤ x ∧ x ≤ 255
theorem opn_byte : Opn Tryd.prog 5 1 (fun x : Int => [T.int .u8 x]) isB :=
  (Opn.int Tryd.underlying5).weaken fun x h => by
    simp [Lit.wf, IntKind.min, IntKind.max, IntKind.signed, IntKind.bits] at h
    unfold isB; omega
theorem opn_bytes : Opn Tryd.prog 32 1 (fun xs : List Int => [T.list false 1 (xs.map fun b => [T.int .u8 b])]) (lG isB) :=
  (Opn.slice opn_byte Tryd.underlying32 (by kernel_rfl) (by omega) (B := 1) (by kernel_rfl)).weaken fun _ => lG_mk (by omega)
end Go.Proofs.YtgkmbbiebmamaaaDoor.Am
namespace Go.Proofs.YtgkmbbiebmamaaaDoor.Am
open Go
set_option linter.unusedVariables false
def mkC : AV → AV
  | .t x => .t (x.mk false)
  | x => x
def mkCs : List AV → List AV
  | [] => []
  | x :: l => mkC x :: mkCs l
def mkV : AV → AV
  | .agg cs => .agg (mkCs cs)
  | x => mkC x
def mkVs : List AV → List AV
  | [] => []
  | x :: l => mkV x :: mkVs l
def mkR : AV → AV
  | .tup l => .tup (mkVs l)
  | x => mkV x
theorem ResC.mk {c : Cx} {col : Col} {i j : Nat} {x : AV} {v : Value} (h : ResC c col i j x v) : ResC c col i j (mkC x) v := by
  cases x <;> first | exact Rd.mk false h | exact h
theorem ResCs.mk {c : Cx} {col : Col} {i : Nat} : ∀ {xs : List AV} {vs : List Value} {j : Nat}, ResCs c col i j xs vs → ResCs c col i j (mkCs xs) vs
  | [], [], _, _ => trivial
  | x :: xs, v :: vs, j, h => ⟨ResC.mk h.1, ResCs.mk h.2⟩
  | [], _ :: _, _, h => h.elim
  | _ :: _, [], _, h => h.elim
theorem ResV.mk {c : Cx} {col : Col} {i : Nat} {x : AV} {v : Value} (h : ResV c col i x v) : ResV c col i (mkV x) v := by
  cases x with
  | agg cs => obtain ⟨vs, e, h⟩ := h; exact ⟨vs, e, ResCs.mk h⟩
  | t y => exact ResC.mk (c := c) (col := col) (i := i) (j := 0) (x := .t y) h
  | _ => exact h
theorem ResVs.mk {c : Cx} {col : Col} : ∀ {xs : List AV} {vs : List Value} {i : Nat}, ResVs c col i xs vs → ResVs c col i (mkVs xs) vs
  | [], [], _, _ => trivial
  | x :: xs, v :: vs, i, h => ⟨ResV.mk h.1, ResVs.mk h.2⟩
  | [], _ :: _, _, h => h.elim
  | _ :: _, [], _, h => h.elim
theorem ResR.mk {c : Cx} {col : Col} {r : AV} {v : Value} (h : ResR c col r v) : ResR c col (mkR r) v := by
  cases r with
  | tup xs => obtain ⟨vs, e, h⟩ := h; exact ⟨vs, e, ResVs.mk h⟩
  | agg cs => exact ResV.mk (c := c) (col := col) (i := 0) (x := .agg cs) h
  | t y => exact ResV.mk (c := c) (col := col) (i := 0) (x := .t y) h
  | _ => exact h
theorem Spec.mkR {P : Program} {f : FuncId} {args : List AV} {Q : AV → Prop} (h : Spec P f args Q) : Spec P f args (fun r => ∃ r0, Q r0 ∧ r = Am.mkR r0) := fun w D vs hD hv => (h w D vs hD hv).mono fun e w' ⟨v, r, he, hq, hs, col, hc, hr⟩ =>
  ⟨v, Am.mkR r, he, ⟨r, hq, rfl⟩, hs, col, hc, hr.mk⟩
section
variable {P : Program} {Γ : Env} {f : FuncId} {avs args0 : List AV} {Q : AV → Prop} {d : Option Tmp} {K : St → Prop} {s : St}
theorem CallW.psm (hs : Spec P f args0 Q) (hp : Plain P f) (ha : (argAVs s.hp avs).map (List.map plV) = some args0) (hv : permVs avs = true) (hK : ∀ r, Q r → Sm (bindR s d (mkR (shareR r))) K) : CallW P Γ f avs d K s :=
  CallW.p hs.share.mkR hp ha hv fun r ⟨r0, ⟨r1, hq, e1⟩, e⟩ => by subst e e1; exact hK r1 hq
end
theorem LeS.freeze {s s' : St} {k : Nat} (h : s.freeze k = some s') : LeS s s' := fun B a w ⟨ρ, col, hs⟩ => by
  obtain ⟨sz, rs, hk, hn, hp, rfl⟩ := freeze_some h
  exact ⟨_, _, (hs.freeze hk hn hp).1⟩
theorem LeS.freezes : ∀ {ks : List Nat} {s s' : St}, s.freezes ks = some s' → LeS s s'
  | [], s, s', h => by simp [St.freezes] at h; subst h; exact LeS.refl _
  | k :: ks, s, s', h => by
    simp only [St.freezes, Option.bind_eq_some_iff] at h
    obtain ⟨s1, h1, h2⟩ := h
    exact (LeS.freeze h1).trans (LeS.freezes h2)
theorem LeS.rfz {s s' : St} {k : Nat} (h : s.rfz k = some s') : LeS s s' := fun B a w ⟨ρ, col, hs⟩ => by
  obtain ⟨sz, rs, hk, hn, hp, rfl⟩ := rfz_some h
  exact ⟨_, _, (hs.rfz hk hn hp).1⟩
attribute [go_sem] mkC mkCs mkV mkVs mkR
end Go.Proofs.YtgkmbbiebmamaaaDoor.Am
namespace Go.Proofs.YtgkmbbiebmamaaaDoor.Am
open Go
set_option maxRecDepth 100000
set_option maxHeartbeats 4000000
set_option linter.unusedSimpArgs false
set_option linter.unusedVariables false
theorem Drw.to {bs : List Int} {p q : Int} (h : Drw bs p) (h0 : p ≤ q) (h1 : q ≤ 1000000000) : Drw bs q := ⟨h.b, h.l, by have := h.p0; omega, h1⟩
theorem by8_mkI (bs : List Int) : (bs.map fun b => [T.int .u8 b]).map (List.map (T.mk false)) = bs.map fun b => [T.int .u8 b] := Am.mk_rows _ (fun _ => rfl) bs
attribute [go_sem] by8_mkI
end Go.Proofs.YtgkmbbiebmamaaaDoor.Am
namespace Go.Proofs.YtgkmbbiebmamaaaDoor.Am
open Go
set_option maxRecDepth 100000
set_option linter.unusedSimpArgs false
set_option linter.unusedVariables false
abbrev Tx := ByteArray
abbrev Or := List Tx
def Tx.row (x : Tx) : List T := [.str x]
def Tx.w (x : Tx) : Nat := x.size
def Or.row (x : Or) : List T := [.list false 1 (x.map Tx.row)]
def Or.rowO (x : Or) : List T := [.list true 1 (x.map Tx.row)]
def Or.w (x : Or) : Nat := wAll Tx.w x
def Tx.G (x : Tx) : Prop := x.size ≤ 140737488351232
def Or.G (x : Or) : Prop := lG Tx.G x
@[ext] structure Sc where
  text : ByteArray
  num : Int
deriving DecidableEq
@[ext] structure En where
  key : ByteArray
  till : Int
  kind : Int
  text : ByteArray
  list : List Tx
  scores : List Sc
  fields : List Pr
deriving DecidableEq
@[ext] structure Bs where
  now : Int
  ents : List En
deriving DecidableEq
@[ext] structure Cl where
  multi : Bool
  wrong : Bool
  queue : List Or
  watch : List Tx
  touch : Bool
  hears : List Tx
deriving DecidableEq
@[ext] structure Sv where
  base : Bs
  file : ByteArray
  cls : List Cl
deriving DecidableEq
@[ext] structure Ld where
  srv : Sv
  hist : Int
deriving DecidableEq
@[ext] structure Fo where
  hist : Int
  text : ByteArray
  base : Bs
deriving DecidableEq
@[ext] structure Pac where
  full : Bool
  hist : Int
  pos : Int
  text : ByteArray
  now : Int
deriving DecidableEq
def Sc.row (x : Sc) : List T := [.str x.text, .int .i64 x.num]
def Sc.w (x : Sc) : Nat := x.text.size
def Sc.G (x : Sc) : Prop := x.text.size ≤ 140737488351232
def En.row (x : En) : List T := [.str x.key, .int .i64 x.till, .int .i64 x.kind, .str x.text, .list false 1 (x.list.map Tx.row), .list false 2 (x.scores.map Sc.row), .list false 2 (x.fields.map Pr.row)]
def En.rowO (x : En) : List T := [.str x.key, .int .i64 x.till, .int .i64 x.kind, .str x.text, .list true 1 (x.list.map Tx.row), .list true 2 (x.scores.map Sc.row), .list true 2 (x.fields.map Pr.row)]
def En.w (x : En) : Nat := x.key.size + x.text.size + wAll Tx.w x.list + wAll Sc.w x.scores + wAll Pr.w x.fields
def En.G (x : En) : Prop := x.key.size ≤ 140737488351232 ∧ x.text.size ≤ 140737488351232 ∧ lG Tx.G x.list ∧ lG Sc.G x.scores ∧ lG Pr.G x.fields
def Bs.row (x : Bs) : List T := [.int .i64 x.now, .list false 7 (x.ents.map En.row)]
def Bs.rowO (x : Bs) : List T := [.int .i64 x.now, .list true 7 (x.ents.map En.rowO)]
def Bs.w (x : Bs) : Nat := wAll En.w x.ents
def Bs.G (x : Bs) : Prop := lG En.G x.ents
def Cl.row (x : Cl) : List T := [.bool x.multi, .bool x.wrong, .list false 1 (x.queue.map Or.row), .list false 1 (x.watch.map Tx.row), .bool x.touch, .list false 1 (x.hears.map Tx.row)]
def Cl.rowO (x : Cl) : List T := [.bool x.multi, .bool x.wrong, .list true 1 (x.queue.map Or.rowO), .list true 1 (x.watch.map Tx.row), .bool x.touch, .list true 1 (x.hears.map Tx.row)]
def Cl.w (x : Cl) : Nat := wAll Or.w x.queue + wAll Tx.w x.watch + wAll Tx.w x.hears
def Cl.G (x : Cl) : Prop := lG Or.G x.queue ∧ lG Tx.G x.watch ∧ lG Tx.G x.hears
def Sv.row (x : Sv) : List T := [.int .i64 x.base.now, .list false 7 (x.base.ents.map En.row), .str x.file, .list false 6 (x.cls.map Cl.row)]
def Sv.rowO (x : Sv) : List T := [.int .i64 x.base.now, .list true 7 (x.base.ents.map En.rowO), .str x.file, .list true 6 (x.cls.map Cl.rowO)]
def Sv.w (x : Sv) : Nat := Bs.w x.base + x.file.size + wAll Cl.w x.cls
def Sv.G (x : Sv) : Prop := Bs.G x.base ∧ x.file.size ≤ 140737488351232 ∧ lG Cl.G x.cls
def Ld.row (x : Ld) : List T := [.int .i64 x.srv.base.now, .list false 7 (x.srv.base.ents.map En.row), .str x.srv.file, .list false 6 (x.srv.cls.map Cl.row), .int .i64 x.hist]
def Ld.rowO (x : Ld) : List T := [.int .i64 x.srv.base.now, .list true 7 (x.srv.base.ents.map En.rowO), .str x.srv.file, .list true 6 (x.srv.cls.map Cl.rowO), .int .i64 x.hist]
def Ld.w (x : Ld) : Nat := Sv.w x.srv
def Ld.G (x : Ld) : Prop := Sv.G x.srv
def Fo.row (x : Fo) : List T := [.int .i64 x.hist, .str x.text, .int .i64 x.base.now, .list false 7 (x.base.ents.map En.row)]
def Fo.rowO (x : Fo) : List T := [.int .i64 x.hist, .str x.text, .int .i64 x.base.now, .list true 7 (x.base.ents.map En.rowO)]
def Fo.w (x : Fo) : Nat := x.text.size + Bs.w x.base
def Fo.G (x : Fo) : Prop := x.text.size ≤ 140737488351232 ∧ Bs.G x.base
def Pac.row (x : Pac) : List T := [.bool x.full, .int .i64 x.hist, .int .i64 x.pos, .str x.text, .int .i64 x.now]
def Pac.w (x : Pac) : Nat := x.text.size
def Pac.G (x : Pac) : Prop := x.text.size ≤ 140737488351232
theorem Tx.mk_rows (l : List Tx) : (l.map Tx.row).map (List.map (T.mk false)) = l.map Tx.row := Am.mk_rows _ (fun _ => rfl) l
theorem Or.mk_rows (l : List Or) : (l.map Or.row).map (List.map (T.mk false)) = l.map Or.row := Am.mk_rows _ (fun x => by simp only [Or.row, List.map_cons, List.map_nil, T.mk_list, T.mk_int, T.mk_str, T.mk_bool, Pr.mk_rows, Tx.mk_rows]) l
theorem Or.mk_rowsO (l : List Or) : (l.map Or.rowO).map (List.map (T.mk false)) = l.map Or.row := by
  rw [List.map_map]; exact List.map_congr_left fun x _ => by simp only [Function.comp, Or.rowO, Or.row, List.map_cons, List.map_nil, T.mk_list, T.mk_int, T.mk_str, T.mk_bool, Pr.mk_rows, Tx.mk_rows]
theorem Sc.mk_rows (l : List Sc) : (l.map Sc.row).map (List.map (T.mk false)) = l.map Sc.row := Am.mk_rows _ (fun x => by simp only [Sc.row, List.map_cons, List.map_nil, T.mk_list, T.mk_int, T.mk_str, T.mk_bool, Pr.mk_rows, Tx.mk_rows, Or.mk_rows]) l
theorem En.mk_rows (l : List En) : (l.map En.row).map (List.map (T.mk false)) = l.map En.row := Am.mk_rows _ (fun x => by simp only [En.row, List.map_cons, List.map_nil, T.mk_list, T.mk_int, T.mk_str, T.mk_bool, Pr.mk_rows, Tx.mk_rows, Or.mk_rows, Sc.mk_rows]) l
theorem En.mk_rowsO (l : List En) : (l.map En.rowO).map (List.map (T.mk false)) = l.map En.row := by
  rw [List.map_map]; exact List.map_congr_left fun x _ => by simp only [Function.comp, En.rowO, En.row, List.map_cons, List.map_nil, T.mk_list, T.mk_int, T.mk_str, T.mk_bool, Pr.mk_rows, Tx.mk_rows, Or.mk_rows, Sc.mk_rows, Or.mk_rowsO]
theorem Cl.mk_rows (l : List Cl) : (l.map Cl.row).map (List.map (T.mk false)) = l.map Cl.row := Am.mk_rows _ (fun x => by simp only [Cl.row, List.map_cons, List.map_nil, T.mk_list, T.mk_int, T.mk_str, T.mk_bool, Pr.mk_rows, Tx.mk_rows, Or.mk_rows, Sc.mk_rows, En.mk_rows]) l
theorem Cl.mk_rowsO (l : List Cl) : (l.map Cl.rowO).map (List.map (T.mk false)) = l.map Cl.row := by
  rw [List.map_map]; exact List.map_congr_left fun x _ => by simp only [Function.comp, Cl.rowO, Cl.row, List.map_cons, List.map_nil, T.mk_list, T.mk_int, T.mk_str, T.mk_bool, Pr.mk_rows, Tx.mk_rows, Or.mk_rows, Sc.mk_rows, En.mk_rows, Or.mk_rowsO, En.mk_rowsO]
attribute [go_sem] Tx.mk_rows Or.mk_rows Or.mk_rowsO Sc.mk_rows En.mk_rows En.mk_rowsO Cl.mk_rows Cl.mk_rowsO
end Go.Proofs.YtgkmbbiebmamaaaDoor.Am
namespace Go.Proofs.YtgkmbbiebmamaaaDoor.Am
open Go
set_option maxRecDepth 100000
set_option linter.unusedSimpArgs false
set_option linter.unusedVariables false
def Pr.mw (x : Pr) : Nat := 2
def Pr.m (x : Pr) (k : Int) : Pr := ⟨mt (k), mt (k + 1)⟩
def It.mw (x : It) : Nat := 2 + wSum Pr.mw x.fields
def It.m (x : It) (k : Int) : It := ⟨⟨k, k + 1⟩, mkAll Pr.m Pr.mw x.fields (k + 2)⟩
def Wt.mw (x : Wt) : Nat := 5
def Wt.m (x : Wt) (k : Int) : Wt := ⟨⟨k, k + 1⟩, mt (k + 2), k + 3, k + 4⟩
def Gr.mw (x : Gr) : Nat := 3 + wSum Wt.mw x.waits
def Gr.m (x : Gr) (k : Int) : Gr := ⟨mt (k), ⟨k + 1, k + 2⟩, mkAll Wt.m Wt.mw x.waits (k + 3)⟩
end Go.Proofs.YtgkmbbiebmamaaaDoor.Am
namespace Go.Proofs.YtgkmbbiebmamaaaDoor.Am
open Go
set_option maxRecDepth 100000
set_option linter.unusedSimpArgs false
set_option linter.unusedVariables false
def Tx.mw (x : Tx) : Nat := 1
def Tx.m (x : Tx) (k : Int) : Tx := mt (k)
def Or.mw (x : Or) : Nat := wSum Tx.mw x
def Or.m (x : Or) (k : Int) : Or := mkAll Tx.m Tx.mw x (k)
def Sc.mw (x : Sc) : Nat := 2
def Sc.m (x : Sc) (k : Int) : Sc := ⟨mt (k), k + 1⟩
def En.mw (x : En) : Nat := 4 + wSum Tx.mw x.list + wSum Sc.mw x.scores + wSum Pr.mw x.fields
def En.m (x : En) (k : Int) : En := ⟨mt (k), k + 1, k + 2, mt (k + 3), mkAll Tx.m Tx.mw x.list (k + 4), mkAll Sc.m Sc.mw x.scores (k + 4 + (wSum Tx.mw x.list : Nat)), mkAll Pr.m Pr.mw x.fields (k + 4 + (wSum Tx.mw x.list : Nat) + (wSum Sc.mw x.scores : Nat))⟩
def Cl.mw (x : Cl) : Nat := 3 + wSum Or.mw x.queue + wSum Tx.mw x.watch + wSum Tx.mw x.hears
def Cl.m (x : Cl) (k : Int) : Cl := ⟨decide ((k).tmod 3 = 0), decide ((k + 1).tmod 3 = 0), mkAll Or.m Or.mw x.queue (k + 2), mkAll Tx.m Tx.mw x.watch (k + 2 + (wSum Or.mw x.queue : Nat)), decide ((k + 2 + (wSum Or.mw x.queue : Nat) + (wSum Tx.mw x.watch : Nat)).tmod 3 = 0), mkAll Tx.m Tx.mw x.hears (k + 3 + (wSum Or.mw x.queue : Nat) + (wSum Tx.mw x.watch : Nat))⟩
def Bs.mw (x : Bs) : Nat := wSum En.mw x.ents
def Bs.m (x : Bs) (k : Int) : Bs := ⟨x.now, mkAll En.m En.mw x.ents (k)⟩
def Sv.mw (x : Sv) : Nat := Bs.mw x.base + wSum Cl.mw x.cls
def Sv.m (x : Sv) (k : Int) : Sv := ⟨Bs.m x.base (k), x.file, mkAll Cl.m Cl.mw x.cls (k + (Bs.mw x.base : Nat))⟩
def Ld.mw (x : Ld) : Nat := Sv.mw x.srv
def Ld.m (x : Ld) (k : Int) : Ld := ⟨Sv.m x.srv (k), x.hist⟩
def Fo.mw (x : Fo) : Nat := Bs.mw x.base
def Fo.m (x : Fo) (k : Int) : Fo := ⟨x.hist, x.text, Bs.m x.base (k)⟩
end Go.Proofs.YtgkmbbiebmamaaaDoor.Am
namespace Go.Proofs.YtgkmbbiebmamaaaDoor.Am
open Go
set_option maxRecDepth 100000
set_option maxHeartbeats 1000000
set_option linter.unusedSimpArgs false
set_option linter.unusedVariables false
theorem all_no {α : Type} {p : α → Bool} {l : List α} {i : Nat} (h : i < l.length) (hp : p l[i] = false) : l.all p = false := by
  cases ha : l.all p
  · rfl
  · have := List.all_eq_true.1 ha _ (List.getElem_mem h)
    rw [hp] at this; cases this
theorem all_yes {α : Type} {p : α → Bool} {l : List α} (h : ∀ i (h : i < l.length), p l[i] = true) : l.all p = true := by
  rw [List.all_eq_true]
  intro x hx
  obtain ⟨i, hi, rfl⟩ := List.mem_iff_getElem.1 hx
  exact h i hi
def txOk (t : Tx) : Bool := decide (t.size ≤ 40)
def textsOkM (l : List Tx) (most : Int) : Bool := l.all txOk && decide ((l.length : Int) ≤ most)
theorem p_textsOk : Plain Tryd.prog 62 := ⟨_, Tryd.func62, rfl, by decide⟩
theorem s_textsOk (l : List Tx) (most : Int) (hs : l.length ≤ 1099511627776) : Spec Tryd.prog 62 [.t (.list false 1 (l.map Tx.row)), I most] (fun r => r = Bo (textsOkM l most)) := by
  refine Spec.of tysOk mixed Tryd.func62 rfl (by decide) ?_
  simp -implicitDefEqProofs only [go_sem, Tryd.f62]
  refine LoopW.slotsM [true, true, false, false, false, false, false, true, true, true, false, false, false, false, false, false, false, false, false, false, false] (α := Nat) (fun i => [(9, I i)]) (fun i => []) (fun i => l.length - i) (fun i => i ≤ l.length ∧ ∀ j (h : j < l.length), j < i → txOk l[j] = true) 0 (by simp -implicitDefEqProofs only [go_sem, LeTs_undef, LeTs_same, LeTs_nil]; try simp [LeTs]) rfl ⟨by omega, fun _ _ h => by omega⟩ ?_
  rintro i ⟨hi, hj⟩
  simp -implicitDefEqProofs only [go_sem]
  refine BrA_i (fun h => ?_) (fun h => ?_) <;> simp -implicitDefEqProofs only [go_sem]
  · skip
    have h : i < l.length := by simp at h; omega
    have h0i : (0 : Int) ≤ i := by omega
    have h1i : (i : Int) < l.length := by omega
    have wi : IntKind.i64.wrap ((i : Int) + 1) = ((i + 1 : Nat) : Int) := by rw [wrap64 (by omega) (by omega)]; omega
    have hr := row_getD Tx.row l h
    simp only [Tx.row] at hr
    simp -implicitDefEqProofs only [go_sem, h, h0i, h1i, hr, wi]
    refine BrA_i (fun h2 => ?_) (fun h2 => ?_) <;> simp -implicitDefEqProofs only [go_sem, wi]
    · rw [textsOkM, all_no h (by have := of_decide_eq_true h2; simp [txOk]; omega)]; rfl
    · refine .to [] (i + 1) rfl ?_ ?_ (by omega) ⟨by omega, fun j hj2 hj3 => by
        by_cases hji : j < i
        · exact hj j hj2 hji
        · obtain rfl : j = i := by omega
          have := of_decide_eq_false h2
          simp [txOk]; omega⟩ <;> simp -implicitDefEqProofs only [go_sem, LeTs_undef, LeTs_same, LeTs_nil, wi]
  · have h : i = l.length := by simp at h; omega
    subst h
    rw [textsOkM, all_yes fun j h => hj j h h]; rfl
def listOkM (l : List Tx) : Bool := textsOkM l 16
theorem p_listOk : Plain Tryd.prog 44 := ⟨_, Tryd.func44, rfl, by decide⟩
theorem s_listOk (l : List Tx) (hs : l.length ≤ 1099511627776) : Spec Tryd.prog 44 [.t (.list false 1 (l.map Tx.row))] (fun r => r = Bo (listOkM l)) := by
  refine Spec.of tysOk mixed Tryd.func44 rfl (by decide) ?_
  simp -implicitDefEqProofs only [go_sem, Tryd.f44]
  refine CallW.one (s_textsOk l 16 hs) p_textsOk (by first | (simp -implicitDefEqProofs only [go_sem]; done) | ((conv => lhs; simp -implicitDefEqProofs only [go_sem]); done) | (simp -implicitDefEqProofs only [go_sem]; rfl) | rfl) (by first | trivial | (simp [DeepR, DeepV, DeepVs, DeepC, DeepCs, T.scal]; done)) ?_
  simp -implicitDefEqProofs only [go_sem]
  rfl
theorem p_l2Texts : Plain Tryd.prog 39 := ⟨_, Tryd.func39, rfl, by decide⟩
theorem s_l2Texts (l : List Tx) (hs : l.length ≤ 1099511627776) : Spec Tryd.prog 39 [.t (.list false 1 (l.map Tx.row))] (fun r => r = Bo (listOkM l)) := by
  refine Spec.of tysOk mixed Tryd.func39 rfl (by decide) ?_
  simp -implicitDefEqProofs only [go_sem, Tryd.f39]
  refine LoopW.slotsM [true, false, false, true, false, false, false, false, false, false, false, false, false, false, false, false, false, false, false] (α := Nat) (fun i => [(3, I i)]) (fun i => []) (fun i => l.length - i) (fun i => i ≤ l.length ∧ ∀ j (h : j < l.length), j < i → txOk l[j] = true) 0 (by simp -implicitDefEqProofs only [go_sem, LeTs_undef, LeTs_same, LeTs_nil]; try simp [LeTs]) rfl ⟨by omega, fun _ _ h => by omega⟩ ?_
  rintro i ⟨hi, hj⟩
  simp -implicitDefEqProofs only [go_sem]
  refine BrA_i (fun h => ?_) (fun h => ?_) <;> simp -implicitDefEqProofs only [go_sem]
  · skip
    have h : i < l.length := by simp at h; omega
    have h0i : (0 : Int) ≤ i := by omega
    have h1i : (i : Int) < l.length := by omega
    have wi : IntKind.i64.wrap ((i : Int) + 1) = ((i + 1 : Nat) : Int) := by rw [wrap64 (by omega) (by omega)]; omega
    have hr := row_getD Tx.row l h
    simp only [Tx.row] at hr
    simp -implicitDefEqProofs only [go_sem, h, h0i, h1i, hr, wi]
    refine BrA_i (fun h2 => ?_) (fun h2 => ?_) <;> simp -implicitDefEqProofs only [go_sem, wi]
    · rw [listOkM, textsOkM, all_no h (by have := of_decide_eq_true h2; simp [txOk]; omega)]; rfl
    · refine .to [] (i + 1) rfl ?_ ?_ (by omega) ⟨by omega, fun j hj2 hj3 => by
        by_cases hji : j < i
        · exact hj j hj2 hji
        · obtain rfl : j = i := by omega
          have := of_decide_eq_false h2
          simp [txOk]; omega⟩ <;> simp -implicitDefEqProofs only [go_sem, LeTs_undef, LeTs_same, LeTs_nil, wi]
  · have h : i = l.length := by simp at h; omega
    subst h
    rw [listOkM, textsOkM, all_yes fun j h => hj j h h]; rfl
theorem shared_Tx (l : List Tx) : sharedRows (l.map Tx.row) = l.map Tx.row := by
  unfold sharedRows
  rw [List.map_map]; exact List.map_congr_left fun x _ => rfl
theorem p_l2Copy : Plain Tryd.prog 41 := ⟨_, Tryd.func41, rfl, by decide⟩
theorem s_l2Copy (l : List Tx) (hs : l.length ≤ 1048576) : Spec Tryd.prog 41 [.t (.list false 1 (l.map Tx.row))] (fun r => r = .own (.list true 1 (l.map Tx.row))) := by
  refine Spec.of tysOk mixed Tryd.func41 rfl (by decide) ?_
  simp -implicitDefEqProofs only [go_sem, Tryd.f41, shared_Tx]
  unfold roomy; omega
theorem p_copied : Plain Tryd.prog 45 := ⟨_, Tryd.func45, rfl, by decide⟩
theorem s_copied (l : List Tx) (hs : l.length ≤ 1048576) : Spec Tryd.prog 45 [.t (.list false 1 (l.map Tx.row))] (fun r => r = .own (.list true 1 (l.map Tx.row))) := by
  refine Spec.of tysOk mixed Tryd.func45 rfl (by decide) ?_
  simp -implicitDefEqProofs only [go_sem, Tryd.f45, shared_Tx]
  unfold roomy; omega
theorem p_l2Turn : Plain Tryd.prog 43 := ⟨_, Tryd.func43, rfl, by decide⟩
theorem s_l2Turn (l : List Tx) (hs : l.length ≤ 1048576) : Spec Tryd.prog 43 [.t (.list false 1 (l.map Tx.row))] (fun r => r = .own (.list true 1 (l.reverse.map Tx.row))) := by
  refine Spec.of tysOk mixed Tryd.func43 rfl (by decide) ?_
  simp -implicitDefEqProofs only [go_sem, Tryd.f43]
  have w0 : IntKind.i64.wrap ((l.length : Int) - 1) = (l.length : Int) - 1 := wrap64 (by omega) (by omega)
  simp -implicitDefEqProofs only [go_sem, w0]
  refine LoopW.slotsM [true, false, false, true, true, false, false, false, false, false, false, false, false, false, false, false, false, false, false, false, false] (α := Nat) (fun k => [(4, I ((k : Int) - 1))]) (fun k => [(40, .rows 1 ((l.drop k).reverse.map Tx.row))]) (fun k => k) (fun k => k ≤ l.length) l.length (by simp -implicitDefEqProofs only [go_sem, LeTs_undef, LeTs_same, LeTs_nil]; try simp [LeTs]) (by simp; rfl) (by omega) ?_
  intro k hk
  simp -implicitDefEqProofs only [go_sem]
  refine BrA_i (fun h => ?_) (fun h => ?_) <;> simp -implicitDefEqProofs only [go_sem]
  · have h : 0 < k := by have := of_decide_eq_true h; omega
    obtain ⟨i, rfl⟩ : ∃ i, k = i + 1 := ⟨k - 1, by omega⟩
    have hi : i < l.length := by omega
    have e0 : ((i + 1 : Nat) : Int) - 1 = (i : Int) := by omega
    have h0i : (0 : Int) ≤ i := by omega
    have h1i : (i : Int) < l.length := by omega
    have hr := row_getD Tx.row l hi
    simp only [Tx.row] at hr
    have wi : IntKind.i64.wrap ((i : Int) - 1) = (i : Int) - 1 := wrap64 (by omega) (by omega)
    simp -implicitDefEqProofs only [go_sem, e0, h0i, h1i, hr, hi]
    have hlen : (l.drop (i + 1)).length ≤ 1048576 := by rw [List.length_drop]; omega
    have ed : (l.drop i).reverse = (l.drop (i + 1)).reverse ++ [l[i]] := by
      rw [List.drop_eq_getElem_cons hi, List.reverse_cons]
    refine ⟨by unfold roomy; rw [List.length_reverse]; omega, ?_⟩
    refine .to [144, 152] i rfl ?_ ?_ (by omega) (by omega)
    · simp -implicitDefEqProofs only [go_sem, LeTs_undef, LeTs_same, LeTs_nil, wi]
    · simp -implicitDefEqProofs only [go_sem, ed, List.map_append, List.map_cons, List.map_nil, Tx.row]
  · have h : k = 0 := by have := of_decide_eq_false h; omega
    subst h
    simp
end Go.Proofs.YtgkmbbiebmamaaaDoor.Am
namespace Go.Proofs.YtgkmbbiebmamaaaDoor.Am
open Go
set_option maxRecDepth 100000
set_option maxHeartbeats 4000000
set_option linter.unusedSimpArgs false
set_option linter.unusedVariables false
abbrev txs (l : List Tx) : AV := .t (.list false 1 (l.map Tx.row))
theorem p_l11Texts : Plain Tryd.prog 66 := ⟨_, Tryd.func66, rfl, by decide⟩
theorem s_l11Texts (bs : List Int) (p : Int) (most : Int) (h : Drw bs p) (hp : p ≤ 900000000) (hm : 0 ≤ most ∧ most ≤ 20) : SpecO Tryd.prog 66 [.ptr 9000 0 0, I most] (dwH bs p)
    (fun r h' => (∃ l : List Tx, r = .own (.list true 1 (l.map Tx.row)) ∧ (l.length : Int) ≤ most ∧ ∀ x ∈ l, x.size ≤ 1000) ∧ ∃ q, h' = dwH bs q ∧ p ≤ q ∧ q ≤ p + 30) := by
  refine SpecO.of tysOk mixed Tryd.func66 rfl (by decide) ?_
  have wm : IntKind.i64.wrap (most + 1) = most + 1 := wrap64 (by omega) (by omega)
  simp -implicitDefEqProofs only [go_sem, Tryd.f66, wm]
  refine CallW.o [(9000, 9000)] (s_pick bs p (most + 1) h (by omega)) p_pick o52 rfl (by (conv => lhs; simp -implicitDefEqProofs only [go_sem]) <;> rfl) (by (simp -implicitDefEqProofs only [go_sem]) <;> rfl) ?_
  rintro _ _ ⟨⟨v, rfl, h0, h2⟩, rfl⟩
  obtain ⟨k, rfl⟩ := Int.eq_ofNat_of_zero_le h0
  have hk : (k : Int) ≤ most := by omega
  simp -implicitDefEqProofs only [go_sem]
  refine LoopW.slotsM [true, false, false, false, false, true, true, false, false, false, false, false, false, false, false, false, false, false, false, false, false, false] (α := Nat × List Tx × Int) (fun x => [(6, I x.1)]) (fun x => [(56, .rows 1 (x.2.1.map Tx.row)), (9000, .box [by8 bs, I x.2.2])]) (fun x => x.1) (fun x => x.1 ≤ k ∧ p ≤ x.2.2 ∧ x.2.2 ≤ p + 1 + (k - x.1) ∧ x.2.1.length + x.1 = k ∧ ∀ y ∈ x.2.1, y.size ≤ 1000) (k, [], p + 1) (by simp -implicitDefEqProofs only [go_sem, LeTs_undef, LeTs_same, LeTs_nil]; try simp [LeTs]) (by simp -implicitDefEqProofs only [go_sem, List.map_nil]) ⟨by simp, by simp only; omega, by simp only; omega, by simp, fun _ h => by cases h⟩ ?_
  rintro ⟨n, l, q⟩ ⟨g1, g2, g3, g4, g5⟩
  simp only at g1 g2 g3 g4 g5
  simp -implicitDefEqProofs only [go_sem]
  refine BrA_i (fun h => ?_) (fun h => ?_) <;> simp -implicitDefEqProofs only [go_sem]
  · have h' : 0 < n := by have := of_decide_eq_true h; omega
    refine CallW.o [(9000, 9000)] (s_l11Text bs q (by exact Drw.to (by assumption) (by omega) (by omega))) p_l11Text o77 rfl (by (conv => lhs; simp -implicitDefEqProofs only [go_sem]) <;> rfl) (by (simp -implicitDefEqProofs only [go_sem]) <;> rfl) ?_
    rintro _ _ ⟨⟨a, rfl, ha, ha2⟩, rfl⟩
    simp -implicitDefEqProofs only [go_sem]
    have wn : IntKind.i64.wrap ((n : Int) - 1) = ((n - 1 : Nat) : Int) := by rw [wrap64 (by omega) (by omega)]; omega
    simp -implicitDefEqProofs only [go_sem, wn]
    refine ⟨by unfold roomy; omega, ?_⟩
    refine .to [152, 160, 145, 146, 147] (n - 1, l ++ [a], q + 1) rfl ?_ ?_ (by show n - 1 < n; omega) ⟨by simp only; omega, by simp only; omega, by simp only; omega, by simp; omega, fun y hy => by
      rcases List.mem_append.1 hy with hy | hy
      · exact g5 y hy
      · simp only [List.mem_cons, List.not_mem_nil, or_false] at hy; subst hy; exact ha⟩
    · simp -implicitDefEqProofs only [go_sem, LeTs_undef, LeTs_same, LeTs_nil, wn]
    · first | done | simp -implicitDefEqProofs only [go_sem, wn] | skip
      try simp [Tx.row]
  · refine ⟨⟨l, rfl, by omega, g5⟩, q, rfl, by omega, by omega⟩
theorem p_l11AnyTexts : Plain Tryd.prog 51 := ⟨_, Tryd.func51, rfl, by decide⟩
theorem s_l11AnyTexts (bs : List Int) (p : Int) (h : Drw bs p) (hp : p ≤ 900000000) : SpecO Tryd.prog 51 [.ptr 9000 0 0] (dwH bs p)
    (fun r h' => (∃ l : List Tx, r = .own (.list true 1 (l.map Tx.row)) ∧ l.length ≤ 17 ∧ ∀ x ∈ l, x.size ≤ 1000) ∧ ∃ q, h' = dwH bs q ∧ p ≤ q ∧ q ≤ p + 60) := by
  refine SpecO.of tysOk mixed Tryd.func51 rfl (by decide) ?_
  simp -implicitDefEqProofs only [go_sem, Tryd.f51]
  refine CallW.o [(9000, 9000)] (s_l11Texts bs p 6 h hp (by omega)) p_l11Texts o66 rfl (by (conv => lhs; simp -implicitDefEqProofs only [go_sem]) <;> rfl) (by (simp -implicitDefEqProofs only [go_sem]) <;> rfl) ?_
  rintro _ _ ⟨⟨l, rfl, hl, hsz⟩, q, rfl, h0, h1⟩
  simp -implicitDefEqProofs only [go_sem]
  refine CallW.o [(9000, 9000)] (s_pick bs q 16 (h.to (by omega) (by omega)) (by omega)) p_pick o52 rfl (by (conv => lhs; simp -implicitDefEqProofs only [go_sem]) <;> rfl) (by (simp -implicitDefEqProofs only [go_sem]) <;> rfl) ?_
  rintro _ _ ⟨⟨v, rfl, v0, v1⟩, rfl⟩
  simp -implicitDefEqProofs only [go_sem]
  refine BrA_i (fun h2 => ?_) (fun h2 => ?_) <;> simp -implicitDefEqProofs only [go_sem]
  · refine CallW.p (s_l1Many ⟨#[121]⟩ 41 (by decide) (by decide)) p_l1Many rfl rfl ?_
    rintro _ ⟨b, rfl, hb, hb2⟩
    simp -implicitDefEqProofs only [go_sem]
    refine ⟨by unfold roomy; omega, ⟨l ++ [b], by simp [Tx.row], by simp; omega, fun y hy => ?_⟩, _, rfl, by omega, by omega⟩
    rcases List.mem_append.1 hy with hy | hy
    · exact hsz y hy
    · simp only [List.mem_cons, List.not_mem_nil, or_false] at hy; subst hy; exact hb
  refine BrA_i (fun h3 => ?_) (fun h3 => ?_) <;> simp -implicitDefEqProofs only [go_sem]
  · refine LoopW.slotsM [true, false, false, true, false, false, false, false, false, false, false, false, false, false, false, false, false, false, false, false, false, false, false, false, false, false, false, false, false, false] (α := List Tx × Int) (fun x => []) (fun x => [(41, .rows 1 (x.1.map Tx.row)), (9000, .box [by8 bs, I x.2])]) (fun x => 17 - x.1.length) (fun x => x.1.length ≤ 17 ∧ q + 1 ≤ x.2 ∧ x.2 ≤ q + 1 + x.1.length ∧ ∀ y ∈ x.1, y.size ≤ 1000) (l, q + 1) (by simp -implicitDefEqProofs only [go_sem, LeTs_undef, LeTs_same, LeTs_nil]; try simp [LeTs]) rfl ⟨by simp only; omega, by simp only; omega, by simp only; omega, hsz⟩ ?_
    rintro ⟨l, q'⟩ ⟨g1, g2, g3, g4⟩
    simp only at g1 g2 g3 g4
    simp -implicitDefEqProofs only [go_sem]
    refine CallW.o [(9000, 9000)] (s_pick bs q' 2 (by exact Drw.to (by assumption) (by omega) (by omega)) (by omega)) p_pick o52 rfl (by (conv => lhs; simp -implicitDefEqProofs only [go_sem]) <;> rfl) (by (simp -implicitDefEqProofs only [go_sem]) <;> rfl) ?_
    rintro _ _ ⟨⟨w, rfl, w0, w1⟩, rfl⟩
    have ww : IntKind.i64.wrap (16 + w) = 16 + w := wrap64 (by omega) (by omega)
    simp -implicitDefEqProofs only [go_sem, ww]
    refine BrA_i (fun h4 => ?_) (fun h4 => ?_) <;> simp -implicitDefEqProofs only [go_sem]
    · have h4 : (l.length : Int) < 16 + w := of_decide_eq_true h4
      have hsz := decM_size l.length (by omega)
      have hs1 : ((⟨#[110]⟩ : ByteArray).size : Int) + (decM l.length).size ≤ strMax := by
        have : (⟨#[110]⟩ : ByteArray).size = 1 := rfl
        unfold strMax; omega
      refine CallW.one (s_l1Dec l.length (by omega)) p_l1Dec (by first | (simp -implicitDefEqProofs only [go_sem]; done) | ((conv => lhs; simp -implicitDefEqProofs only [go_sem]); done) | (simp -implicitDefEqProofs only [go_sem]; rfl) | rfl) (by first | trivial | (simp [DeepR, DeepV, DeepVs, DeepC, DeepCs, T.scal]; done)) ?_
      simp -implicitDefEqProofs only [go_sem, hs1]
      refine ⟨hs1, ?_⟩
      refine ⟨by unfold roomy; omega, ?_⟩
      refine .to [216, 224, 153, 154, 155, 201, 202, 203] (l ++ [⟨#[110]⟩ ++ decM l.length], q' + 1) rfl ?_ ?_ (by simp; omega) ⟨by simp; omega, by simp only; omega, by simp; omega, fun y hy => ?_⟩
      · simp -implicitDefEqProofs only [go_sem, LeTs_undef, LeTs_same, LeTs_nil]
      · first | done | simp -implicitDefEqProofs only [go_sem] | skip
        try simp [Tx.row]
      · rcases List.mem_append.1 hy with hy | hy
        · exact g4 y hy
        · simp only [List.mem_cons, List.not_mem_nil, or_false] at hy; subst hy
          rw [ByteArray.size_append]
          have : (⟨#[110]⟩ : ByteArray).size = 1 := rfl
          omega
    · exact ⟨⟨l, rfl, g1, g4⟩, _, rfl, by omega, by omega⟩
  · exact ⟨⟨l, rfl, by omega, hsz⟩, _, rfl, by omega, by omega⟩
theorem p_DrawListSort : Plain Tryd.prog 25 := ⟨_, Tryd.func25, rfl, by decide⟩
theorem s_DrawListSort (bs : List Int) (hb : ∀ x ∈ bs, 0 ≤ x ∧ x ≤ 255) (hl : bs.length ≤ 1048576) : Spec Tryd.prog 25 [by8 bs] (fun r => ∃ (l : List Tx) (nums down : Bool), mkR (shareR r) = .tup [txs l, Bo nums, Bo down] ∧ l.length ≤ 17) := by
  obtain ⟨cs, hd, ho⟩ := s_l1Open bs hb hl
  refine Spec.of tysOk mixed Tryd.func25 rfl (by decide) ?_
  simp -implicitDefEqProofs only [go_sem, Tryd.f25]
  refine CallW.box ho p_l1Open rfl rfl rfl rfl rfl (by decide) ?_
  simp -implicitDefEqProofs only [go_sem]
  refine CallW.o [(9000, 73)] (s_l11AnyTexts cs 0 hd (by omega)) p_l11AnyTexts o51 rfl (by (conv => lhs; simp -implicitDefEqProofs only [go_sem]) <;> rfl) (by (simp -implicitDefEqProofs only [go_sem]) <;> rfl) ?_
  rintro _ _ ⟨⟨l, rfl, hl, hsz⟩, q, rfl, h0, h1⟩
  simp -implicitDefEqProofs only [go_sem]
  refine CallW.o [(9000, 73)] (s_pick cs q 2 (hd.to (by omega) (by omega)) (by omega)) p_pick o52 rfl (by (conv => lhs; simp -implicitDefEqProofs only [go_sem]) <;> rfl) (by (simp -implicitDefEqProofs only [go_sem]) <;> rfl) ?_
  rintro _ _ ⟨⟨v, rfl, v0, v1⟩, rfl⟩
  simp -implicitDefEqProofs only [go_sem]
  refine BrA_i (fun h2 => ?_) (fun h2 => ?_) <;> simp -implicitDefEqProofs only [go_sem]
  · refine CallW.o [(9000, 73)] (s_pick cs (q + 1) 7 (hd.to (by omega) (by omega)) (by omega)) p_pick o52 rfl (by (conv => lhs; simp -implicitDefEqProofs only [go_sem]) <;> rfl) (by (simp -implicitDefEqProofs only [go_sem]) <;> rfl) ?_
    rintro _ _ ⟨⟨k, rfl, k0, k1⟩, rfl⟩
    obtain ⟨k, rfl⟩ := Int.eq_ofNat_of_zero_le k0
    simp -implicitDefEqProofs only [go_sem]
    refine LoopW.slotsM [false, false, false, false, false, true, true, true, false, false, false, false, false, false, false, false, false, false, false, false, false, false, false, false, false, false, false, false, false, false, false, false, false, false, false] (α := Nat × List Tx × Int) (fun x => [(7, I x.1)]) (fun x => [(120, .rows 1 (x.2.1.map Tx.row)), (73, .box [by8 cs, I x.2.2])]) (fun x => x.1) (fun x => x.1 ≤ k ∧ q ≤ x.2.2 ∧ x.2.2 ≤ q + 2 + (k - x.1) ∧ x.2.1.length + x.1 = k) (k, [], q + 1 + 1) (by simp -implicitDefEqProofs only [go_sem, LeTs_undef, LeTs_same, LeTs_nil]; try simp [LeTs]) (by simp -implicitDefEqProofs only [go_sem, List.map_nil]) ⟨by simp, by simp only; omega, by simp only; omega, by simp⟩ ?_
    rintro ⟨n, l, q'⟩ ⟨g1, g2, g3, g4⟩
    simp only at g1 g2 g3 g4
    simp -implicitDefEqProofs only [go_sem]
    refine BrA_i (fun h => ?_) (fun h => ?_) <;> simp -implicitDefEqProofs only [go_sem]
    · have h' : 0 < n := by have := of_decide_eq_true h; omega
      refine CallW.o [(9000, 73), (9001, 192)] (s_of cs q' [⟨#[49]⟩, ⟨#[50]⟩, ⟨#[49, 48]⟩, ⟨#[45, 51]⟩, ⟨#[48]⟩, ⟨#[49, 48, 48]⟩, ⟨#[50]⟩] (by exact Drw.to (by assumption) (by omega) (by omega)) (by simp)) p_of o38 rfl (by (conv => lhs; simp -implicitDefEqProofs only [go_sem]) <;> rfl) (by (simp -implicitDefEqProofs only [go_sem]) <;> rfl) ?_
      rintro _ _ ⟨⟨a, rfl, ha⟩, rfl⟩
      have wn : IntKind.i64.wrap ((n : Int) - 1) = ((n - 1 : Nat) : Int) := by rw [wrap64 (by omega) (by omega)]; omega
      simp -implicitDefEqProofs only [go_sem, wn]
      refine ⟨by unfold roomy; omega, ?_⟩
      refine .to [192, 208, 216, 201, 202, 203] (n - 1, l ++ [a], q' + 1) rfl ?_ ?_ (by show n - 1 < n; omega) ⟨by simp only; omega, by simp only; omega, by simp only; omega, by simp; omega⟩
      · simp -implicitDefEqProofs only [go_sem, LeTs_undef, LeTs_same, LeTs_nil, wn]
      · first | done | simp -implicitDefEqProofs only [go_sem, wn] | skip
        try simp [Tx.row]
    · refine CallW.o [(9000, 73)] (s_pick cs q' 2 (by exact Drw.to (by assumption) (by omega) (by omega)) (by omega)) p_pick o52 rfl (by (conv => lhs; simp -implicitDefEqProofs only [go_sem]) <;> rfl) (by (simp -implicitDefEqProofs only [go_sem]) <;> rfl) ?_
      rintro _ _ ⟨⟨v, rfl, v0, v1⟩, rfl⟩
      simp -implicitDefEqProofs only [go_sem]
      refine CallW.o [(9000, 73)] (s_pick cs (q' + 1) 2 (by exact Drw.to (by assumption) (by omega) (by omega)) (by omega)) p_pick o52 rfl (by (conv => lhs; simp -implicitDefEqProofs only [go_sem]) <;> rfl) (by (simp -implicitDefEqProofs only [go_sem]) <;> rfl) ?_
      rintro _ _ ⟨⟨w, rfl, w0, w1⟩, rfl⟩
      simp -implicitDefEqProofs only [go_sem]
      exact ⟨l, decide (v = 0), decide (w = 0), by first | rfl | simp -implicitDefEqProofs only [go_sem], by omega⟩
  · refine CallW.o [(9000, 73)] (s_pick cs (q + 1) 2 (hd.to (by omega) (by omega)) (by omega)) p_pick o52 rfl (by (conv => lhs; simp -implicitDefEqProofs only [go_sem]) <;> rfl) (by (simp -implicitDefEqProofs only [go_sem]) <;> rfl) ?_
    rintro _ _ ⟨⟨v, rfl, v0, v1⟩, rfl⟩
    simp -implicitDefEqProofs only [go_sem]
    refine CallW.o [(9000, 73)] (s_pick cs (q + 1 + 1) 2 (hd.to (by omega) (by omega)) (by omega)) p_pick o52 rfl (by (conv => lhs; simp -implicitDefEqProofs only [go_sem]) <;> rfl) (by (simp -implicitDefEqProofs only [go_sem]) <;> rfl) ?_
    rintro _ _ ⟨⟨w, rfl, w0, w1⟩, rfl⟩
    simp -implicitDefEqProofs only [go_sem]
    exact ⟨l, decide (v = 0), decide (w = 0), by first | rfl | simp -implicitDefEqProofs only [go_sem], hl⟩
end Go.Proofs.YtgkmbbiebmamaaaDoor.Am
namespace Go.Proofs.YtgkmbbiebmamaaaDoor.Am
open Go
set_option linter.unusedVariables false
set_option linter.unusedSimpArgs false
section
variable {α : Type} {lt : α → α → Bool}
def insB (lt : α → α → Bool) (x : α) : List α → List α
  | [] => [x]
  | y :: l => if lt x y = true then y :: insB lt x l else x :: y :: l
def insR (lt : α → α → Bool) (acc : List α) (x : α) : List α := (insB lt x acc.reverse).reverse
def sortR (lt : α → α → Bool) (l : List α) : List α := l.foldl (insR lt) []
theorem insB_len (x : α) (l : List α) : (insB lt x l).length = l.length + 1 := by
  induction l with
  | nil => rfl
  | cons y l ih => simp only [insB]; split <;> simp [ih]
theorem insR_len (acc : List α) (x : α) : (insR lt acc x).length = acc.length + 1 := by simp [insR, insB_len]
theorem foldR_len (l acc : List α) : (l.foldl (insR lt) acc).length = acc.length + l.length := by
  induction l generalizing acc with
  | nil => rfl
  | cons x l ih => rw [List.foldl_cons, ih, insR_len, List.length_cons]; omega
theorem sortR_len (l : List α) : (sortR lt l).length = l.length := by simp [sortR, foldR_len]
theorem insB_pass (x : α) (q r : List α) (h : ∀ y ∈ q, lt x y = true) : insB lt x (q ++ r) = q ++ insB lt x r := by
  induction q with
  | nil => rfl
  | cons y q ih => rw [List.cons_append, insB, if_pos (h y (by simp)), ih (fun z hz => h z (by simp [hz])), List.cons_append]
def Mid (lt : α → α → Bool) (acc : List α) (x : α) (rest D : List α) (j : Nat) : Prop :=
  ∃ p q, acc = p ++ q ∧ j = p.length ∧ D = p ++ x :: q ++ rest ∧ ∀ y ∈ q, lt x y = true
theorem Mid.start (acc : List α) (x : α) (rest : List α) : Mid lt acc x rest (acc ++ x :: rest) acc.length :=
  ⟨acc, [], by simp, rfl, by simp, fun y h => by cases h⟩
theorem Mid.len {acc rest D : List α} {x : α} {j : Nat} (h : Mid lt acc x rest D j) : D.length = acc.length + 1 + rest.length ∧ j ≤ acc.length := by
  obtain ⟨p, q, rfl, rfl, rfl, _⟩ := h
  simp; omega
theorem Mid.step {acc rest D : List α} {x : α} {j : Nat} (h : Mid lt acc x rest D (j + 1)) (h1 : j + 1 < D.length) (hl : lt D[j + 1] D[j] = true) : Mid lt acc x rest ((D.set (j + 1) D[j]).set j D[j + 1]) j := by
  obtain ⟨p, q, h2, h3, h4, h5⟩ := h
  rcases List.eq_nil_or_concat p with rfl | ⟨p', y, rfl⟩
  · simp at h3
  · simp at h3
    subst h3 h4
    have e : p'.concat y ++ x :: q ++ rest = p' ++ y :: x :: (q ++ rest) := by simp
    have g0 : (p'.concat y ++ x :: q ++ rest)[p'.length]'(by simp) = y := by simp [List.getElem_append]
    have g1 : (p'.concat y ++ x :: q ++ rest)[p'.length + 1]'h1 = x := by simp [List.getElem_append]
    rw [g0, g1] at hl ⊢
    refine ⟨p', y :: q, by rw [h2]; simp, rfl, ?_, fun z hz => ?_⟩
    · rw [e, List.set_append_right _ _ (by omega), List.set_append_right _ _ (by omega)]
      simp
    · rcases List.mem_cons.1 hz with rfl | hz
      · exact hl
      · exact h5 z hz
theorem insR_at {p q : List α} {x : α} (h5 : ∀ y ∈ q, lt x y = true) (h6 : ∀ y ∈ p.getLast?, lt x y = false) : insR lt (p ++ q) x = p ++ x :: q := by
  unfold insR
  rw [List.reverse_append, insB_pass _ _ _ (fun y hy => h5 y (by simpa using hy))]
  rcases List.eq_nil_or_concat p with rfl | ⟨p', y, rfl⟩
  · simp [insB]
  · have h7 := h6 y (by simp)
    have e : (p'.concat y).reverse = y :: p'.reverse := by simp
    rw [e, insB, if_neg (by simp [h7])]
    simp
theorem Mid.end {acc rest D : List α} {x : α} {j : Nat} (h : Mid lt acc x rest D j) (hl : ∀ i (h1 : i + 1 < D.length), j = i + 1 → lt D[i + 1] D[i] = false) : D = insR lt acc x ++ rest := by
  obtain ⟨p, q, h2, h3, h4, h5⟩ := h
  subst h2 h3
  have : insR lt (p ++ q) x = p ++ x :: q := by
    refine insR_at h5 fun y hy => ?_
    rcases List.eq_nil_or_concat p with rfl | ⟨p', y', rfl⟩
    · simp at hy
    · simp at hy
      subst hy
      have h6 := hl p'.length (by rw [h4]; simp) (by simp)
      subst h4
      have g0 : (p'.concat y' ++ x :: q ++ rest)[p'.length]'(by simp) = y' := by simp [List.getElem_append]
      have g1 : (p'.concat y' ++ x :: q ++ rest)[p'.length + 1]'(by simp) = x := by simp [List.getElem_append]
      rwa [g0, g1] at h6
  rw [this, h4]
theorem sortR_take (l : List α) {i : Nat} (h : i < l.length) : sortR lt (l.take (i + 1)) = insR lt (sortR lt (l.take i)) l[i] := by
  rw [List.take_succ_eq_append_getElem h, sortR, List.foldl_append]
  rfl
theorem sortR_one (l : List α) : sortR lt (l.take 1) ++ l.drop 1 = l := by
  cases l with
  | nil => rfl
  | cons x l => simp [sortR, insR, insB]
end
end Go.Proofs.YtgkmbbiebmamaaaDoor.Am
namespace Go.Proofs.YtgkmbbiebmamaaaDoor.Am
open Go
set_option maxRecDepth 100000
set_option maxHeartbeats 1000000
set_option linter.unusedSimpArgs false
set_option linter.unusedVariables false
theorem withinM_b {n a b : Int} (h : withinM n a b = true) : a ≤ n ∧ n ≤ b := by
  unfold withinM at h
  simp only [Bool.and_eq_true, decide_eq_true_eq] at h
  omega
noncomputable def intM (s : ByteArray) : Int × Bool :=
  if 1 < s.size ∧ byteAt s 0 = 45 then (if withinM (figM (s.extract 1 s.size)) 1 1000000000 = true then (-figM (s.extract 1 s.size), true) else (0, false))
  else (if withinM (figM s) 0 1000000000 = true then (figM s, true) else (0, false))
theorem p_sIntGet : Plain Tryd.prog 40 := ⟨_, Tryd.func40, rfl, by decide⟩
theorem s_sIntGet (s : ByteArray) (hs : s.size ≤ 1099511627776) : Spec Tryd.prog 40 [.t (.str s)] (fun r => r = .tup [I (intM s).1, Bo (intM s).2]) := by
  refine Spec.of tysOk mixed Tryd.func40 rfl (by decide) ?_
  simp -implicitDefEqProofs only [go_sem, Tryd.f40]
  have plain : ¬ (1 < s.size ∧ byteAt s 0 = 45) → intM s = (if withinM (figM s) 0 1000000000 = true then (figM s, true) else (0, false)) := fun h => by unfold intM; rw [if_neg h]
  refine BrA_i (fun h1 => ?_) (fun h1 => ?_) <;> simp -implicitDefEqProofs only [go_sem]
  · have h1 : 1 < s.size := by have := of_decide_eq_true h1; omega
    have p0 : (0 : Int) < s.size := by omega
    have p1 : (1 : Int) ≤ s.size := by omega
    simp -implicitDefEqProofs only [go_sem, p0, Int.le_refl]
    refine BrA_i (fun h2 => ?_) (fun h2 => ?_) <;> simp -implicitDefEqProofs only [go_sem]
    · have h2 := of_decide_eq_true h2
      have e : intM s = (if withinM (figM (s.extract 1 s.size)) 1 1000000000 = true then (-figM (s.extract 1 s.size), true) else (0, false)) := by unfold intM; rw [if_pos ⟨h1, h2⟩]
      simp -implicitDefEqProofs only [go_sem, p1, Int.le_refl]
      refine CallW.one (s_l1Figures (s.extract 1 s.size) (by rw [ByteArray.size_extract]; omega)) p_l1Figures (by first | (simp -implicitDefEqProofs only [go_sem]; done) | ((conv => lhs; simp -implicitDefEqProofs only [go_sem]); done) | (simp -implicitDefEqProofs only [go_sem]; rfl) | rfl) (by first | trivial | (simp [DeepR, DeepV, DeepVs, DeepC, DeepCs, T.scal]; done)) ?_
      simp -implicitDefEqProofs only [go_sem]
      refine CallW.one (s_l1In (figM (s.extract 1 s.size)) 1 1000000000) p_l1In (by first | (simp -implicitDefEqProofs only [go_sem]; done) | ((conv => lhs; simp -implicitDefEqProofs only [go_sem]); done) | (simp -implicitDefEqProofs only [go_sem]; rfl) | rfl) (by first | trivial | (simp [DeepR, DeepV, DeepVs, DeepC, DeepCs, T.scal]; done)) ?_
      rw [e]
      cases hw : withinM (figM (s.extract 1 s.size)) 1 1000000000
      · simp -implicitDefEqProofs only [go_sem, Bool.not_false, Bool.false_eq_true, if_false]
      · have hb := withinM_b hw
        have wn : IntKind.i64.wrap (0 - figM (s.extract 1 s.size)) = -figM (s.extract 1 s.size) := by rw [wrap64 (by omega) (by omega)]; omega
        simp -implicitDefEqProofs only [go_sem, Bool.not_true, if_true, wn]
    · have h2 := of_decide_eq_false h2
      rw [plain (fun hh => h2 hh.2)]
      refine CallW.one (s_l1Figures s hs) p_l1Figures (by first | (simp -implicitDefEqProofs only [go_sem]; done) | ((conv => lhs; simp -implicitDefEqProofs only [go_sem]); done) | (simp -implicitDefEqProofs only [go_sem]; rfl) | rfl) (by first | trivial | (simp [DeepR, DeepV, DeepVs, DeepC, DeepCs, T.scal]; done)) ?_
      simp -implicitDefEqProofs only [go_sem]
      refine CallW.one (s_l1In (figM s) 0 1000000000) p_l1In (by first | (simp -implicitDefEqProofs only [go_sem]; done) | ((conv => lhs; simp -implicitDefEqProofs only [go_sem]); done) | (simp -implicitDefEqProofs only [go_sem]; rfl) | rfl) (by first | trivial | (simp [DeepR, DeepV, DeepVs, DeepC, DeepCs, T.scal]; done)) ?_
      cases hw : withinM (figM s) 0 1000000000
      · simp -implicitDefEqProofs only [go_sem, Bool.not_false, Bool.false_eq_true, if_false]
      · simp -implicitDefEqProofs only [go_sem, Bool.not_true, if_true]
  · have h1 : ¬ 1 < s.size := by have := of_decide_eq_false h1; omega
    rw [plain (fun hh => h1 hh.1)]
    refine CallW.one (s_l1Figures s hs) p_l1Figures (by first | (simp -implicitDefEqProofs only [go_sem]; done) | ((conv => lhs; simp -implicitDefEqProofs only [go_sem]); done) | (simp -implicitDefEqProofs only [go_sem]; rfl) | rfl) (by first | trivial | (simp [DeepR, DeepV, DeepVs, DeepC, DeepCs, T.scal]; done)) ?_
    simp -implicitDefEqProofs only [go_sem]
    refine CallW.one (s_l1In (figM s) 0 1000000000) p_l1In (by first | (simp -implicitDefEqProofs only [go_sem]; done) | ((conv => lhs; simp -implicitDefEqProofs only [go_sem]); done) | (simp -implicitDefEqProofs only [go_sem]; rfl) | rfl) (by first | trivial | (simp [DeepR, DeepV, DeepVs, DeepC, DeepCs, T.scal]; done)) ?_
    cases hw : withinM (figM s) 0 1000000000
    · simp -implicitDefEqProofs only [go_sem, Bool.not_false, Bool.false_eq_true, if_false]
    · simp -implicitDefEqProofs only [go_sem, Bool.not_true, if_true]
end Go.Proofs.YtgkmbbiebmamaaaDoor.Am
namespace Go.Proofs.YtgkmbbiebmamaaaDoor.Am
open Go Go.Proofs Go.Shelf Go.RowKit Go.Sort
set_option maxRecDepth 100000
set_option maxHeartbeats 4000000
set_option linter.unusedSimpArgs false
set_option linter.unusedVariables false
theorem Spec.at {P : Program} {f : FuncId} {args : List AV} {r : T} (h : Spec P f args (fun x => x = .t r)) {w : World} (hG : Glob w) {vs : List Value} (hv : AVr.AVrs (inCx w fun _ => False) args vs) :
    Calls P f vs.toArray w fun e w' => ∃ v, e = .returned v ∧ (∃ D, Rd w' D r v) ∧ WStep w w' none :=
  (h w _ vs ⟨fun _ h => h.elim, hG⟩ hv).mono fun e w' ⟨v, r', he, hr, hs, col, _, hres⟩ => by
    subst hr
    exact ⟨v, he, ⟨_, hres⟩, hs⟩
theorem Glob.step {w w' : World} (h : Glob w) (hs : WStep w w' none) : Glob w' := h.mono fun b hb => hs.block b (h.lt hb) (by simp)
theorem w_Itoa (n : Int) (h0 : -9223372036854775808 ≤ n) (h1 : n ≤ 9223372036854775807) (w : World) (hG : Glob w) : Calls Tryd.prog 54 #[.int .i64 n] w fun e w' => e = .returned (.string (itoaB n)) ∧ WStep w w' none :=
  (Spec.at (s_Itoa n h0 h1) hG (vs := [.int .i64 n]) ⟨.int _ _, trivial⟩).mono fun e w' ⟨v, he, ⟨D, hr⟩, hs⟩ => by
    cases hr; exact ⟨he, hs⟩
theorem w_within (n a b : Int) (w : World) (hG : Glob w) : Calls Tryd.prog 53 #[.int .i64 n, .int .i64 a, .int .i64 b] w fun e w' => e = .returned (.bool (withinM n a b)) ∧ WStep w w' none :=
  (Spec.at (s_within n a b) hG (vs := [.int .i64 n, .int .i64 a, .int .i64 b]) ⟨.int _ _, .int _ _, .int _ _, trivial⟩).mono fun e w' ⟨v, he, ⟨D, hr⟩, hs⟩ => by
    cases hr; exact ⟨he, hs⟩
theorem w_Atoi_ok (s : ByteArray) (hs : s.size ≤ 281474976710656) (n : Int) (h : Lib.atoiAll s.data.toList = .ok n) (w : World) : Calls Tryd.prog 34 #[.string s] w fun e w' => e = .returned (.tuple #[.int .i64 n, .nilIface]) ∧ WStep w w' none :=
  (Any.strconv_Atoi_ok layAtoi s (by omega) n h w).mono fun e w' ⟨he, hw⟩ => ⟨he, by
    rcases hw with rfl | ⟨t, rfl⟩
    · exact WStep.same _
    · exact WStep.of_below (Lib.bytesWorld_below w _ _)⟩
theorem w_Atoi_err (s : ByteArray) (hs : s.size ≤ 281474976710656) (h : ∀ n, Lib.atoiAll s.data.toList ≠ .ok n) (w : World) (hG : Glob w) : Calls Tryd.prog 34 #[.string s] w fun e w' => ∃ (n : Int) (t : TypeId) (p : Value), e = .returned (.tuple #[.int .i64 n, .iface t p]) ∧ WStep w w' none := by
  rcases h2 : Lib.atoiAll s.data.toList with n | _ | _
  · exact absurd h2 (h n)
  · obtain ⟨tp, p, hp⟩ := hG.syn
    refine (Any.strconv_Atoi_syntax_var layAtoi s hs h2 tp p w hp).mono fun e w' => ?_
    rintro ⟨N, rfl, _, _, hb⟩
    exact ⟨_, _, _, rfl, WStep.of_below hb⟩
  · obtain ⟨tp, p, hp⟩ := hG.rng
    refine (Any.strconv_Atoi_range_var layAtoi s hs h2 tp p w hp).mono fun e w' => ?_
    rintro ⟨N, rfl, _, _, hb⟩
    exact ⟨_, _, _, rfl, WStep.of_below hb⟩
theorem w_IntGet_err (s : ByteArray) (hs : s.size ≤ 281474976710656) (h : ∀ n, Lib.atoiAll s.data.toList ≠ .ok n) (w : World) (hG : Glob w) : Calls Tryd.prog 27 #[.string s] w fun e w' => e = .returned (.tuple #[.int .i64 0, .bool false]) ∧ WStep w w' none := by
  have mixed := mixed
  go_enter Tryd.func27, Tryd.ntmps27
  go_wp2_with (refine (w_Atoi_err s hs h _ hG).mono ?_; rintro e W1 ⟨n, t, p, rfl, hW⟩)
  go_ret2
  exact ⟨rfl, hW⟩
theorem w_IntGet_far (s : ByteArray) (hs : s.size ≤ 281474976710656) (v : Int) (h : Lib.atoiAll s.data.toList = .ok v) (hc : withinM v (-1000000000) 1000000000 = false) (w : World) (hG : Glob w) : Calls Tryd.prog 27 #[.string s] w fun e w' => e = .returned (.tuple #[.int .i64 0, .bool false]) ∧ WStep w w' none := by
  have mixed := mixed
  obtain ⟨vb0, vb1⟩ := Lib.atoiAll_bounds h
  go_enter Tryd.func27, Tryd.ntmps27
  go_wp2_with (first
    | (refine (w_Atoi_ok s hs v h _).mono ?_; rintro e W1 ⟨rfl, hW⟩)
    | (refine (w_within v _ _ _ (hG.step hW)).mono ?_; rw [hc]; rintro e W2 ⟨rfl, hW2⟩)
    | (refine (w_Itoa v vb0 vb1 _ ((hG.step hW).step hW2)).mono ?_; rintro e W3 ⟨rfl, hW3⟩))
  all_goals first
    | (go_ret2; exact ⟨rfl, hW.trans hW2⟩)
    | (exfalso; rename_i hq; apply he; have h2 : (itoaB v).data.toList = s.data.toList := (by rw [← ByteArray.toList_eq, ← ByteArray.toList_eq]; simpa using hq); exact ByteArray.ext (Array.toList_inj.1 h2))
    | (exfalso; rename_i hq; simp [he] at hq)
theorem w_IntGet_yes (s : ByteArray) (hs : s.size ≤ 281474976710656) (v : Int) (h : Lib.atoiAll s.data.toList = .ok v) (hc : withinM v (-1000000000) 1000000000 = true) (he : itoaB v = s) (w : World) (hG : Glob w) : Calls Tryd.prog 27 #[.string s] w fun e w' => e = .returned (.tuple #[.int .i64 v, .bool true]) ∧ WStep w w' none := by
  have mixed := mixed
  obtain ⟨vb0, vb1⟩ := Lib.atoiAll_bounds h
  go_enter Tryd.func27, Tryd.ntmps27
  go_wp2_with (first
    | (refine (w_Atoi_ok s hs v h _).mono ?_; rintro e W1 ⟨rfl, hW⟩)
    | (refine (w_within v _ _ _ (hG.step hW)).mono ?_; rw [hc]; rintro e W2 ⟨rfl, hW2⟩)
    | (refine (w_Itoa v vb0 vb1 _ ((hG.step hW).step hW2)).mono ?_; rintro e W3 ⟨rfl, hW3⟩))
  all_goals first
    | (go_ret2; exact ⟨rfl, (hW.trans hW2).trans hW3⟩)
    | (exfalso; rename_i hq; apply he; have h2 : (itoaB v).data.toList = s.data.toList := (by rw [← ByteArray.toList_eq, ← ByteArray.toList_eq]; simpa using hq); exact ByteArray.ext (Array.toList_inj.1 h2))
    | (exfalso; rename_i hq; simp [he] at hq)
theorem w_IntGet_no (s : ByteArray) (hs : s.size ≤ 281474976710656) (v : Int) (h : Lib.atoiAll s.data.toList = .ok v) (hc : withinM v (-1000000000) 1000000000 = true) (he : itoaB v ≠ s) (w : World) (hG : Glob w) : Calls Tryd.prog 27 #[.string s] w fun e w' => e = .returned (.tuple #[.int .i64 0, .bool false]) ∧ WStep w w' none := by
  have mixed := mixed
  obtain ⟨vb0, vb1⟩ := Lib.atoiAll_bounds h
  go_enter Tryd.func27, Tryd.ntmps27
  go_wp2_with (first
    | (refine (w_Atoi_ok s hs v h _).mono ?_; rintro e W1 ⟨rfl, hW⟩)
    | (refine (w_within v _ _ _ (hG.step hW)).mono ?_; rw [hc]; rintro e W2 ⟨rfl, hW2⟩)
    | (refine (w_Itoa v vb0 vb1 _ ((hG.step hW).step hW2)).mono ?_; rintro e W3 ⟨rfl, hW3⟩))
  all_goals first
    | (go_ret2; exact ⟨rfl, (hW.trans hW2).trans hW3⟩)
    | (exfalso; rename_i hq; apply he; have h2 : (itoaB v).data.toList = s.data.toList := (by rw [← ByteArray.toList_eq, ← ByteArray.toList_eq]; simpa using hq); exact ByteArray.ext (Array.toList_inj.1 h2))
    | (exfalso; rename_i hq; simp [he] at hq)
end Go.Proofs.YtgkmbbiebmamaaaDoor.Am
namespace Go.Proofs.YtgkmbbiebmamaaaDoor.Am
open Go
set_option maxRecDepth 100000
set_option maxHeartbeats 1000000
set_option linter.unusedSimpArgs false
set_option linter.unusedVariables false
theorem byte0 {s : ByteArray} {c : UInt8} {r : List UInt8} (h : s.data.toList = c :: r) : byteAt s 0 = (c.toNat : Int) := by
  have h0 : 0 < s.data.toList.length := by rw [h]; simp
  have e := byteAt_nat (s := s) (i := 0) h0
  simp only [h, List.getElem_cons_zero] at e
  exact e
theorem dec_head (m : Nat) : ∃ c r, decL m = c :: r ∧ 48 ≤ c.toNat ∧ c.toNat ≤ 57 := by
  have hd := decL_dig m
  cases hl : decL m with
  | nil => exact absurd hl (decL_ne m)
  | cons c r =>
    have := hd c (by rw [hl]; simp)
    simp only [digB, Bool.and_eq_true, decide_eq_true_eq] at this
    exact ⟨c, r, rfl, this.1, this.2⟩
theorem neg_list (m : Nat) (h : 1 ≤ m) : (itoaB (-(m : Int))).data.toList = 45 :: decL m := by
  unfold itoaB Lib.itoa
  rw [if_pos (by omega)]
  simp [dec_list]
theorem intM_dec (m : Nat) (h : m ≤ 1000000000) : intM (decM m) = ((m : Int), true) := by
  obtain ⟨c, r, e, h1, h2⟩ := dec_head m
  unfold intM
  rw [if_neg (by rw [byte0 e]; omega), figM_dec m (by omega), if_pos]
  unfold withinM; simp only [Bool.and_eq_true, decide_eq_true_eq]; omega
theorem extract1 {s : ByteArray} {c : UInt8} {r : List UInt8} (h : s.data.toList = c :: r) : (s.extract 1 s.size).data.toList = r := by
  rw [ByteArray.data_extract]
  simp only [Array.toList_extract, List.extract_eq_take_drop, h]
  have hs : s.size = r.length + 1 := by rw [size_list, h]; rfl
  rw [hs]; simp
theorem intM_neg (m : Nat) (h1 : 1 ≤ m) (h : m ≤ 1000000000) : intM (itoaB (-(m : Int))) = (-(m : Int), true) := by
  have e := neg_list m h1
  have hx : (itoaB (-(m : Int))).extract 1 (itoaB (-(m : Int))).size = decM m := ByteArray.ext (Array.toList_inj.1 (extract1 e))
  have hs : 1 < (itoaB (-(m : Int))).size := by
    have := List.length_pos_iff.2 (decL_ne m)
    rw [size_list, e, List.length_cons]; omega
  unfold intM
  rw [if_pos ⟨hs, by rw [byte0 e]; rfl⟩, hx, figM_dec m (by omega), if_pos]
  unfold withinM; simp only [Bool.and_eq_true, decide_eq_true_eq]; omega
theorem int_cases {n : Int} (h : withinM n (-1000000000) 1000000000 = true) : (∃ m : Nat, n = m ∧ m ≤ 1000000000) ∨ ∃ m : Nat, n = -(m : Int) ∧ 1 ≤ m ∧ m ≤ 1000000000 := by
  have := withinM_b h
  by_cases h0 : 0 ≤ n
  · exact .inl ⟨n.toNat, by omega, by omega⟩
  · exact .inr ⟨(-n).toNat, by omega, by omega, by omega⟩
theorem intM_yes {n : Int} (h : withinM n (-1000000000) 1000000000 = true) : intM (itoaB n) = (n, true) := by
  rcases int_cases h with ⟨m, rfl, hm⟩ | ⟨m, rfl, h1, hm⟩
  · rw [itoa_dec, intM_dec m hm]
  · exact intM_neg m h1 hm
theorem intM_no {s : ByteArray} (h : ∀ n, withinM n (-1000000000) 1000000000 = true → itoaB n ≠ s) : intM s = (0, false) := by
  unfold intM
  split
  · rename_i hc
    split
    · rename_i hw
      exfalso
      have hb := withinM_b hw
      obtain ⟨m, e1, e2, _⟩ := figM_some (by omega : 0 ≤ figM (s.extract 1 s.size))
      rw [e1] at hb
      refine h (-(m : Int)) (by unfold withinM; simp only [Bool.and_eq_true, decide_eq_true_eq]; omega) (ByteArray.ext (Array.toList_inj.1 ?_))
      rw [neg_list m (by omega)]
      cases hl : s.data.toList with
      | nil => have := hc.1; rw [size_list, hl] at this; simp at this
      | cons c r =>
        have e3 := extract1 hl
        rw [e2] at e3
        have e4 := byte0 hl
        rw [hc.2] at e4
        have : c = 45 := by apply UInt8.toNat_inj.1; show _ = 45; omega
        rw [this]; congr 1
    · rfl
  · split
    · rename_i hw
      exfalso
      have hb := withinM_b hw
      obtain ⟨m, e1, e2, _⟩ := figM_some hb.1
      rw [e1] at hb
      exact h m (by unfold withinM; simp only [Bool.and_eq_true, decide_eq_true_eq]; omega) (by rw [itoa_dec, ← e2])
    · rfl
theorem atoi_itoa {n : Int} (h : withinM n (-1000000000) 1000000000 = true) : Lib.atoiAll (itoaB n).data.toList = .ok n := by
  rcases int_cases h with ⟨m, rfl, hm⟩ | ⟨m, rfl, h1, hm⟩
  · rw [itoa_dec]; exact atoi_dec m (by omega)
  · rw [neg_list m h1]
    have hv : (decL m).foldl (fun a b => 10 * a + (b.toNat - 48)) 0 = m := bval_decL m
    have hp := parse_dec (decL m) 0 (decL_dig m) (by rw [hv]; omega)
    rw [hv] at hp
    have e2 : Lib.parseMag (decL m) = .ok m := by unfold Lib.parseMag; rw [if_neg (decL_ne m)]; exact hp
    unfold Lib.atoiAll
    have e1 : (if (45 : UInt8).toNat = 43 ∨ (45 : UInt8).toNat = 45 then decL m else 45 :: decL m) = decL m := if_pos (.inr rfl)
    simp only [e1, e2]
    have e4 : ¬ 9223372036854775808 < m := by omega
    simp [e4]
theorem p_IntGet : Plain Tryd.prog 27 := ⟨_, Tryd.func27, rfl, by decide⟩
theorem s_IntGet (s : ByteArray) (hs : s.size ≤ 281474976710656) : Spec Tryd.prog 27 [.t (.str s)] (fun r => r = .tup [I (intM s).1, Bo (intM s).2]) := by
  intro w D vs hD hv
  match vs, hv with
  | [v], ⟨hv, _⟩ =>
    have hv' : v = .string s := by cases hv; rfl
    subst hv'
    have out : ∀ (n : Int) (b : Bool) (w' : World), WStep w w' none → Out w D w' (.tup [I n, Bo b]) (.tuple #[.int .i64 n, .bool b]) := fun n b w' hw =>
      ⟨hw, fun _ => none, (fun b p hb => by cases hb), [.int .i64 n, .bool b], rfl, .int _ _, .bool _, trivial⟩
    by_cases hk : ∃ n, Lib.atoiAll s.data.toList = .ok n
    · obtain ⟨n, hn⟩ := hk
      have other : (withinM n (-1000000000) 1000000000 = true → itoaB n ≠ s) → intM s = (0, false) := fun hh => intM_no fun k hw e => by
        have h2 := atoi_itoa hw
        rw [e, hn] at h2
        injection h2 with h2
        subst h2
        exact hh hw e
      cases hc : withinM n (-1000000000) 1000000000
      · rw [other (fun hw => by rw [hc] at hw; cases hw)]
        exact (w_IntGet_far s hs n hn hc w hD.gl).mono fun e w' ⟨he, hw⟩ => ⟨_, _, he, rfl, out _ _ w' hw⟩
      · by_cases he : itoaB n = s
        · have := intM_yes hc
          rw [he] at this
          rw [this]
          exact (w_IntGet_yes s hs n hn hc he w hD.gl).mono fun e w' ⟨he, hw⟩ => ⟨_, _, he, rfl, out _ _ w' hw⟩
        · rw [other (fun _ => he)]
          exact (w_IntGet_no s hs n hn hc he w hD.gl).mono fun e w' ⟨he, hw⟩ => ⟨_, _, he, rfl, out _ _ w' hw⟩
    · rw [intM_no fun k hw e => hk ⟨k, by rw [← e]; exact atoi_itoa hw⟩]
      exact (w_IntGet_err s hs (fun n hn => hk ⟨n, hn⟩) w hD.gl).mono fun e w' ⟨he, hw⟩ => ⟨_, _, he, rfl, out _ _ w' hw⟩
end Go.Proofs.YtgkmbbiebmamaaaDoor.Am
namespace Go.Proofs.YtgkmbbiebmamaaaDoor.Am
open Go
set_option linter.unusedSimpArgs false
set_option linter.unusedVariables false
theorem bl_irrefl : ∀ x : List UInt8, Op.bytesLess x x = false
  | [] => rfl
  | a :: x => by simp [Op.bytesLess, bl_irrefl x]
theorem bl_trans : ∀ {x y z : List UInt8}, Op.bytesLess x y = true → Op.bytesLess y z = true → Op.bytesLess x z = true
  | _, [], _, h, _ => by simp [Op.bytesLess] at h
  | _, _ :: _, [], _, h => by simp [Op.bytesLess] at h
  | [], _ :: _, _ :: _, _, _ => rfl
  | a :: x, b :: y, c :: z, h, h' => by
    simp only [Op.bytesLess, Bool.or_eq_true, Bool.and_eq_true, decide_eq_true_eq, beq_iff_eq] at h h' ⊢
    rcases h with h | ⟨rfl, h⟩
    · rcases h' with h' | ⟨rfl, h'⟩
      · exact .inl (UInt8.lt_trans h h')
      · exact .inl h
    · rcases h' with h' | ⟨rfl, h'⟩
      · exact .inl h'
      · exact .inr ⟨rfl, bl_trans h h'⟩
theorem bl_total : ∀ {x y : List UInt8}, x ≠ y → Op.bytesLess x y = false → Op.bytesLess y x = true
  | [], [], h, _ => absurd rfl h
  | [], _ :: _, _, h => by simp [Op.bytesLess] at h
  | _ :: _, [], _, _ => rfl
  | a :: x, b :: y, h, h' => by
    simp only [Op.bytesLess, Bool.or_eq_false_iff, Bool.and_eq_false_iff, decide_eq_false_iff_not, beq_eq_false_iff_ne, ne_eq] at h'
    simp only [Op.bytesLess, Bool.or_eq_true, Bool.and_eq_true, decide_eq_true_eq, beq_iff_eq]
    obtain ⟨h1, h2⟩ := h'
    by_cases e : a = b
    · subst e
      refine .inr ⟨rfl, bl_total (fun e => h (by rw [e])) (by simpa using h2)⟩
    · have hne : a.toNat ≠ b.toNat := fun h => e (UInt8.toNat_inj.1 h)
      have h3 : a.toNat < b.toNat ∨ b.toNat < a.toNat := by omega
      rcases h3 with h3 | h3
      · exact absurd (UInt8.lt_iff_toNat_lt.2 h3) h1
      · exact .inl (UInt8.lt_iff_toNat_lt.2 h3)
theorem bytesLt_irrefl (a : ByteArray) : bytesLt a a = false := bl_irrefl _
theorem bytesLt_trans {a b c : ByteArray} (h : bytesLt a b = true) (h' : bytesLt b c = true) : bytesLt a c = true := bl_trans h h'
theorem bytesLt_total {a b : ByteArray} (h : a ≠ b) (h' : bytesLt a b = false) : bytesLt b a = true := by
  refine bl_total (fun e => h ?_) h'
  have := bytesEq_iff a b
  unfold bytesEq at this
  rw [e] at this
  simpa using this
end Go.Proofs.YtgkmbbiebmamaaaDoor.Am
namespace Go.Proofs.YtgkmbbiebmamaaaDoor.Am
open Go
set_option maxRecDepth 100000
set_option maxHeartbeats 1000000
set_option linter.unusedSimpArgs false
set_option linter.unusedVariables false
def cmpS (a b : ByteArray) : Int := if bytesLt a b = true then -1 else if a = b then 0 else 1
theorem cmpS_lt (a b : ByteArray) : decide (cmpS a b < 0) = bytesLt a b := by
  unfold cmpS
  cases h : bytesLt a b
  · by_cases e : a = b <;> simp [e]
  · simp
theorem p_isNaNS : Plain Tryd.prog 64 := ⟨_, Tryd.func64, rfl, by decide⟩
theorem s_isNaNS (n : ByteArray) : Spec Tryd.prog 64 [.t (.str n)] (fun r => r = Bo false) := by
  refine Spec.of tysOk mixed Tryd.func64 rfl (by decide) ?_
  simp -implicitDefEqProofs only [go_sem, Tryd.f64]
theorem p_compareS : Plain Tryd.prog 48 := ⟨_, Tryd.func48, rfl, by decide⟩
theorem s_compareS (a b : ByteArray) : Spec Tryd.prog 48 [.t (.str a), .t (.str b)] (fun r => r = I (cmpS a b)) := by
  refine Spec.of tysOk mixed Tryd.func48 rfl (by decide) ?_
  simp -implicitDefEqProofs only [go_sem, Tryd.f48]
  refine .one (s_isNaNS _) p_isNaNS rfl trivial ?_
  simp -implicitDefEqProofs only [go_sem]
  refine .one (s_isNaNS _) p_isNaNS rfl trivial ?_
  simp -implicitDefEqProofs only [go_sem]
  refine BrA_i (fun h => ?_) (fun h => ?_)
  · simp -implicitDefEqProofs only [go_sem]; simp [cmpS, h]
  · simp -implicitDefEqProofs only [go_sem]
    refine BrA_i (fun h2 => ?_) (fun h2 => ?_) <;> simp -implicitDefEqProofs only [go_sem] <;> simp_all [cmpS]
theorem cmpS_refl (a : ByteArray) : cmpS a a = 0 := by
  unfold cmpS; rw [bytesLt_irrefl]; simp
end Go.Proofs.YtgkmbbiebmamaaaDoor.Am
namespace Go.Proofs.YtgkmbbiebmamaaaDoor.Am
open Go
set_option maxRecDepth 100000
set_option maxHeartbeats 1000000
set_option linter.unusedSimpArgs false
set_option linter.unusedVariables false
noncomputable def cmpT (nums down : Bool) (x y : ByteArray) : Int :=
  let c := if nums = true then cmpM (intM x).1 (intM y).1 else cmpS x y
  if down = true then -c else c
theorem p_sortFn : Plain Tryd.prog 47 := ⟨_, Tryd.func47, rfl, by decide⟩
theorem s_sortFn (x y : ByteArray) (nums down : Bool) (hx : x.size ≤ 281474976710656) (hy : y.size ≤ 281474976710656) : Spec Tryd.prog 47 [.t (.str x), .t (.str y), .rop false [.bool nums] 0, .rop false [.bool down] 0] (fun r => r = I (cmpT nums down x y)) := by
  refine Spec.of tysOk mixed Tryd.func47 rfl (by decide) ?_
  have ws : IntKind.i64.wrap (0 - cmpS x y) = -cmpS x y := by
    unfold cmpS; split <;> (try split) <;> rfl
  have wm : IntKind.i64.wrap (0 - cmpM (intM x).1 (intM y).1) = -cmpM (intM x).1 (intM y).1 := by
    unfold cmpM; split <;> (try split) <;> rfl
  simp -implicitDefEqProofs only [go_sem, Tryd.f47]
  refine CallW.one (s_compareS x y) p_compareS (by first | (simp -implicitDefEqProofs only [go_sem]; done) | ((conv => lhs; simp -implicitDefEqProofs only [go_sem]); done) | (simp -implicitDefEqProofs only [go_sem]; rfl) | rfl) (by first | trivial | (simp [DeepR, DeepV, DeepVs, DeepC, DeepCs, T.scal]; done)) ?_
  cases nums
  · simp -implicitDefEqProofs only [go_sem]
    cases down
    · simp -implicitDefEqProofs only [go_sem]
      simp [cmpT]
    · simp -implicitDefEqProofs only [go_sem, ws]
      simp [cmpT]
  · simp -implicitDefEqProofs only [go_sem]
    refine CallW.one (s_IntGet x hx) p_IntGet (by first | (simp -implicitDefEqProofs only [go_sem]; done) | ((conv => lhs; simp -implicitDefEqProofs only [go_sem]); done) | (simp -implicitDefEqProofs only [go_sem]; rfl) | rfl) (by first | trivial | (simp [DeepR, DeepV, DeepVs, DeepC, DeepCs, T.scal]; done)) ?_
    simp -implicitDefEqProofs only [go_sem]
    refine CallW.one (s_IntGet y hy) p_IntGet (by first | (simp -implicitDefEqProofs only [go_sem]; done) | ((conv => lhs; simp -implicitDefEqProofs only [go_sem]); done) | (simp -implicitDefEqProofs only [go_sem]; rfl) | rfl) (by first | trivial | (simp [DeepR, DeepV, DeepVs, DeepC, DeepCs, T.scal]; done)) ?_
    simp -implicitDefEqProofs only [go_sem]
    refine CallW.one (s_compare (intM x).1 (intM y).1) p_compare (by first | (simp -implicitDefEqProofs only [go_sem]; done) | ((conv => lhs; simp -implicitDefEqProofs only [go_sem]); done) | (simp -implicitDefEqProofs only [go_sem]; rfl) | rfl) (by first | trivial | (simp [DeepR, DeepV, DeepVs, DeepC, DeepCs, T.scal]; done)) ?_
    cases down
    · simp -implicitDefEqProofs only [go_sem]
      simp [cmpT]
    · simp -implicitDefEqProofs only [go_sem, wm]
      simp [cmpT]
end Go.Proofs.YtgkmbbiebmamaaaDoor.Am
namespace Go.Proofs.YtgkmbbiebmamaaaDoor.Am
open Go
set_option maxRecDepth 100000
set_option maxHeartbeats 1000000
set_option linter.unusedSimpArgs false
set_option linter.unusedVariables false
theorem set_getD_ne {l : List (List T)} {i k : Nat} (h : i ≠ k) (r : List T) : (l.set k r).getD i [] = l.getD i [] := by
  rw [List.getD_eq_getElem?_getD, List.getD_eq_getElem?_getD, List.getElem?_set_ne (Ne.symm h)]
noncomputable def ltT (nums down : Bool) (x y : Tx) : Bool := decide (cmpT nums down x y < 0)
theorem ltT_eq (nums down : Bool) (x y : Tx) : ltT nums down x y = decide (cmpT nums down x y < 0) := rfl
theorem insB_mem {α : Type} {lt : α → α → Bool} {x y : α} : ∀ {l : List α}, y ∈ insB lt x l → y = x ∨ y ∈ l
  | [], h => by simpa [insB] using h
  | z :: l, h => by
    unfold insB at h
    split at h
    · rcases List.mem_cons.1 h with h | h
      · exact .inr (by simp [h])
      · exact (insB_mem h).imp id fun h => by simp [h]
    · rcases List.mem_cons.1 h with h | h
      · exact .inl h
      · exact .inr h
theorem sortR_mem {α : Type} {lt : α → α → Bool} {y : α} : ∀ {l acc : List α}, y ∈ l.foldl (insR lt) acc → y ∈ acc ∨ y ∈ l
  | [], acc, h => .inl h
  | x :: l, acc, h => by
    rw [List.foldl_cons] at h
    rcases sortR_mem h with h | h
    · unfold insR at h
      rcases insB_mem (List.mem_reverse.1 h) with h | h
      · exact .inr (by simp [h])
      · exact .inl (List.mem_reverse.1 h)
    · exact .inr (by simp [h])
theorem p_insTx : Plain Tryd.prog 75 := ⟨_, Tryd.func75, rfl, by decide⟩
theorem s_insTx (nums down : Bool) (gs : List Tx) (hsz0 : ∀ x ∈ gs, x.size ≤ 40) (hs : gs.length < 1000) : SpecO Tryd.prog 75 [.refw 9000, I 0, I gs.length, .fn 47 [.ptr 9001 0 0, .ptr 9002 0 0]] [(9000, .rows 1 (gs.map Tx.row)), (9001, .box [Bo nums]), (9002, .box [Bo down])] (fun r h => r = .tup [] ∧ h = [(9000, .rows 1 ((sortR (ltT nums down) gs).map Tx.row)), (9001, .box [Bo nums]), (9002, .box [Bo down])]) := by
  refine SpecO.of tysOk mixed Tryd.func75 rfl (by decide) ?_
  have w0 : IntKind.i64.wrap (0 + 1) = ((1 : Nat) : Int) := by rw [wrap64 (by omega) (by omega)]; omega
  simp -implicitDefEqProofs only [go_sem, Tryd.f75, w0]
  refine LoopW.slotsM [true, true, true, true, false, false, false, false, true, false, false, false, false, false, false, false, false, false, false, false, false, false, false, false, false, false, false, false, false, false, false, false, false, false, false, false, false, false, false, false, false, false, false, false, false, false, false, false, false, false, false, false, false] (α := Nat) (fun i => [(8, I i)]) (fun i => [(9000, .rows 1 ((sortR (ltT nums down) (gs.take i) ++ gs.drop i).map Tx.row)), (9001, .box [Bo nums]), (9002, .box [Bo down])]) (fun i => gs.length - i) (fun i => 1 ≤ i ∧ (i ≤ gs.length ∨ i = 1)) 1 (by simp -implicitDefEqProofs only [go_sem, LeTs_undef, LeTs_same, LeTs_nil]; try simp [LeTs]) (by simp -implicitDefEqProofs only [go_sem, sortR_one]) ⟨by omega, .inr rfl⟩ ?_
  rintro i ⟨hi1, hi2⟩
  simp -implicitDefEqProofs only [go_sem]
  refine BrA_i (fun h => ?_) (fun h => ?_) <;> simp -implicitDefEqProofs only [go_sem]
  · skip
    have h : i < gs.length := by simp at h; omega
    have h0i : (0 : Int) ≤ i := by omega
    have h1i : (i : Int) < gs.length := by omega
    have wi : IntKind.i64.wrap ((i : Int) + 1) = ((i + 1 : Nat) : Int) := by rw [wrap64 (by omega) (by omega)]; omega
    have hDl : (sortR (ltT nums down) (gs.take i)).length = i := by rw [sortR_len, List.length_take]; omega
    have hD0 : Mid (ltT nums down) (sortR (ltT nums down) (gs.take i)) gs[i] (gs.drop (i + 1)) (sortR (ltT nums down) (gs.take i) ++ gs.drop i) i := by
      have := Mid.start (lt := ltT nums down) (sortR (ltT nums down) (gs.take i)) gs[i] (gs.drop (i + 1))
      rw [hDl] at this
      rwa [List.drop_eq_getElem_cons h]
    have hszS : ∀ x ∈ sortR (ltT nums down) (gs.take i) ++ gs.drop i, x.size ≤ 40 := fun x hx => by
      rcases List.mem_append.1 hx with hx | hx
      · rcases sortR_mem hx with hx | hx
        · cases hx
        · exact hsz0 x (List.mem_of_mem_take hx)
      · exact hsz0 x (List.mem_of_mem_drop hx)
    refine LoopW.slotsM [true, true, true, true, false, false, false, false, true, true, false, false, false, false, false, false, false, false, false, false, false, false, false, false, false, false, false, false, false, false, false, false, false, false, false, false, false, false, false, false, false, false, false, false, false, false, false, false, false, false, false, false, false] (α := List Tx × Nat) (fun x => [(9, I x.2)]) (fun x => [(9000, .rows 1 (x.1.map Tx.row)), (9001, .box [Bo nums]), (9002, .box [Bo down])]) (fun x => x.2) (fun x => Mid (ltT nums down) (sortR (ltT nums down) (gs.take i)) gs[i] (gs.drop (i + 1)) x.1 x.2 ∧ ∀ x0 ∈ x.1, x0.size ≤ 40) (sortR (ltT nums down) (gs.take i) ++ gs.drop i, i) (by simp -implicitDefEqProofs only [go_sem, LeTs_undef, LeTs_same, LeTs_nil]; try simp [LeTs]) (by simp -implicitDefEqProofs only [go_sem]) ⟨hD0, hszS⟩ ?_
    rintro ⟨D, j⟩ ⟨hD, hsz⟩
    simp only at hD hsz
    have hl := hD.len
    rw [hDl, List.length_drop] at hl
    clear hD0
    simp -implicitDefEqProofs only [go_sem]
    cases j with
    | zero =>
      have e0 : decide (((0 : Nat) : Int) > 0) = false := by simp
      refine RegD_to sch_75_4 ?sx tysOk (by kernel_rfl) ?ga ?gb
      case ga => simp -implicitDefEqProofs only [go_sem, e0]; exact rfl
      simp -implicitDefEqProofs only [go_sem]
      have e := hD.end fun k h1 hk => by omega
      subst e
      refine .to [257, 258, 259] (i + 1) rfl ?_ ?_ (by omega) ⟨by omega, .inl (by omega)⟩
      · simp -implicitDefEqProofs only [go_sem, LeTs_undef, LeTs_same, LeTs_nil, wi]
      · simp -implicitDefEqProofs only [go_sem, sortR_take gs h]
    | succ j =>
      have hj1 : j + 1 < D.length := by omega
      have hj0 : j < D.length := by omega
      have e0 : decide (((j + 1 : Nat) : Int) > 0) = true := by simp
      have i1 : (0 : Int) ≤ ((j + 1 : Nat) : Int) := by omega
      have i2 : ((j + 1 : Nat) : Int) < D.length := by omega
      have i3 : (0 : Int) ≤ (j : Int) := by omega
      have i4 : (j : Int) < D.length := by omega
      have wj : IntKind.i64.wrap (((j + 1 : Nat) : Int) - 1) = (j : Int) := by rw [wrap64 (by omega) (by omega)]; omega
      have r1 := row_getD Tx.row D hj1
      have r0 := row_getD Tx.row D hj0
      obtain ⟨x1, hx1⟩ : ∃ x, x = D[j + 1] := ⟨_, rfl⟩
      obtain ⟨x0, hx0⟩ : ∃ x, x = D[j] := ⟨_, rfl⟩
      rw [← hx1] at r1
      rw [← hx0] at r0
      simp only [Tx.row] at r1 r0
      refine RegD_to sch_75_4 ?sx1 tysOk (by kernel_rfl) ?ga1 ?gb1
      case ga1 =>
        simp -implicitDefEqProofs only [go_sem, e0, i1, i2, i3, i4, wj, r0, r1]
        refine ⟨hj1, hj0, ?_⟩
        refine CallW.one (s_sortFn x1 x0 nums down (by have := hsz _ (List.getElem_mem hj1); rw [← hx1] at this; omega) (by have := hsz _ (List.getElem_mem hj0); rw [← hx0] at this; omega)) p_sortFn (by first | (simp -implicitDefEqProofs only [go_sem]; done) | ((conv => lhs; simp -implicitDefEqProofs only [go_sem]); done) | (simp -implicitDefEqProofs only [go_sem]; rfl) | rfl) (by first | trivial | (simp [DeepR, DeepV, DeepVs, DeepC, DeepCs, T.scal]; done)) ?_
        simp -implicitDefEqProofs only [go_sem, ← ltT_eq]
        exact rfl
      simp -implicitDefEqProofs only [go_sem]
      refine BrA_i (fun h2 => ?_) (fun h2 => ?_) <;> simp -implicitDefEqProofs only [go_sem]
      · have r01 := fun r => (set_getD_ne (l := List.map Tx.row D) (i := j) (k := j + 1) (by omega) r).trans r0
        refine RegD_to sch_75_6 ?sx2 tysOk (by kernel_rfl) ?ga2 ?gb2
        case ga2 =>
          simp -implicitDefEqProofs only [go_sem, i1, i2, i3, i4, wj, r0, r1, r01]
          refine ⟨hj0, hj1, hj1, hj0, ?_⟩
          exact rfl
        simp -implicitDefEqProofs only [go_sem, wj]
        refine .to [257, 258, 259] ((D.set (j + 1) D[j]).set j D[j + 1], j) rfl ?_ ?_ (by simp) ⟨(hD.step hj1 (by rw [← hx1, ← hx0]; exact h2)), fun x hx => (List.mem_or_eq_of_mem_set hx).elim (fun hx => (List.mem_or_eq_of_mem_set hx).elim (hsz x) (fun e => by rw [e]; exact hsz _ (List.getElem_mem hj0))) (fun e => by rw [e]; exact hsz _ (List.getElem_mem hj1))⟩
        · simp -implicitDefEqProofs only [go_sem, LeTs_undef, LeTs_same, LeTs_nil]
        · simp -implicitDefEqProofs only [go_sem, List.map_set, ← hx0, ← hx1, Tx.row]
      · have e := hD.end fun k h1 hk => by
          obtain rfl : k = j := by omega
          rw [← hx1, ← hx0]; exact h2
        clear r0 r1 hx0 hx1
        subst e
        refine .to [257, 258, 259] (i + 1) rfl ?_ ?_ (by omega) ⟨by omega, .inl (by omega)⟩
        · simp -implicitDefEqProofs only [go_sem, LeTs_undef, LeTs_same, LeTs_nil, wi]
        · simp -implicitDefEqProofs only [go_sem, sortR_take gs h]
  · have h : gs.length ≤ i := by simp at h; omega
    rw [List.take_of_length_le h, List.drop_eq_nil_of_le h, List.append_nil]
    exact ⟨(sortR_len gs).symm, rfl⟩
theorem p_stableTx : Plain Tryd.prog 63 := ⟨_, Tryd.func63, rfl, by decide⟩
theorem s_stableTx (nums down : Bool) (gs : List Tx) (hsz0 : ∀ x ∈ gs, x.size ≤ 40) (hs : gs.length < 20) : SpecO Tryd.prog 63 [.refw 9000, I gs.length, .fn 47 [.ptr 9001 0 0, .ptr 9002 0 0]] [(9000, .rows 1 (gs.map Tx.row)), (9001, .box [Bo nums]), (9002, .box [Bo down])] (fun r h => r = .tup [] ∧ h = [(9000, .rows 1 ((sortR (ltT nums down) gs).map Tx.row)), (9001, .box [Bo nums]), (9002, .box [Bo down])]) := by
  refine SpecO.of tysOk mixed Tryd.func63 rfl (by decide) ?_
  have hl : (sortR (ltT nums down) gs).length = gs.length := sortR_len gs
  have e0 : decide ((20 : Int) ≤ gs.length) = false := by simp; omega
  have e1 : decide ((20 : Int) < gs.length) = false := by simp; omega
  simp -implicitDefEqProofs only [go_sem, Tryd.f63]
  refine LoopW.slotsM [true, true, true, false, false, false, true, true, true, false, false, false, false, false, false, false, false, false, false, false, false, false, false, false, false, false, false, false, false, false, false, false, false, false, false, false, false, false, false, false, false, false, false, false, false, false, false, false, false, false, false, false, false, false, false, false, false, false, false, false, false, false, false] (α := Nat) (fun _ => []) (fun _ => []) (fun _ => 0) (fun _ => True) 0 (by simp -implicitDefEqProofs only [go_sem, LeTs_undef, LeTs_same, LeTs_nil]; try simp [LeTs]) rfl trivial ?_
  rintro _ _
  simp -implicitDefEqProofs only [go_sem, e0]
  refine CallW.o [(9000, 9000), (9001, 9001), (9002, 9002)] (s_insTx nums down gs hsz0 (by omega)) p_insTx o75 rfl (by (conv => lhs; simp -implicitDefEqProofs only [go_sem]) <;> rfl) (by (simp -implicitDefEqProofs only [go_sem]) <;> rfl) ?_
  rintro _ _ ⟨rfl, rfl⟩
  simp -implicitDefEqProofs only [go_sem]
  refine LoopW.slotsM [true, true, true, false, false, false, true, false, false, false, false, false, false, false, false, false, false, false, false, false, false, false, false, false, false, false, false, false, false, false, false, false, false, false, false, false, false, false, false, false, false, false, false, false, false, false, false, false, false, false, false, false, false, false, false, false, false, false, false, false, false, false, false] (α := Nat) (fun _ => []) (fun _ => []) (fun _ => 0) (fun _ => True) 0 (by simp -implicitDefEqProofs only [go_sem, LeTs_undef, LeTs_same, LeTs_nil]; try simp [LeTs]) rfl trivial ?_
  rintro _ _
  simp -implicitDefEqProofs only [go_sem, e1, hl]
theorem p_SortTx : Plain Tryd.prog 46 := ⟨_, Tryd.func46, rfl, by decide⟩
theorem s_SortTx (nums down : Bool) (gs : List Tx) (hsz0 : ∀ x ∈ gs, x.size ≤ 40) (hs : gs.length < 20) : SpecO Tryd.prog 46 [.refw 9000, .fn 47 [.ptr 9001 0 0, .ptr 9002 0 0]] [(9000, .rows 1 (gs.map Tx.row)), (9001, .box [Bo nums]), (9002, .box [Bo down])] (fun r h => r = .tup [] ∧ h = [(9000, .rows 1 ((sortR (ltT nums down) gs).map Tx.row)), (9001, .box [Bo nums]), (9002, .box [Bo down])]) := by
  refine SpecO.of tysOk mixed Tryd.func46 rfl (by decide) ?_
  have hl : (sortR (ltT nums down) gs).length = gs.length := sortR_len gs
  simp -implicitDefEqProofs only [go_sem, Tryd.f46]
  refine CallW.o [(9000, 9000), (9001, 9001), (9002, 9002)] (s_stableTx nums down gs hsz0 hs) p_stableTx o63 rfl (by (conv => lhs; simp -implicitDefEqProofs only [go_sem]) <;> rfl) (by (simp -implicitDefEqProofs only [go_sem]) <;> rfl) ?_
  rintro _ _ ⟨rfl, rfl⟩
  simp -implicitDefEqProofs only [go_sem, hl]
end Go.Proofs.YtgkmbbiebmamaaaDoor.Am
namespace Go.Proofs.YtgkmbbiebmamaaaDoor.Am
open Go
set_option maxRecDepth 100000
set_option maxHeartbeats 1000000
set_option linter.unusedSimpArgs false
set_option linter.unusedVariables false
noncomputable def lessT (nums : Bool) (x y : Tx) : Bool := if nums = true ∧ (intM x).1 ≠ (intM y).1 then decide ((intM x).1 < (intM y).1) else bytesLt x y
theorem p_l8Less : Plain Tryd.prog 42 := ⟨_, Tryd.func42, rfl, by decide⟩
theorem s_l8Less (x y : Tx) (nums : Bool) (hx : x.size ≤ 1099511627776) (hy : y.size ≤ 1099511627776) : Spec Tryd.prog 42 [.t (.str x), .t (.str y), Bo nums] (fun r => r = Bo (lessT nums x y)) := by
  refine Spec.of tysOk mixed Tryd.func42 rfl (by decide) ?_
  simp -implicitDefEqProofs only [go_sem, Tryd.f42]
  cases nums
  · simp -implicitDefEqProofs only [go_sem]
    simp [lessT]
  · simp -implicitDefEqProofs only [go_sem]
    refine CallW.one (s_sIntGet x hx) p_sIntGet (by first | (simp -implicitDefEqProofs only [go_sem]; done) | ((conv => lhs; simp -implicitDefEqProofs only [go_sem]); done) | (simp -implicitDefEqProofs only [go_sem]; rfl) | rfl) (by first | trivial | (simp [DeepR, DeepV, DeepVs, DeepC, DeepCs, T.scal]; done)) ?_
    simp -implicitDefEqProofs only [go_sem]
    refine CallW.one (s_sIntGet y hy) p_sIntGet (by first | (simp -implicitDefEqProofs only [go_sem]; done) | ((conv => lhs; simp -implicitDefEqProofs only [go_sem]); done) | (simp -implicitDefEqProofs only [go_sem]; rfl) | rfl) (by first | trivial | (simp [DeepR, DeepV, DeepVs, DeepC, DeepCs, T.scal]; done)) ?_
    simp -implicitDefEqProofs only [go_sem]
    refine BrA_i (fun h => ?_) (fun h => ?_) <;> simp -implicitDefEqProofs only [go_sem]
    · have h := of_decide_eq_true h
      simp [lessT, h]
    · have h := of_decide_eq_false h
      simp [lessT, h]
end Go.Proofs.YtgkmbbiebmamaaaDoor.Am
namespace Go.Proofs.YtgkmbbiebmamaaaDoor.Am
open Go
set_option maxRecDepth 100000
set_option maxHeartbeats 1000000
set_option linter.unusedSimpArgs false
set_option linter.unusedVariables false
noncomputable def plT (nums : Bool) : List Tx → Tx → Nat
  | [], _ => 0
  | y :: l, x => if lessT nums x y = true then 0 else plT nums l x + 1
noncomputable def insT (nums : Bool) (l : List Tx) (x : Tx) : List Tx := l.take (plT nums l x) ++ x :: l.drop (plT nums l x)
theorem plT_le (nums : Bool) : ∀ (l : List Tx) (x : Tx), plT nums l x ≤ l.length
  | [], _ => Nat.le_refl _
  | y :: l, x => by
    have := plT_le nums l x
    simp only [plT, List.length_cons]; split <;> omega
theorem plT_of {nums : Bool} {x : Tx} : ∀ {l : List Tx} {i : Nat}, i ≤ l.length → (∀ j (h : j < l.length), j < i → lessT nums x l[j] = false) → (∀ h : i < l.length, lessT nums x l[i] = true) → plT nums l x = i
  | [], i, hi, _, _ => by simp at hi; simp [plT, hi]
  | y :: l, 0, _, _, hs => by
    have := hs (by simp)
    simp only [List.getElem_cons_zero] at this
    simp [plT, this]
  | y :: l, i + 1, hi, hj, hs => by
    have h0 := hj 0 (by simp) (by omega)
    simp only [List.getElem_cons_zero] at h0
    simp only [plT, h0, Bool.false_eq_true, if_false]
    rw [plT_of (l := l) (i := i) (by simpa using hi) (fun j h hji => by have := hj (j + 1) (by simpa using h) (by omega); rwa [List.getElem_cons_succ] at this) (fun h => by have := hs (by simpa using h); rwa [List.getElem_cons_succ] at this)]
theorem insT_len (nums : Bool) (l : List Tx) (x : Tx) : (insT nums l x).length = l.length + 1 := by
  have := plT_le nums l x
  simp only [insT, List.length_append, List.length_take, List.length_cons, List.length_drop]; omega
theorem deep_txT (l : List Tx) : Deep (.list true 1 (l.map Tx.row)) := .list _ _ fun r hr x hx => by
  obtain ⟨y, _, rfl⟩ := List.mem_map.1 hr
  simp only [Tx.row, List.mem_cons, List.not_mem_nil, or_false] at hx
  subst hx; exact .sc _ trivial
theorem insT_mem {nums : Bool} {l : List Tx} {x y : Tx} (h : y ∈ insT nums l x) : y = x ∨ y ∈ l := by
  unfold insT at h
  rcases List.mem_append.1 h with h | h
  · exact .inr (List.mem_of_mem_take h)
  · rcases List.mem_cons.1 h with h | h
    · exact .inl h
    · exact .inr (List.mem_of_mem_drop h)
theorem fold_mem {nums : Bool} {y : Tx} : ∀ {l acc : List Tx}, y ∈ l.foldl (insT nums) acc → y ∈ acc ∨ y ∈ l
  | [], acc, h => .inl h
  | x :: l, acc, h => by
    rw [List.foldl_cons] at h
    rcases fold_mem h with h | h
    · rcases insT_mem h with h | h
      · exact .inr (by simp [h])
      · exact .inl h
    · exact .inr (by simp [h])
noncomputable def sortT (nums : Bool) (l : List Tx) : List Tx := l.foldl (insT nums) []
theorem sortT_len (nums : Bool) : ∀ (l acc : List Tx), (l.foldl (insT nums) acc).length = acc.length + l.length
  | [], acc => by simp
  | x :: l, acc => by rw [List.foldl_cons, sortT_len nums l, insT_len, List.length_cons]; omega
noncomputable def sortM (l : List Tx) (nums down : Bool) : List Tx × Bool :=
  if listOkM l = true then (if nums = true ∧ (l.all fun x => (intM x).2) = false then (l, false) else (if down = true then (sortT nums l).reverse else sortT nums l, true)) else ([], false)
abbrev sortTR (x : List Tx × Bool) : AV := .tup [.own (.list true 1 (x.1.map Tx.row)), Bo x.2]
theorem listOkM_len {l : List Tx} (h : listOkM l = true) : l.length ≤ 16 := by
  unfold listOkM textsOkM at h
  simp only [Bool.and_eq_true, decide_eq_true_eq] at h
  omega
theorem listOkM_at {l : List Tx} (h : listOkM l = true) {i : Nat} (hi : i < l.length) : l[i].size ≤ 40 := by
  unfold listOkM textsOkM at h
  simp only [Bool.and_eq_true, decide_eq_true_eq] at h
  have := List.all_eq_true.1 h.1 _ (List.getElem_mem hi)
  simpa [txOk] using this
theorem p_sListSort : Plain Tryd.prog 19 := ⟨_, Tryd.func19, rfl, by decide⟩
theorem s_sListSort (l : List Tx) (nums down : Bool) (hs : l.length ≤ 1048576) : Spec Tryd.prog 19 [.t (.list false 1 (l.map Tx.row)), Bo nums, Bo down] (fun r => r = sortTR (sortM l nums down)) := by
  refine Spec.of tysOk mixed Tryd.func19 rfl (by decide) ?_
  simp -implicitDefEqProofs only [go_sem, Tryd.f19]
  refine CallW.one (s_l2Texts l (by omega)) p_l2Texts (by first | (simp -implicitDefEqProofs only [go_sem]; done) | ((conv => lhs; simp -implicitDefEqProofs only [go_sem]); done) | (simp -implicitDefEqProofs only [go_sem]; rfl) | rfl) (by first | trivial | (simp [DeepR, DeepV, DeepVs, DeepC, DeepCs, T.scal]; done)) ?_
  cases hok : listOkM l
  · simp -implicitDefEqProofs only [go_sem, hok, Bool.not_false]
    simp [sortM, hok]
  have h16 := listOkM_len hok
  simp -implicitDefEqProofs only [go_sem, hok, Bool.not_true]
  refine LoopW.slotsM [true, true, true, false, false, false, false, false, true, true, false, false, false, false, false, false, false, false, false, false, false, false, false, false, false, false, false, false, false, false, false, false, false, false, false, false, false, false, false, false, false, false, false, false, false, false, false, false, false, false, false, false, false, false, false, false, false, false, false, false, false, false, false, false, false, false, false, false, false, false, false, false, false, false, false, false, false] (α := Nat) (fun i => [(9, I i)]) (fun i => [(104, .rows 1 (((l.take i).foldl (insT nums) []).map Tx.row))]) (fun i => l.length - i) (fun i => i ≤ l.length ∧ (nums = true → ∀ j (h : j < l.length), j < i → (intM l[j]).2 = true)) 0 (by simp -implicitDefEqProofs only [go_sem, LeTs_undef, LeTs_same, LeTs_nil]; try simp [LeTs]) rfl ⟨by omega, fun _ _ _ h => by omega⟩ ?_
  rintro i ⟨hi, hz⟩
  simp -implicitDefEqProofs only [go_sem]
  refine BrA_i (fun h => ?_) (fun h => ?_) <;> simp -implicitDefEqProofs only [go_sem]
  · skip
    have h : i < l.length := by simp at h; omega
    have h0i : (0 : Int) ≤ i := by omega
    have h1i : (i : Int) < l.length := by omega
    have wi : IntKind.i64.wrap ((i : Int) + 1) = ((i + 1 : Nat) : Int) := by rw [wrap64 (by omega) (by omega)]; omega
    have hr := row_getD Tx.row l h
    simp only [Tx.row] at hr
    have h40 := listOkM_at hok h
    obtain ⟨acc, hacc⟩ : ∃ acc, acc = (l.take i).foldl (insT nums) [] := ⟨_, rfl⟩
    have hal : acc.length = i := by rw [hacc, sortT_len, List.length_take]; simp; omega
    rw [← hacc]
    simp -implicitDefEqProofs only [go_sem, h, h0i, h1i, hr]
    refine CallW.one (s_sIntGet (l[i]) (by omega)) p_sIntGet (by first | (simp -implicitDefEqProofs only [go_sem]; done) | ((conv => lhs; simp -implicitDefEqProofs only [go_sem]); done) | (simp -implicitDefEqProofs only [go_sem]; rfl) | rfl) (by first | trivial | (simp [DeepR, DeepV, DeepVs, DeepC, DeepCs, T.scal]; done)) ?_
    have all : nums = true → (intM l[i]).2 = true → ∀ j (h : j < l.length), j < i + 1 → (intM l[j]).2 = true := fun hn hi2 j h5 h6 => by
      by_cases e : j < i
      · exact hz hn j h5 e
      · obtain rfl : j = i := by omega
        exact hi2
    have bad : nums = true → (intM l[i]).2 = false → sortM l nums down = (l, false) := fun hn hf => by
      have hall : (l.all fun x => (intM x).2) = false := by
        rw [← Bool.not_eq_true, List.all_eq_true]
        intro hc
        have := hc _ (List.getElem_mem h)
        rw [hf] at this; cases this
      unfold sortM
      rw [if_pos hok, if_pos ⟨hn, hall⟩]
    have next : (nums = true → (intM l[i]).2 = true) → ∀ j (h : j < l.length), nums = true → j < i + 1 → (intM l[j]).2 = true := fun hh j h5 hn h6 => all hn (hh hn) j h5 h6
    obtain ⟨b, hb⟩ : ∃ b, b = (intM l[i]).2 := ⟨_, rfl⟩
    rw [← hb] at bad next ⊢
    clear all hb
    cases nums
    · simp -implicitDefEqProofs only [go_sem]
      have nx := next (by simp)
      have hmx : ∀ x ∈ acc, x.size ≤ 40 := by
        rw [hacc]
        intro x hx
        rcases fold_mem hx with hm | hm
        · cases hm
        · obtain ⟨q, hq, e⟩ := List.getElem_of_mem (List.mem_of_mem_take hm)
          have := listOkM_at hok hq
          rw [e] at this; exact this
      have hsz : ∀ (j : Nat) (hj : j < acc.length), acc[j].size ≤ 40 := fun j hj => hmx _ (List.getElem_mem hj)
      clear bad next
      refine LoopW.slotsM [true, true, true, false, false, false, false, false, true, true, false, false, true, false, false, false, false, false, false, false, false, false, false, false, false, false, false, false, false, false, false, false, false, false, false, false, false, false, false, false, false, false, false, false, false, false, false, false, false, false, false, false, false, false, false, false, false, false, false, false, false, false, false, false, false, false, false, false, false, false, false, false, false, false, false, false, false] (α := Nat) (fun k => [(12, I k)]) (fun k => [(104, .rows 1 (acc.map Tx.row))]) (fun k => acc.length - k) (fun k => k ≤ acc.length ∧ ∀ j (h : j < acc.length), j < k → lessT false l[i] acc[j] = false) 0 (by simp -implicitDefEqProofs only [go_sem, LeTs_undef, LeTs_same, LeTs_nil]; try simp [LeTs]) rfl ⟨by omega, fun _ _ h => by omega⟩ ?_
      rintro k ⟨hk, hj⟩
      have h0k : (0 : Int) ≤ k := by omega
      have hkl : (k : Int) ≤ acc.length := by omega
      have wk : IntKind.i64.wrap ((k : Int) + 1) = ((k + 1 : Nat) : Int) := by rw [wrap64 (by omega) (by omega)]; omega
      have e1 : sharedRows (List.take (k - Int.toNat 0) (List.drop (Int.toNat 0) (List.map Tx.row acc))) = (acc.take k).map Tx.row := by
        rw [show Int.toNat 0 = 0 from rfl, Nat.sub_zero, List.drop_zero, ← List.map_take, shared_Tx]
      have e2 : sharedRows (List.take (acc.length - k) (List.drop k (List.map Tx.row acc))) = (acc.drop k).map Tx.row := by
        rw [← List.map_drop, List.take_of_length_le (by simp), shared_Tx]
      have fin : plT false acc l[i] = k → (acc.take k).map Tx.row ++ [[T.str l[i]]] ++ (acc.drop k).map Tx.row = (insT false acc l[i]).map Tx.row := fun e => by
        rw [insT, e, List.map_append, List.map_cons, List.append_assoc]; rfl
      have ef : (l.take (i + 1)).foldl (insT false) [] = insT false acc l[i] := by
        rw [List.take_add_one, List.getElem?_eq_getElem h, List.foldl_append, ← hacc]; rfl
      simp -implicitDefEqProofs only [go_sem]
      refine RegD_of sch_19_11 tysOk (by kernel_rfl) ?_
      simp -implicitDefEqProofs only [go_sem]
      refine BrA_i (fun h5 => ?_) (fun h5 => ?_) <;> simp -implicitDefEqProofs only [go_sem, h0i, h1i, hr]
      · have h5 : k < acc.length := by have := of_decide_eq_true h5; omega
        have h1k : (k : Int) < acc.length := by omega
        have hrk := row_getD Tx.row acc h5
        simp only [Tx.row] at hrk
        simp -implicitDefEqProofs only [go_sem, h5, h0k, h1k, hrk, h0i, h1i, hr]
        refine CallW.one (s_l8Less (l[i]) (acc[k]) false (by omega) (by have := hsz k h5; omega)) p_l8Less (by first | (simp -implicitDefEqProofs only [go_sem]; done) | ((conv => lhs; simp -implicitDefEqProofs only [go_sem]); done) | (simp -implicitDefEqProofs only [go_sem]; rfl) | rfl) (by first | trivial | (simp [DeepR, DeepV, DeepVs, DeepC, DeepCs, T.scal]; done)) ?_
        cases g : lessT false l[i] acc[k]
        · simp -implicitDefEqProofs only [go_sem, Bool.not_false, wk]
          refine .to [425, 426, 427] (k + 1) rfl ?_ ?_ (by omega) ⟨by omega, fun j hj2 hj3 => by
            by_cases hji : j < k
            · exact hj j hj2 hji
            · obtain rfl : j = k := by omega
              exact g⟩ <;> simp -implicitDefEqProofs only [go_sem, LeTs_undef, LeTs_same, LeTs_nil, wk]
        · simp -implicitDefEqProofs only [go_sem, Bool.not_true]
          have e3 := fin (plT_of hk hj (fun _ => g))
          refine RegD_of sch_19_13 tysOk (by kernel_rfl) ?_
          simp -implicitDefEqProofs only [go_sem, h0k, hkl, h0i, h1i, hr, e1, e2, e3]
          refine ⟨by omega, by unfold roomy; simp; omega, by unfold roomy; simp; omega, by unfold roomy; simp; omega, ?_⟩
          simp -implicitDefEqProofs only [go_sem, wi]
          refine .toR [104] [(464, 104)] (i + 1) rfl rfl ?_ ?_ (by omega) ⟨by omega, fun hn j hj hlt => nx j hj (by first | exact hn.elim | rfl) hlt⟩
          · simp -implicitDefEqProofs only [go_sem, LeTs_undef, LeTs_same, LeTs_nil]
          · simp -implicitDefEqProofs only [go_sem, ef]
      · have h5 : k = acc.length := by have := of_decide_eq_false h5; omega
        have e3 := fin (plT_of hk hj (fun h => by omega))
        refine RegD_of sch_19_13 tysOk (by kernel_rfl) ?_
        simp -implicitDefEqProofs only [go_sem, h0k, hkl, h0i, h1i, hr, e1, e2, e3]
        refine ⟨by omega, by unfold roomy; simp; omega, by unfold roomy; simp; omega, by unfold roomy; simp; omega, ?_⟩
        simp -implicitDefEqProofs only [go_sem, wi]
        refine .toR [104] [(464, 104)] (i + 1) rfl rfl ?_ ?_ (by omega) ⟨by omega, fun hn j hj hlt => nx j hj (by first | exact hn.elim | rfl) hlt⟩
        · simp -implicitDefEqProofs only [go_sem, LeTs_undef, LeTs_same, LeTs_nil]
        · simp -implicitDefEqProofs only [go_sem, ef]
    · cases b
      · simp -implicitDefEqProofs only [go_sem, Bool.not_false]
        refine CallW.onep (s_l2Copy l hs) p_l2Copy (by first | (simp -implicitDefEqProofs only [go_sem]; done) | ((conv => lhs; simp -implicitDefEqProofs only [go_sem]); done) | (simp -implicitDefEqProofs only [go_sem]; rfl) | rfl) rfl ?_
        rw [bad rfl rfl]
        simp -implicitDefEqProofs only [go_sem]
      · simp -implicitDefEqProofs only [go_sem, Bool.not_true]
        have nx := next (by simp)
        have hmx : ∀ x ∈ acc, x.size ≤ 40 := by
          rw [hacc]
          intro x hx
          rcases fold_mem hx with hm | hm
          · cases hm
          · obtain ⟨q, hq, e⟩ := List.getElem_of_mem (List.mem_of_mem_take hm)
            have := listOkM_at hok hq
            rw [e] at this; exact this
        have hsz : ∀ (j : Nat) (hj : j < acc.length), acc[j].size ≤ 40 := fun j hj => hmx _ (List.getElem_mem hj)
        clear bad next
        refine LoopW.slotsM [true, true, true, false, false, false, false, false, true, true, false, false, true, false, false, false, false, false, false, false, false, false, false, false, false, false, false, false, false, false, false, false, false, false, false, false, false, false, false, false, false, false, false, false, false, false, false, false, false, false, false, false, false, false, false, false, false, false, false, false, false, false, false, false, false, false, false, false, false, false, false, false, false, false, false, false, false] (α := Nat) (fun k => [(12, I k)]) (fun k => [(104, .rows 1 (acc.map Tx.row))]) (fun k => acc.length - k) (fun k => k ≤ acc.length ∧ ∀ j (h : j < acc.length), j < k → lessT true l[i] acc[j] = false) 0 (by simp -implicitDefEqProofs only [go_sem, LeTs_undef, LeTs_same, LeTs_nil]; try simp [LeTs]) rfl ⟨by omega, fun _ _ h => by omega⟩ ?_
        rintro k ⟨hk, hj⟩
        have h0k : (0 : Int) ≤ k := by omega
        have hkl : (k : Int) ≤ acc.length := by omega
        have wk : IntKind.i64.wrap ((k : Int) + 1) = ((k + 1 : Nat) : Int) := by rw [wrap64 (by omega) (by omega)]; omega
        have e1 : sharedRows (List.take (k - Int.toNat 0) (List.drop (Int.toNat 0) (List.map Tx.row acc))) = (acc.take k).map Tx.row := by
          rw [show Int.toNat 0 = 0 from rfl, Nat.sub_zero, List.drop_zero, ← List.map_take, shared_Tx]
        have e2 : sharedRows (List.take (acc.length - k) (List.drop k (List.map Tx.row acc))) = (acc.drop k).map Tx.row := by
          rw [← List.map_drop, List.take_of_length_le (by simp), shared_Tx]
        have fin : plT true acc l[i] = k → (acc.take k).map Tx.row ++ [[T.str l[i]]] ++ (acc.drop k).map Tx.row = (insT true acc l[i]).map Tx.row := fun e => by
          rw [insT, e, List.map_append, List.map_cons, List.append_assoc]; rfl
        have ef : (l.take (i + 1)).foldl (insT true) [] = insT true acc l[i] := by
          rw [List.take_add_one, List.getElem?_eq_getElem h, List.foldl_append, ← hacc]; rfl
        simp -implicitDefEqProofs only [go_sem]
        refine RegD_of sch_19_11 tysOk (by kernel_rfl) ?_
        simp -implicitDefEqProofs only [go_sem]
        refine BrA_i (fun h5 => ?_) (fun h5 => ?_) <;> simp -implicitDefEqProofs only [go_sem, h0i, h1i, hr]
        · have h5 : k < acc.length := by have := of_decide_eq_true h5; omega
          have h1k : (k : Int) < acc.length := by omega
          have hrk := row_getD Tx.row acc h5
          simp only [Tx.row] at hrk
          simp -implicitDefEqProofs only [go_sem, h5, h0k, h1k, hrk, h0i, h1i, hr]
          refine CallW.one (s_l8Less (l[i]) (acc[k]) true (by omega) (by have := hsz k h5; omega)) p_l8Less (by first | (simp -implicitDefEqProofs only [go_sem]; done) | ((conv => lhs; simp -implicitDefEqProofs only [go_sem]); done) | (simp -implicitDefEqProofs only [go_sem]; rfl) | rfl) (by first | trivial | (simp [DeepR, DeepV, DeepVs, DeepC, DeepCs, T.scal]; done)) ?_
          cases g : lessT true l[i] acc[k]
          · simp -implicitDefEqProofs only [go_sem, Bool.not_false, wk]
            refine .to [425, 426, 427] (k + 1) rfl ?_ ?_ (by omega) ⟨by omega, fun j hj2 hj3 => by
              by_cases hji : j < k
              · exact hj j hj2 hji
              · obtain rfl : j = k := by omega
                exact g⟩ <;> simp -implicitDefEqProofs only [go_sem, LeTs_undef, LeTs_same, LeTs_nil, wk]
          · simp -implicitDefEqProofs only [go_sem, Bool.not_true]
            have e3 := fin (plT_of hk hj (fun _ => g))
            refine RegD_of sch_19_13 tysOk (by kernel_rfl) ?_
            simp -implicitDefEqProofs only [go_sem, h0k, hkl, h0i, h1i, hr, e1, e2, e3]
            refine ⟨by omega, by unfold roomy; simp; omega, by unfold roomy; simp; omega, by unfold roomy; simp; omega, ?_⟩
            simp -implicitDefEqProofs only [go_sem, wi]
            refine .toR [104] [(464, 104)] (i + 1) rfl rfl ?_ ?_ (by omega) ⟨by omega, fun hn j hj hlt => nx j hj (by first | exact hn.elim | rfl) hlt⟩
            · simp -implicitDefEqProofs only [go_sem, LeTs_undef, LeTs_same, LeTs_nil]
            · simp -implicitDefEqProofs only [go_sem, ef]
        · have h5 : k = acc.length := by have := of_decide_eq_false h5; omega
          have e3 := fin (plT_of hk hj (fun h => by omega))
          refine RegD_of sch_19_13 tysOk (by kernel_rfl) ?_
          simp -implicitDefEqProofs only [go_sem, h0k, hkl, h0i, h1i, hr, e1, e2, e3]
          refine ⟨by omega, by unfold roomy; simp; omega, by unfold roomy; simp; omega, by unfold roomy; simp; omega, ?_⟩
          simp -implicitDefEqProofs only [go_sem, wi]
          refine .toR [104] [(464, 104)] (i + 1) rfl rfl ?_ ?_ (by omega) ⟨by omega, fun hn j hj hlt => nx j hj (by first | exact hn.elim | rfl) hlt⟩
          · simp -implicitDefEqProofs only [go_sem, LeTs_undef, LeTs_same, LeTs_nil]
          · simp -implicitDefEqProofs only [go_sem, ef]
  · have h : i = l.length := by have := of_decide_eq_false h; omega
    subst h
    have hsrt : sortM l nums down = (if down = true then (sortT nums l).reverse else sortT nums l, true) := by
      unfold sortM
      rw [if_pos hok, if_neg]
      rintro ⟨hn, hf⟩
      rw [← Bool.not_eq_true, List.all_eq_true] at hf
      refine hf fun x hx => ?_
      obtain ⟨q, hq, e⟩ := List.getElem_of_mem hx
      rw [← e]; exact hz hn q hq hq
    rw [hsrt, List.take_length]
    have hlen : (sortT nums l).length ≤ 1048576 := by rw [sortT, sortT_len]; simp; omega
    rw [show l.foldl (insT nums) [] = sortT nums l from rfl]
    cases down
    · simp -implicitDefEqProofs only [go_sem]
    · simp -implicitDefEqProofs only [go_sem]
      refine CallW.one (s_l2Turn (sortT nums l) hlen) p_l2Turn (by first | (simp -implicitDefEqProofs only [go_sem]; done) | ((conv => lhs; simp -implicitDefEqProofs only [go_sem]); done) | (simp -implicitDefEqProofs only [go_sem]; rfl) | rfl) (deep_txT _) ?_
      simp -implicitDefEqProofs only [go_sem]
end Go.Proofs.YtgkmbbiebmamaaaDoor.Am
namespace Go.Proofs.YtgkmbbiebmamaaaDoor.Am
open Go
set_option maxRecDepth 100000
set_option maxHeartbeats 1000000
set_option linter.unusedSimpArgs false
set_option linter.unusedVariables false
theorem p_ListSort : Plain Tryd.prog 21 := ⟨_, Tryd.func21, rfl, by decide⟩
theorem s_ListSort (l : List Tx) (nums down : Bool) (hs : l.length ≤ 1048576) : Spec Tryd.prog 21 [.t (.list false 1 (l.map Tx.row)), Bo nums, Bo down] (fun r => r = sortTR (if listOkM l = true then (if nums = true ∧ (l.all fun x => (intM x).2) = false then (l, false) else (sortR (ltT nums down) l, true)) else ([], false))) := by
  refine Spec.of tysOk mixed Tryd.func21 rfl (by decide) ?_
  simp -implicitDefEqProofs only [go_sem, Tryd.f21]
  refine CallW.one (s_listOk l (by omega)) p_listOk (by first | (simp -implicitDefEqProofs only [go_sem]; done) | ((conv => lhs; simp -implicitDefEqProofs only [go_sem]); done) | (simp -implicitDefEqProofs only [go_sem]; rfl) | rfl) (by first | trivial | (simp [DeepR, DeepV, DeepVs, DeepC, DeepCs, T.scal]; done)) ?_
  cases hok : listOkM l
  · simp -implicitDefEqProofs only [go_sem, Bool.not_false]
    simp
  have h16 := listOkM_len hok
  simp -implicitDefEqProofs only [go_sem, Bool.not_true]
  refine CallW.one (s_copied l hs) p_copied (by first | (simp -implicitDefEqProofs only [go_sem]; done) | ((conv => lhs; simp -implicitDefEqProofs only [go_sem]); done) | (simp -implicitDefEqProofs only [go_sem]; rfl) | rfl) (deep_txT _) ?_
  simp -implicitDefEqProofs only [go_sem]
  have hsz : ∀ x ∈ l, x.size ≤ 40 := fun x hx => by
    obtain ⟨q, hq, e⟩ := List.getElem_of_mem hx
    rw [← e]; exact listOkM_at hok hq
  cases nums
  · simp -implicitDefEqProofs only [go_sem]
    refine CallW.o [(9000, 145), (9001, 32), (9002, 40)] (s_SortTx false down l hsz (by omega)) p_SortTx o46 rfl (by (conv => lhs; simp -implicitDefEqProofs only [go_sem]) <;> rfl) (by (simp -implicitDefEqProofs only [go_sem]) <;> rfl) ?_
    rintro _ _ ⟨rfl, rfl⟩
    simp -implicitDefEqProofs only [go_sem]
    simp
  · simp -implicitDefEqProofs only [go_sem]
    refine LoopW.slotsM [false, false, false, false, true, true, false, false, true, false, false, false, false, false, false, false, false, false, false, false, true, true, true, false, false, false, false, false, false, false, false, false, false, false, false, false, false, false, false] (α := Nat) (fun i => [(22, I i)]) (fun i => [(145, .rows 1 (l.map Tx.row)), (32, .box [Bo true]), (40, .box [Bo down])]) (fun i => l.length - i) (fun i => i ≤ l.length ∧ ∀ j (h : j < l.length), j < i → (intM l[j]).2 = true) 0 (by simp -implicitDefEqProofs only [go_sem, LeTs_undef, LeTs_same, LeTs_nil]; try simp [LeTs]) rfl ⟨by omega, fun _ _ h => by omega⟩ ?_
    rintro i ⟨hi, hz⟩
    simp -implicitDefEqProofs only [go_sem]
    refine BrA_i (fun h => ?_) (fun h => ?_) <;> simp -implicitDefEqProofs only [go_sem]
    · skip
      have h : i < l.length := by simp at h; omega
      have h0i : (0 : Int) ≤ i := by omega
      have h1i : (i : Int) < l.length := by omega
      have wi : IntKind.i64.wrap ((i : Int) + 1) = ((i + 1 : Nat) : Int) := by rw [wrap64 (by omega) (by omega)]; omega
      have hr := row_getD Tx.row l h
      simp only [Tx.row] at hr
      have h40 := listOkM_at hok h
      simp -implicitDefEqProofs only [go_sem, h, h0i, h1i, hr]
      refine CallW.one (s_IntGet (l[i]) (by omega)) p_IntGet (by first | (simp -implicitDefEqProofs only [go_sem]; done) | ((conv => lhs; simp -implicitDefEqProofs only [go_sem]); done) | (simp -implicitDefEqProofs only [go_sem]; rfl) | rfl) (by first | trivial | (simp [DeepR, DeepV, DeepVs, DeepC, DeepCs, T.scal]; done)) ?_
      cases hb : (intM l[i]).2
      · simp -implicitDefEqProofs only [go_sem, Bool.not_false]
        have hall : (l.all fun x => (intM x).2) = false := by
          rw [← Bool.not_eq_true, List.all_eq_true]
          intro hc
          have := hc _ (List.getElem_mem h)
          rw [hb] at this; cases this
        simp [hall]
      · simp -implicitDefEqProofs only [go_sem, Bool.not_true, wi]
        refine .to [225, 226, 227] (i + 1) rfl ?_ ?_ (by omega) ⟨by omega, fun j hj2 hj3 => by
          by_cases hji : j < i
          · exact hz j hj2 hji
          · obtain rfl : j = i := by omega
            exact hb⟩
        · simp -implicitDefEqProofs only [go_sem, LeTs_undef, LeTs_same, LeTs_nil, wi]
        · first | rfl | simp -implicitDefEqProofs only [go_sem, wi]
    · have h : i = l.length := by have := of_decide_eq_false h; omega
      have hall : (l.all fun x => (intM x).2) = true := by
        rw [List.all_eq_true]
        intro x hx
        obtain ⟨q, hq, e⟩ := List.getElem_of_mem hx
        rw [← e]; exact hz q hq (by omega)
      refine CallW.o [(9000, 145), (9001, 32), (9002, 40)] (s_SortTx true down l hsz (by omega)) p_SortTx o46 rfl (by (conv => lhs; simp -implicitDefEqProofs only [go_sem]) <;> rfl) (by (simp -implicitDefEqProofs only [go_sem]) <;> rfl) ?_
      rintro _ _ ⟨rfl, rfl⟩
      simp -implicitDefEqProofs only [go_sem]
      simp [hall]
end Go.Proofs.YtgkmbbiebmamaaaDoor.Am
namespace Go.Proofs.YtgkmbbiebmamaaaDoor.Am
open Go
set_option linter.unusedVariables false
set_option linter.unusedSimpArgs false
theorem intM_back {s : ByteArray} (h : (intM s).2 = true) : itoaB (intM s).1 = s := by
  by_cases hn : ∀ n, withinM n (-1000000000) 1000000000 = true → itoaB n ≠ s
  · rw [intM_no hn] at h; cases h
  · have ⟨n, hh⟩ := Classical.not_forall.1 hn
    have ⟨h1, h2⟩ : withinM n (-1000000000) 1000000000 = true ∧ itoaB n = s := by
      constructor
      · exact Classical.byContradiction fun hc => hh fun h => absurd h hc
      · exact Classical.byContradiction fun hc => hh fun _ => hc
    subst h2
    rw [intM_yes h1]
theorem intM_inj {a b : ByteArray} (ha : (intM a).2 = true) (hb : (intM b).2 = true) (h : (intM a).1 = (intM b).1) : a = b := by
  rw [← intM_back ha, ← intM_back hb, h]
theorem lessT_irrefl (nums : Bool) (x : Tx) : lessT nums x x = false := by
  unfold lessT; rw [if_neg (fun h => h.2 rfl)]; exact bytesLt_irrefl x
theorem lessT_trans {nums : Bool} {x y z : Tx} (h : lessT nums x y = true) (h' : lessT nums y z = true) : lessT nums x z = true := by
  unfold lessT at h h' ⊢
  by_cases hn : nums = true
  · simp only [hn, true_and] at h h' ⊢
    by_cases e1 : (intM x).1 = (intM y).1
    · by_cases e2 : (intM y).1 = (intM z).1
      · rw [if_neg (fun hh => hh e1)] at h
        rw [if_neg (fun hh => hh e2)] at h'
        rw [if_neg (fun hh => hh (e1.trans e2))]
        exact bytesLt_trans h h'
      · rw [if_pos e2] at h'
        rw [e1, if_pos e2]; exact h'
    · rw [if_pos e1] at h
      have h := of_decide_eq_true h
      by_cases e2 : (intM y).1 = (intM z).1
      · rw [if_pos (by omega)]; exact decide_eq_true (by omega)
      · rw [if_pos e2] at h'
        have h' := of_decide_eq_true h'
        rw [if_pos (by omega)]; exact decide_eq_true (by omega)
  · rw [if_neg (fun hh => hn hh.1)] at h h' ⊢
    exact bytesLt_trans h h'
theorem lessT_total {nums : Bool} {x y : Tx} (hne : x ≠ y) (h : lessT nums x y = false) : lessT nums y x = true := by
  unfold lessT at h ⊢
  by_cases e : nums = true ∧ (intM x).1 ≠ (intM y).1
  · rw [if_pos e] at h
    rw [if_pos ⟨e.1, fun hh => e.2 hh.symm⟩]
    have h := of_decide_eq_false h
    have := e.2
    exact decide_eq_true (by omega)
  · rw [if_neg e] at h
    rw [if_neg (fun hh => e ⟨hh.1, fun h2 => hh.2 h2.symm⟩)]
    exact bytesLt_total hne h
theorem lessT_asymm {nums : Bool} {x y : Tx} (h : lessT nums x y = true) : lessT nums y x = false := by
  rw [← Bool.not_eq_true]; intro h'
  have := lessT_trans h h'
  rw [lessT_irrefl] at this; cases this
theorem insT_cons (nums : Bool) (y : Tx) (l : List Tx) (x : Tx) : insT nums (y :: l) x = if lessT nums x y = true then x :: y :: l else y :: insT nums l x := by
  unfold insT
  simp only [plT]
  split
  · simp
  · simp
theorem insT_perm (nums : Bool) (l : List Tx) (x : Tx) : (insT nums l x).Perm (x :: l) := by
  unfold insT
  refine List.perm_middle.trans ?_
  rw [List.take_append_drop]
theorem foldT_perm (nums : Bool) : ∀ (l acc : List Tx), (l.foldl (insT nums) acc).Perm (acc ++ l)
  | [], acc => by simp
  | x :: l, acc => by
    rw [List.foldl_cons]
    refine (foldT_perm nums l _).trans ?_
    refine ((insT_perm nums acc x).append_right l).trans ?_
    exact List.perm_middle.symm
theorem sortT_perm (nums : Bool) (l : List Tx) : (sortT nums l).Perm l := by
  have := foldT_perm nums l []
  rwa [List.nil_append] at this
def UpT (nums : Bool) (l : List Tx) : Prop := l.Pairwise fun a b => lessT nums b a = false
theorem insT_up {nums : Bool} {x : Tx} : ∀ {l : List Tx}, UpT nums l → UpT nums (insT nums l x)
  | [], _ => by
    have : insT nums [] x = [x] := by simp [insT, plT]
    rw [this]; exact List.pairwise_singleton _ _
  | y :: l, h => by
    have ⟨h1, h2⟩ := List.pairwise_cons.1 h
    rw [insT_cons]
    split
    · rename_i hl
      refine List.pairwise_cons.2 ⟨fun z hz => ?_, h⟩
      rcases List.mem_cons.1 hz with rfl | hz
      · exact lessT_asymm hl
      · rw [← Bool.not_eq_true]; intro hzx
        have := lessT_trans hzx hl
        rw [h1 z hz] at this; cases this
    · rename_i hl
      refine List.pairwise_cons.2 ⟨fun z hz => ?_, insT_up h2⟩
      rcases insT_mem hz with rfl | hz
      · exact Bool.not_eq_true _ ▸ hl
      · exact h1 z hz
theorem foldT_up {nums : Bool} : ∀ {l acc : List Tx}, UpT nums acc → UpT nums (l.foldl (insT nums) acc)
  | [], _, h => h
  | x :: l, acc, h => by rw [List.foldl_cons]; exact foldT_up (insT_up h)
theorem sortT_up (nums : Bool) (l : List Tx) : UpT nums (sortT nums l) := foldT_up List.Pairwise.nil
noncomputable def ordT (nums down : Bool) (x y : Tx) : Bool := if down = true then lessT nums y x else lessT nums x y
theorem ordT_asymm {nums down : Bool} {x y : Tx} (h : ordT nums down x y = true) : ordT nums down y x = false := by
  unfold ordT at *
  cases down
  · simp only [Bool.false_eq_true, if_false] at *; exact lessT_asymm h
  · simp only [if_true] at *; exact lessT_asymm h
theorem ordT_neg {nums down : Bool} {x y z : Tx} (h : ordT nums down x y = false) (h' : ordT nums down y z = false) : ordT nums down x z = false := by
  rw [← Bool.not_eq_true]; intro hc
  unfold ordT at *
  cases down
  · simp only [Bool.false_eq_true, if_false] at *
    by_cases e : y = z
    · subst e; rw [h] at hc; cases hc
    · have := lessT_trans hc (lessT_total e h')
      rw [h] at this; cases this
  · simp only [if_true] at *
    by_cases e : z = y
    · subst e; rw [h] at hc; cases hc
    · have := lessT_trans (lessT_total e h') hc
      rw [h] at this; cases this
theorem ltT_ord {nums down : Bool} {x y : Tx} (hx : nums = true → (intM x).2 = true) (hy : nums = true → (intM y).2 = true) : ltT nums down x y = ordT nums down x y := by
  rw [ltT_eq]
  unfold cmpT ordT lessT
  cases nums
  · simp only [Bool.false_eq_true, if_false, false_and]
    cases down
    · simp only [Bool.false_eq_true, if_false]; exact cmpS_lt x y
    · simp only [if_true]
      have h2 := cmpS_lt x y
      by_cases e : x = y
      · subst e; rw [cmpS_refl, bytesLt_irrefl]; rfl
      · cases hb : bytesLt y x
        · have := bytesLt_total (Ne.symm e) hb
          have h3 : cmpS x y < 0 := by rw [this] at h2; exact of_decide_eq_true h2
          exact decide_eq_false (by omega)
        · have h4 : cmpS x y = 1 := by
            unfold cmpS
            rw [if_neg (by intro hh; have := bytesLt_trans hh hb; rw [bytesLt_irrefl] at this; cases this), if_neg e]
          rw [h4]; rfl
  · simp only [if_true, true_and]
    have hx := hx rfl
    have hy := hy rfl
    by_cases e : (intM x).1 = (intM y).1
    · have := intM_inj hx hy e
      subst this
      simp only [ne_eq, not_true, if_false, bytesLt_irrefl]
      have : cmpM (intM x).1 (intM x).1 = 0 := by unfold cmpM; simp
      rw [this]
      cases down <;> rfl
    · have e' : ¬ (intM y).1 = (intM x).1 := fun hh => e hh.symm
      simp only [ne_eq, e, e', not_false_iff, if_true]
      cases down
      · simp only [Bool.false_eq_true, if_false]
        unfold cmpM
        split <;> simp_all <;> omega
      · simp only [if_true]
        unfold cmpM
        split <;> simp_all <;> omega
theorem insB_congr {α : Type} {lt lt' : α → α → Bool} {x : α} : ∀ {l : List α}, (∀ y ∈ l, lt x y = lt' x y) → insB lt x l = insB lt' x l
  | [], _ => rfl
  | y :: l, h => by
    simp only [insB]
    rw [h y (by simp), insB_congr (l := l) fun z hz => h z (by simp [hz])]
theorem foldR_congr {α : Type} {lt lt' : α → α → Bool} {S : α → Prop} (h : ∀ x y, S x → S y → lt x y = lt' x y) : ∀ {l acc : List α}, (∀ x ∈ l, S x) → (∀ x ∈ acc, S x) → l.foldl (insR lt) acc = l.foldl (insR lt') acc
  | [], _, _, _ => rfl
  | x :: l, acc, hl, ha => by
    have e : insR lt acc x = insR lt' acc x := by
      unfold insR
      rw [insB_congr fun y hy => h x y (hl x (by simp)) (ha y (by simpa using hy))]
    rw [List.foldl_cons, List.foldl_cons, e]
    refine foldR_congr h (fun y hy => hl y (by simp [hy])) fun y hy => ?_
    unfold insR at hy
    rcases insB_mem (List.mem_reverse.1 hy) with rfl | hy
    · exact hl _ (by simp)
    · exact ha _ (by simpa using hy)
theorem insB_perm {α : Type} (lt : α → α → Bool) (x : α) : ∀ l : List α, (insB lt x l).Perm (x :: l)
  | [] => by simp [insB]
  | y :: l => by
    simp only [insB]
    split
    · exact ((insB_perm lt x l).cons y).trans (.swap x y l)
    · exact .refl _
theorem foldR_perm {α : Type} (lt : α → α → Bool) : ∀ (l acc : List α), (l.foldl (insR lt) acc).Perm (acc ++ l)
  | [], acc => by simp
  | x :: l, acc => by
    rw [List.foldl_cons]
    refine (foldR_perm lt l _).trans ?_
    have h1 : (insR lt acc x).Perm (x :: acc) := by
      unfold insR
      refine (List.reverse_perm _).trans ((insB_perm lt x _).trans ?_)
      exact (List.reverse_perm _).cons x
    exact (h1.append_right l).trans List.perm_middle.symm
theorem insB_down {nums down : Bool} {x : Tx} : ∀ {l : List Tx}, (l.Pairwise fun a b => ordT nums down a b = false) → (insB (ordT nums down) x l).Pairwise fun a b => ordT nums down a b = false
  | [], _ => List.pairwise_singleton _ _
  | y :: l, h => by
    have ⟨h1, h2⟩ := List.pairwise_cons.1 h
    simp only [insB]
    split
    · rename_i hl
      refine List.pairwise_cons.2 ⟨fun z hz => ?_, insB_down h2⟩
      rcases insB_mem hz with rfl | hz
      · exact ordT_asymm hl
      · exact h1 z hz
    · rename_i hl
      have hl : ordT nums down x y = false := Bool.not_eq_true _ ▸ hl
      refine List.pairwise_cons.2 ⟨fun z hz => ?_, h⟩
      rcases List.mem_cons.1 hz with rfl | hz
      · exact hl
      · exact ordT_neg hl (h1 z hz)
theorem foldR_up {nums down : Bool} : ∀ {l acc : List Tx}, (acc.Pairwise fun a b => ordT nums down b a = false) → (l.foldl (insR (ordT nums down)) acc).Pairwise fun a b => ordT nums down b a = false
  | [], _, h => h
  | x :: l, acc, h => by
    rw [List.foldl_cons]
    refine foldR_up ?_
    unfold insR
    rw [List.pairwise_reverse]
    exact insB_down (List.pairwise_reverse.2 h)
noncomputable def sortD (nums down : Bool) (l : List Tx) : List Tx := if down = true then (sortT nums l).reverse else sortT nums l
theorem sortD_perm (nums down : Bool) (l : List Tx) : (sortD nums down l).Perm l := by
  unfold sortD; split
  · exact (List.reverse_perm _).trans (sortT_perm nums l)
  · exact sortT_perm nums l
theorem sortD_up (nums down : Bool) (l : List Tx) : (sortD nums down l).Pairwise fun a b => ordT nums down b a = false := by
  have h := sortT_up nums l
  unfold sortD ordT
  cases down
  · simp only [Bool.false_eq_true, if_false]; exact h
  · simp only [if_true]
    exact List.pairwise_reverse.2 h
theorem ordT_eq {nums down : Bool} {a b : Tx} (h : ordT nums down b a = false) (h' : ordT nums down a b = false) : a = b := by
  refine Classical.byContradiction fun hc => ?_
  unfold ordT at h h'
  cases down
  · simp only [Bool.false_eq_true, if_false] at h h'
    rw [lessT_total hc h'] at h; cases h
  · simp only [if_true] at h h'
    rw [lessT_total hc h] at h'; cases h'
theorem sorted_eq {nums down : Bool} {l m : List Tx} (h : l.Perm m) (hl : l.Pairwise fun a b => ordT nums down b a = false) (hm : m.Pairwise fun a b => ordT nums down b a = false) : l = m :=
  h.eq_of_pairwise (fun a b _ _ h1 h2 => ordT_eq h1 h2) hl hm
theorem sortR_T {nums down : Bool} {l : List Tx} (h : nums = true → (l.all fun x => (intM x).2) = true) : sortR (ltT nums down) l = sortD nums down l := by
  have e : sortR (ltT nums down) l = sortR (ordT nums down) l :=
    foldR_congr (S := fun x => nums = true → (intM x).2 = true) (fun x y hx hy => ltT_ord hx hy) (fun x hx hn => List.all_eq_true.1 (h hn) x hx) (fun x hx => by cases hx)
  rw [e]
  refine sorted_eq (nums := nums) (down := down) ?_ (foldR_up List.Pairwise.nil) (sortD_up nums down l)
  have := foldR_perm (ordT nums down) l []
  rw [List.nil_append] at this
  exact this.trans (sortD_perm nums down l).symm
theorem p_ListSortM : Plain Tryd.prog 21 := p_ListSort
theorem s_ListSortM (l : List Tx) (nums down : Bool) (hs : l.length ≤ 1048576) : Spec Tryd.prog 21 [.t (.list false 1 (l.map Tx.row)), Bo nums, Bo down] (fun r => r = sortTR (sortM l nums down)) := by
  have h := s_ListSort l nums down hs
  have e : (if listOkM l = true then (if nums = true ∧ (l.all fun x => (intM x).2) = false then (l, false) else (sortR (ltT nums down) l, true)) else ([], false)) = sortM l nums down := by
    unfold sortM
    by_cases h1 : listOkM l = true
    · rw [if_pos h1, if_pos h1]
      by_cases h2 : nums = true ∧ (l.all fun x => (intM x).2) = false
      · rw [if_pos h2, if_pos h2]
      · rw [if_neg h2, if_neg h2, sortR_T fun hn => by
          rw [← Bool.not_eq_false]; exact fun hf => h2 ⟨hn, hf⟩]
        rfl
    · rw [if_neg h1, if_neg h1]
  rwa [e] at h
end Go.Proofs.YtgkmbbiebmamaaaDoor.Am
namespace Go.Proofs.YtgkmbbiebmamaaaDoor.Am
open Go
set_option maxRecDepth 100000
set_option maxHeartbeats 1000000
set_option linter.unusedSimpArgs false
set_option linter.unusedVariables false
theorem sortD_len (nums down : Bool) (l : List Tx) : (sortD nums down l).length = l.length := (sortD_perm nums down l).length_eq
theorem sortM_len (l : List Tx) (nums down : Bool) : (sortM l nums down).1.length ≤ l.length := by
  unfold sortM
  split
  · split
    · exact Nat.le_refl _
    · have := sortD_len nums down l
      unfold sortD at this
      exact Nat.le_of_eq this
  · simp
end Go.Proofs.YtgkmbbiebmamaaaDoor.Am
namespace Go.Proofs.YtgkmbbiebmamaaaDoor.Am
open Go
set_option linter.unusedVariables false
set_option linter.unusedSimpArgs false
theorem all_perm {α : Type} {f : α → Bool} {l m : List α} (h : l.Perm m) : l.all f = m.all f := by
  rw [Bool.eq_iff_iff, List.all_eq_true, List.all_eq_true]
  exact ⟨fun hh x hx => hh x (h.mem_iff.2 hx), fun hh x hx => hh x (h.mem_iff.1 hx)⟩
theorem listOkM_perm {l m : List Tx} (h : l.Perm m) : listOkM l = listOkM m := by
  unfold listOkM textsOkM
  rw [all_perm h, h.length_eq]
theorem sortM_yes {l : List Tx} {nums down : Bool} (h : (sortM l nums down).2 = true) : listOkM l = true ∧ ¬ (nums = true ∧ (l.all fun x => (intM x).2) = false) := by
  unfold sortM at h
  split at h
  · rename_i h1
    split at h
    · cases h
    · rename_i h2; exact ⟨h1, h2⟩
  · cases h
theorem sortM_of {l : List Tx} {nums : Bool} (h : listOkM l = true ∧ ¬ (nums = true ∧ (l.all fun x => (intM x).2) = false)) (down : Bool) : sortM l nums down = (sortD nums down l, true) := by
  unfold sortM sortD
  rw [if_pos h.1, if_neg h.2]
theorem sortD_rev (nums down : Bool) (l : List Tx) : sortD nums (!down) l = (sortD nums down l).reverse := by
  unfold sortD
  cases down <;> simp
theorem sortM_facts {l : List Tx} {nums down : Bool} (h : (sortM l nums down).2 = true) : sortM l nums (!down) = ((sortM l nums down).1.reverse, true) ∧ sortM (sortM l nums down).1 nums down = ((sortM l nums down).1, true) ∧ (sortM l nums down).1.Perm l ∧ (sortM l nums down).1.Pairwise fun a b => ordT nums down b a = false := by
  have hy := sortM_yes h
  have e := sortM_of hy down
  rw [e, sortM_of hy (!down), sortD_rev]
  have hp := sortD_perm nums down l
  have hu := sortD_up nums down l
  refine ⟨rfl, ?_, hp, hu⟩
  rw [sortM_of ⟨(listOkM_perm hp).trans hy.1, by rw [all_perm hp]; exact hy.2⟩ down]
  rw [sorted_eq (sortD_perm nums down (sortD nums down l)) (sortD_up nums down _) hu]
theorem ord_step {l : List Tx} {nums down : Bool} (h : l.Pairwise fun a b => ordT nums down b a = false) {i : Nat} (hi : i + 1 < l.length) : ordT nums down l[i + 1] l[i] = false :=
  List.pairwise_iff_getElem.1 h i (i + 1) (by omega) hi (by omega)
theorem ord_num {x y : Tx} {down : Bool} (h : ordT true down x y = false) : if down = true then (intM x).1 ≤ (intM y).1 else (intM y).1 ≤ (intM x).1 := by
  unfold ordT lessT at h
  cases down
  · simp only [Bool.false_eq_true, if_false, true_and] at h ⊢
    by_cases e : (intM x).1 = (intM y).1
    · omega
    · rw [if_pos e] at h; have := of_decide_eq_false h; omega
  · simp only [if_true, true_and] at h ⊢
    by_cases e : (intM y).1 = (intM x).1
    · omega
    · rw [if_pos e] at h; have := of_decide_eq_false h; omega
theorem ord_txt {x y : Tx} {down : Bool} (h : ordT false down x y = false) : if down = true then bytesLt y x = false else bytesLt x y = false := by
  unfold ordT lessT at h
  cases down
  · simpa using h
  · simpa using h
end Go.Proofs.YtgkmbbiebmamaaaDoor.Am
namespace Go.Proofs.YtgkmbbiebmamaaaDoor.Am
open Go
set_option maxRecDepth 100000
set_option maxHeartbeats 4000000
set_option linter.unusedSimpArgs false
set_option linter.unusedVariables false
theorem p_qxTexts : Plain Tryd.prog 26 := ⟨_, Tryd.func26, rfl, by decide⟩
theorem s_qxTexts (xs ys : List Tx) (hx : xs.length < 4611686018427387904) : Spec Tryd.prog 26 [.t (.list false 1 (xs.map Tx.row)), .t (.list false 1 (ys.map Tx.row))] (fun r => r = Bo (decide (xs = ys))) := by
  refine Spec.of tysOk mixed Tryd.func26 rfl (by decide) ?_
  simp -implicitDefEqProofs only [go_sem, Tryd.f26]
  refine BrA_i (fun h => ?_) (fun h => ?_) <;> simp -implicitDefEqProofs only [go_sem]
  · have hl : xs.length = ys.length := by have := of_decide_eq_true h; omega
    refine LoopW.slotsM [true, true, false, false, false, true, false, false, false, false, false, false, false, false, false, false, false, false, false, false, false, false, false, false, false, false] (α := Nat) (fun i => [(5, I i)]) (fun _ => []) (fun i => xs.length - i) (fun i => i ≤ xs.length ∧ ∀ j (h : j < xs.length), j < i → xs[j] = ys[j]) 0 (by simp -implicitDefEqProofs only [go_sem, LeTs_undef, LeTs_same, LeTs_nil]; try simp [LeTs]) rfl (by simp) ?_
    rintro i ⟨hi, hz⟩
    simp -implicitDefEqProofs only [go_sem]
    refine BrA_i (fun h => ?_) (fun h => ?_) <;> simp -implicitDefEqProofs only [go_sem]
    · have h : i < xs.length := by simp at h; omega
      have h' : i < ys.length := by omega
      have h0i : (0 : Int) ≤ i := by omega
      have h1i : (i : Int) < xs.length := by omega
      have h2i : (i : Int) < ys.length := by omega
      have wi : IntKind.i64.wrap ((i : Int) + 1) = ((i + 1 : Nat) : Int) := by rw [wrap64 (by omega) (by omega)]; omega
      have r1 := row_getD Tx.row xs h
      have r2 := row_getD Tx.row ys h'
      try simp only [Tx.row] at r1 r2
      refine RegD_of sch_26_6 tysOk (by kernel_rfl) ?_
      simp -implicitDefEqProofs only [go_sem, h0i, h1i, h2i, r1, r2, h, h']
      refine BrA_i (fun he => ?_) (fun he => ?_) <;> simp -implicitDefEqProofs only [go_sem, wi]
      · have he' : xs[i] = ys[i] := by simpa using he
        refine .to [] (i + 1) rfl ?_ ?_ (by omega) ⟨h, fun j hj hl => ?_⟩ <;> (try simp -implicitDefEqProofs only [go_sem, LeTs_undef, LeTs_same, LeTs_nil])
        rcases Nat.lt_succ_iff_lt_or_eq.1 hl with hl | rfl
        · exact hz j hj hl
        · exact he'
      · have : xs ≠ ys := fun e => by subst e; simp at he
        simp [this]
    · have : xs = ys := List.ext_getElem hl fun j h1 h2 => hz j h1 (by simp at h; omega)
      simp [this]
  · have : xs ≠ ys := fun e => by subst e; simp at h
    simp [this]
def cnt (l : List Tx) (t : Tx) : Nat := l.countP fun y => decide (y = t)
theorem cnt_step {l : List Tx} {k : Nat} (h : k < l.length) (t : Tx) : cnt (l.take (k + 1)) t = cnt (l.take k) t + (if l[k] = t then 1 else 0) := by
  unfold cnt
  rw [List.take_succ_eq_append_getElem h, List.countP_append, List.countP_singleton]
  by_cases e : l[k] = t <;> simp [e]
theorem cnt_le (l : List Tx) (t : Tx) (k : Nat) : cnt (l.take k) t ≤ l.length := by
  have := List.countP_le_length (p := fun y => decide (y = t)) (l := l.take k)
  rw [List.length_take] at this
  unfold cnt; omega
theorem cnt_nil (t : Tx) : cnt [] t = 0 := rfl
theorem s_FnListSort (bs : List Int) (hb : lG isB bs) : Spec Tryd.prog 7 [by8 bs] (fun r => r = Bo true) := by
  refine Spec.of tysOk mixed Tryd.func7 rfl (by decide) ?_
  simp -implicitDefEqProofs only [go_sem, Tryd.f7]
  refine BrA_i (fun h1 => ?_) (fun h1 => ?_) <;> simp -implicitDefEqProofs only [go_sem]
  have h1 : bs.length ≤ 1048576 := by have := of_decide_eq_false h1; omega
  refine CallW.psm (s_DrawListSort bs hb.2 h1) p_DrawListSort (by first | (simp -implicitDefEqProofs only [go_sem]; done) | ((conv => lhs; simp -implicitDefEqProofs only [go_sem]); done) | (simp -implicitDefEqProofs only [go_sem]; rfl) | rfl) rfl ?_
  rintro r ⟨l, nums, down, e, hl⟩
  rw [e]
  clear e r
  simp -implicitDefEqProofs only [go_sem]
  have hM := sortM_len l nums down
  refine CallW.ps (s_ListSortM l nums down (by omega)) p_ListSortM (by first | (simp -implicitDefEqProofs only [go_sem]; done) | ((conv => lhs; simp -implicitDefEqProofs only [go_sem]); done) | (simp -implicitDefEqProofs only [go_sem]; rfl) | rfl) rfl ?_
  rintro _ rfl
  simp -implicitDefEqProofs only [go_sem]
  refine CallW.ps (s_sListSort l nums down (by omega)) p_sListSort (by first | (simp -implicitDefEqProofs only [go_sem]; done) | ((conv => lhs; simp -implicitDefEqProofs only [go_sem]); done) | (simp -implicitDefEqProofs only [go_sem]; rfl) | rfl) rfl ?_
  rintro _ rfl
  simp -implicitDefEqProofs only [go_sem, eq_self, decide_true, beq_self_eq_true, Bool.not_true, decide_false]
  refine CallW.one (s_qxTexts (sortM l nums down).1 (sortM l nums down).1 (by omega)) p_qxTexts (by first | (simp -implicitDefEqProofs only [go_sem]; done) | ((conv => lhs; simp -implicitDefEqProofs only [go_sem]); done) | (simp -implicitDefEqProofs only [go_sem]; rfl) | rfl) (by first | trivial | (simp [DeepR, DeepV, DeepVs, DeepC, DeepCs, T.scal]; done)) ?_
  simp -implicitDefEqProofs only [go_sem, eq_self, decide_true, beq_self_eq_true, Bool.not_true, decide_false]
  cases hok : (sortM l nums down).2
  · simp -implicitDefEqProofs only [go_sem, Bool.not_false, eq_self, decide_true, beq_self_eq_true]
    refine CallW.one (s_qxTexts (sortM l nums down).1 (sortM l nums down).1 (by omega)) p_qxTexts (by first | (simp -implicitDefEqProofs only [go_sem]; done) | ((conv => lhs; simp -implicitDefEqProofs only [go_sem]); done) | (simp -implicitDefEqProofs only [go_sem]; rfl) | rfl) (by first | trivial | (simp [DeepR, DeepV, DeepVs, DeepC, DeepCs, T.scal]; done)) ?_
    simp -implicitDefEqProofs only [go_sem, eq_self, decide_true, beq_self_eq_true, Bool.not_true, decide_false]
  simp -implicitDefEqProofs only [go_sem, Bool.not_true]
  obtain ⟨f1, f2, f3, f4⟩ := sortM_facts hok
  obtain ⟨x, hx⟩ : ∃ x, x = (sortM l nums down).1 := ⟨_, rfl⟩
  simp only [← hx] at hM f1 f2 f3 f4 ⊢
  have fl := f3.length_eq
  have fx : ∀ i (hi : i < x.length), x[i].size ≤ 40 := fun i hi => listOkM_at ((listOkM_perm f3).trans (sortM_yes hok).1) hi
  have s1 := s_ListSortM l nums (!down) (by omega)
  rw [f1] at s1
  have s2 := s_ListSortM x nums down (by omega)
  rw [f2] at s2
  have p_1 := p_ListSort
  have p_2 := p_ListSort
  have s_1 := s1
  have s_2 := s2
  clear s1 s2 hx hok
  refine CallW.ps (s_1) p_1 (by first | (simp -implicitDefEqProofs only [go_sem]; done) | ((conv => lhs; simp -implicitDefEqProofs only [go_sem]); done) | (simp -implicitDefEqProofs only [go_sem]; rfl) | rfl) rfl ?_
  rintro _ rfl
  simp -implicitDefEqProofs only [go_sem]
  refine CallW.ps (s_2) p_2 (by first | (simp -implicitDefEqProofs only [go_sem]; done) | ((conv => lhs; simp -implicitDefEqProofs only [go_sem]); done) | (simp -implicitDefEqProofs only [go_sem]; rfl) | rfl) rfl ?_
  rintro _ rfl
  simp -implicitDefEqProofs only [go_sem]
  clear s_1 s_2 p_1 p_2 f1 f2
  refine LoopW.slotsM [false, false, false, true, true, true, true, false, false, false, true, true, true, true, true, false, false, false, false, false, false, false, false, false, false, false, false, false, false, false, false, false, false, false, false, false, false, false, false, false, false, false, false, false, false, false, false, false, false, false, false, false, false, false, false, false, false, false, false, false, false, false, false, false, false, false, false, false, false, false, false, false, false, false, false, false, false, false, false, false, false, false, false, false, false, false, false, false, false, false, false, false, false, false, false, false, false, false, false, false, false, false, false, false, false, false, false, false, false, false, false, false, false, false, false, false, false, false, false, false, false, false, false, false, false, false, false, false, false, false, false, false, false, false, false, false, false, false, false, false, false, false, false, false, false, false, false, false, false, false, false, false, false, false, false, false, false, false, false, false, false, false, false, false, false, false, false, false, false, false, false, false, false, false, false, false, false, false, false, false, false, false, false, false, false, false, false, false, false, false, false, false, false, false, false, false, false, false, false, false, false, false, false, false, false, false, false, false, false, false, false, false, false, false, false, false, false, false, false, false, false, false, false, false, false, false, false] (α := Nat) (fun i => [(14, I i)]) (fun i => []) (fun i => x.length - i) (fun i => i ≤ x.length) 0 (by simp -implicitDefEqProofs only [go_sem, LeTs_undef, LeTs_same, LeTs_nil]; try simp [LeTs]) rfl (by omega) ?_
  intro i hi
  simp -implicitDefEqProofs only [go_sem]
  refine BrA_i (fun h => ?_) (fun h => ?_) <;> simp -implicitDefEqProofs only [go_sem]
  · skip
    have h : i < x.length := by simp at h; omega
    have h0i : (0 : Int) ≤ i := by omega
    have h1i : (i : Int) < x.length := by omega
    have wi : IntKind.i64.wrap ((i : Int) + 1) = ((i + 1 : Nat) : Int) := by rw [wrap64 (by omega) (by omega)]; omega
    have r1 := row_getD Tx.row x h
    simp only [Tx.row] at r1
    refine LoopW.slotsM [false, false, false, true, true, true, true, false, false, false, true, true, true, true, true, true, true, true, false, false, false, false, false, false, false, false, false, false, false, false, false, false, false, false, false, false, false, false, false, false, false, false, false, false, false, false, false, false, false, false, false, false, false, false, false, false, false, false, false, false, false, false, false, false, false, false, false, false, false, false, false, false, false, false, false, false, false, false, false, false, false, false, false, false, false, false, false, false, false, false, false, false, false, false, false, false, false, false, false, false, false, false, false, false, false, false, false, false, false, false, false, false, false, false, false, false, false, false, false, false, false, false, false, false, false, false, false, false, false, false, false, false, false, false, false, false, false, false, false, false, false, false, false, false, false, false, false, false, false, false, false, false, false, false, false, false, false, false, false, false, false, false, false, false, false, false, false, false, false, false, false, false, false, false, false, false, false, false, false, false, false, false, false, false, false, false, false, false, false, false, false, false, false, false, false, false, false, false, false, false, false, false, false, false, false, false, false, false, false, false, false, false, false, false, false, false, false, false, false, false, false, false, false, false, false, false, false] (α := Nat) (fun k => [(15, I (cnt (x.take k) x[i] : Nat)), (16, I (cnt (l.take k) x[i] : Nat)), (17, I k)]) (fun k => []) (fun k => x.length - k) (fun k => k ≤ x.length) 0 (by simp -implicitDefEqProofs only [go_sem, LeTs_undef, LeTs_same, LeTs_nil]; simp [LeTs, cnt_nil]) rfl (by omega) ?_
    intro k hk
    simp -implicitDefEqProofs only [go_sem]
    refine BrA_i (fun g => ?_) (fun g => ?_) <;> simp -implicitDefEqProofs only [go_sem]
    · have g : k < x.length := by have := of_decide_eq_true g; omega
      have g' : k < l.length := by omega
      have k0i : (0 : Int) ≤ k := by omega
      have k1i : (k : Int) < x.length := by omega
      have k2i : (k : Int) < l.length := by omega
      have wk : IntKind.i64.wrap ((k : Int) + 1) = ((k + 1 : Nat) : Int) := by rw [wrap64 (by omega) (by omega)]; omega
      have r2 := row_getD Tx.row x g
      have r3 := row_getD Tx.row l g'
      simp only [Tx.row] at r2 r3
      have c1 := cnt_step g x[i]
      have c2 := cnt_step g' x[i]
      have b1 := cnt_le x x[i] k
      have b2 := cnt_le l x[i] k
      have w1 : IntKind.i64.wrap ((cnt (x.take k) x[i] : Nat) + 1 : Int) = ((cnt (x.take k) x[i] + 1 : Nat) : Int) := by rw [wrap64 (by omega) (by omega)]; omega
      have w2 : IntKind.i64.wrap ((cnt (l.take k) x[i] : Nat) + 1 : Int) = ((cnt (l.take k) x[i] + 1 : Nat) : Int) := by rw [wrap64 (by omega) (by omega)]; omega
      refine RegD_of sch_7_18 tysOk (by kernel_rfl) ?_
      simp -implicitDefEqProofs only [go_sem, h, h0i, h1i, r1, r2, k0i, k1i]
      refine BrA_i (fun e1 => ?_) (fun e1 => ?_) <;> simp -implicitDefEqProofs only [go_sem, w1] <;> (refine RegD_of sch_7_20 tysOk (by kernel_rfl) ?_; simp -implicitDefEqProofs only [go_sem, h, h0i, h1i, r1, r3, k0i, k2i]; refine BrA_i (fun e2 => ?_) (fun e2 => ?_) <;> simp -implicitDefEqProofs only [go_sem, w2])
      all_goals first | (have e1 := of_decide_eq_true e1) | (have e1 := of_decide_eq_false e1)
      all_goals first | (have e2 := of_decide_eq_true e2) | (have e2 := of_decide_eq_false e2)
      all_goals
        simp only [e1, e2, if_true, if_false, Nat.add_zero] at c1 c2
        refine .to [] (k + 1) rfl ?_ ?_ (by omega) (by omega) <;> (try simp -implicitDefEqProofs only [go_sem, LeTs_undef, LeTs_same, LeTs_nil, wk, c1, c2])
    · have g : k = x.length := by have := of_decide_eq_false g; omega
      subst g
      clear hk
      have cE : cnt (l.take x.length) x[i] = cnt (x.take x.length) x[i] := by
        rw [fl, List.take_length, ← fl, List.take_length]
        exact (f3.countP_eq _).symm
      have h40 := fx i h
      have wL : IntKind.i64.wrap ((x.length : Int) - 1) = ((x.length - 1 : Nat) : Int) := by rw [wrap64 (by omega) (by omega)]; omega
      have wM : IntKind.i64.wrap (((x.length - 1 : Nat) : Int) - i) = ((x.length - 1 - i : Nat) : Int) := by rw [wrap64 (by omega) (by omega)]; omega
      have hr : x.length - 1 - i < x.reverse.length := by rw [List.length_reverse]; omega
      have r4 := row_getD Tx.row x.reverse hr
      have r5 : x.reverse[x.length - 1 - i] = x[i] := by
        rw [List.getElem_reverse]
        congr 1; omega
      rw [r5] at r4
      simp only [Tx.row] at r4
      have q0 : (0 : Int) ≤ ((x.length - 1 - i : Nat) : Int) := by omega
      have q1 : ((x.length - 1 - i : Nat) : Int) < x.length := by omega
      simp -implicitDefEqProofs only [go_sem, h, h0i, h1i, r1]
      refine CallW.one (s_IntGet (x[i]) (by omega)) p_IntGet (by first | (simp -implicitDefEqProofs only [go_sem]; done) | ((conv => lhs; simp -implicitDefEqProofs only [go_sem]); done) | (simp -implicitDefEqProofs only [go_sem]; rfl) | rfl) (by first | trivial | (simp [DeepR, DeepV, DeepVs, DeepC, DeepCs, T.scal]; done)) ?_
      rcases Nat.eq_zero_or_pos i with h00 | hpos
      · have hz : decide ((i : Int) > 0) = false := by simp; omega
        have hz2 : ¬ ((i : Int) > 0) := by omega
        simp -implicitDefEqProofs only [go_sem, hz]
        cases nums <;> cases down <;> (refine RegD_of sch_7_26 tysOk (by kernel_rfl) ?_; simp only [List.append_eq, List.cons_append, List.nil_append]; simp (maxSteps := 2000000) -implicitDefEqProofs only [go_sem, h, h0i, h1i, r1, r4, wL, wM, q0, q1, cE, hz, hz2, eq_self, decide_true, decide_false, List.length_reverse, Int.lt_irrefl, gt_iff_lt])
        all_goals (refine .to [953, 954, 955, 1049, 1050, 1051] (i + 1) rfl ?_ ?_ (by omega) (by omega) <;> (try simp -implicitDefEqProofs only [go_sem, LeTs_undef, LeTs_same, LeTs_nil, wi]))
      · have hz : decide ((i : Int) > 0) = true := by simp; omega
        have hz2 : (0 : Int) < i := by omega
        have hz3 : (i : Int) > 0 := by omega
        have w9 : IntKind.i64.wrap ((i : Int) - 1) = ((i - 1 : Nat) : Int) := by rw [wrap64 (by omega) (by omega)]; omega
        have v0 : (0 : Int) ≤ ((i - 1 : Nat) : Int) := by omega
        have v1 : ((i - 1 : Nat) : Int) < x.length := by omega
        have v2 : i - 1 < x.length := by omega
        have r6 := row_getD Tx.row x v2
        simp only [Tx.row] at r6
        have h41 := fx (i - 1) v2
        have hs : ordT nums down x[i] x[i - 1] = false := by
          have := ord_step f4 (i := i - 1) (by omega)
          have e : i - 1 + 1 = i := by omega
          simpa only [e] using this
        simp -implicitDefEqProofs only [go_sem, hz, w9, v0, v1, r6]
        refine CallW.one (s_IntGet (x[i - 1]) (by omega)) p_IntGet (by first | (simp -implicitDefEqProofs only [go_sem]; done) | ((conv => lhs; simp -implicitDefEqProofs only [go_sem]); done) | (simp -implicitDefEqProofs only [go_sem]; rfl) | rfl) (by first | trivial | (simp [DeepR, DeepV, DeepVs, DeepC, DeepCs, T.scal]; done)) ?_
        simp -implicitDefEqProofs only [go_sem]
        cases nums <;> cases down
        · have hs := ord_txt hs
          simp only [Bool.false_eq_true, if_false] at hs
          have hs : (bytesLt x[i - 1] x[i] || decide (x[i - 1] = x[i])) = true := by
            by_cases e : x[i - 1] = x[i]
            · simp [e]
            · rw [bytesLt_total (Ne.symm e) hs]; rfl
          refine RegD_of sch_7_26 tysOk (by kernel_rfl) ?_
          simp only [List.append_eq, List.cons_append, List.nil_append]
          simp (maxSteps := 2000000) -implicitDefEqProofs only [go_sem, h, h0i, h1i, r1, r4, r6, wL, wM, w9, q0, q1, v0, v1, cE, hz, hz2, hz3, hs, eq_self, decide_true, decide_false, List.length_reverse, gt_iff_lt]
          refine .to [953, 954, 955, 1049, 1050, 1051] (i + 1) rfl ?_ ?_ (by omega) (by omega) <;> (try simp -implicitDefEqProofs only [go_sem, LeTs_undef, LeTs_same, LeTs_nil, wi])
        · have hs := ord_txt hs
          simp only [if_true] at hs
          refine RegD_of sch_7_26 tysOk (by kernel_rfl) ?_
          simp only [List.append_eq, List.cons_append, List.nil_append]
          simp (maxSteps := 2000000) -implicitDefEqProofs only [go_sem, h, h0i, h1i, r1, r4, r6, wL, wM, w9, q0, q1, v0, v1, cE, hz, hz2, hz3, hs, eq_self, decide_true, decide_false, List.length_reverse, gt_iff_lt]
          refine .to [953, 954, 955, 1049, 1050, 1051] (i + 1) rfl ?_ ?_ (by omega) (by omega) <;> (try simp -implicitDefEqProofs only [go_sem, LeTs_undef, LeTs_same, LeTs_nil, wi])
        · have hs := ord_num hs
          simp only [Bool.false_eq_true, if_false] at hs
          have hs' : ¬ (intM x[i]).1 < (intM x[i - 1]).1 := by omega
          refine RegD_of sch_7_26 tysOk (by kernel_rfl) ?_
          simp only [List.append_eq, List.cons_append, List.nil_append]
          simp (maxSteps := 2000000) -implicitDefEqProofs only [go_sem, h, h0i, h1i, r1, r4, r6, wL, wM, w9, q0, q1, v0, v1, cE, hz, hz2, hz3, hs', eq_self, decide_true, decide_false, List.length_reverse, gt_iff_lt]
          refine .to [953, 954, 955, 1049, 1050, 1051] (i + 1) rfl ?_ ?_ (by omega) (by omega) <;> (try simp -implicitDefEqProofs only [go_sem, LeTs_undef, LeTs_same, LeTs_nil, wi])
        · have hs := ord_num hs
          simp only [if_true] at hs
          have hs' : ¬ (intM x[i - 1]).1 < (intM x[i]).1 := by omega
          refine RegD_of sch_7_26 tysOk (by kernel_rfl) ?_
          simp only [List.append_eq, List.cons_append, List.nil_append]
          simp (maxSteps := 2000000) -implicitDefEqProofs only [go_sem, h, h0i, h1i, r1, r4, r6, wL, wM, w9, q0, q1, v0, v1, cE, hz, hz2, hz3, hs', eq_self, decide_true, decide_false, List.length_reverse, gt_iff_lt]
          refine .to [953, 954, 955, 1049, 1050, 1051] (i + 1) rfl ?_ ?_ (by omega) (by omega) <;> (try simp -implicitDefEqProofs only [go_sem, LeTs_undef, LeTs_same, LeTs_nil, wi])
  · refine CallW.one (s_qxTexts x x (by omega)) p_qxTexts (by first | (simp -implicitDefEqProofs only [go_sem]; done) | ((conv => lhs; simp -implicitDefEqProofs only [go_sem]); done) | (simp -implicitDefEqProofs only [go_sem]; rfl) | rfl) (by first | trivial | (simp [DeepR, DeepV, DeepVs, DeepC, DeepCs, T.scal]; done)) ?_
    simp -implicitDefEqProofs only [go_sem, eq_self, decide_true, beq_self_eq_true, fl]
end Go.Proofs.YtgkmbbiebmamaaaDoor.Am
