/- Texts of this claim, packed: walks and laws that its row stands on. Each states its own conditions. -/
import Derived.Below
import Derived.ChangeArms
import Derived.ChangeOld
import Derived.ChangeSlices
import Derived.DataElems
import Derived.OpenShut
import Derived.ProofKit
import Derived.Shelf.LaysC
import Derived.Shelf.LaysM
import Derived.Shelf.Strconv.ErrVarAll
import Derived.Shelf.Strconv.Itoa3
import Derived.Shelf.Strings.Cut
import Derived.ShutString
import Derived.SizedLaws
import Derived.Test.YtgkmbbiebmamaaaDoorBFnIdText1
namespace Go.Proofs.YtgkmbbiebmamaaaDoor.Am
open Go
set_option maxRecDepth 100000
set_option linter.unusedSimpArgs false
set_option linter.unusedVariables false
def decM (n : Nat) : ByteArray := if h : n < 10 then dig n else decM (n / 10) ++ dig (n % 10)
termination_by n
decreasing_by omega
theorem decM_lt {n : Nat} (h : n < 10) : decM n = dig n := by rw [decM, dif_pos h]
theorem decM_ge {n : Nat} (h : ¬ n < 10) : decM n = decM (n / 10) ++ dig (n % 10) := by rw [decM, dif_neg h]
def bval (l : List UInt8) : Nat := l.foldl (fun a b => 10 * a + (b.toNat - 48)) 0
theorem bval_snoc (l : List UInt8) (b : UInt8) : bval (l ++ [b]) = 10 * bval l + (b.toNat - 48) := by simp [bval, List.foldl_append]
theorem dig_list (n : Nat) (h : n < 10) : ∃ b : UInt8, (dig n).data.toList = [b] ∧ b.toNat = 48 + n := by
  refine ⟨UInt8.ofNat (IntKind.u8.wrap (48 + (n : Int))).toNat, rfl, ?_⟩
  have : IntKind.u8.wrap (48 + (n : Int)) = 48 + (n : Int) := by
    simp [IntKind.wrap, IntKind.signed, IntKind.bits]; omega
  rw [this]
  have h2 : (48 + (n : Int)).toNat = 48 + n := by omega
  rw [h2]
  simp [UInt8.toNat_ofNat']
  omega
theorem bval_decM (n : Nat) : bval (decM n).data.toList = n := by
  induction n using Nat.strongRecOn with
  | _ n ih =>
    by_cases h : n < 10
    · obtain ⟨b, h1, h2⟩ := dig_list n h
      rw [decM_lt h, h1]
      simp [bval, h2]
    · obtain ⟨b, h1, h2⟩ := dig_list (n % 10) (by omega)
      rw [decM_ge h, ByteArray.data_append, Array.toList_append, h1, bval_snoc, ih _ (by omega), h2]
      omega
theorem decM_size (n : Nat) (h : n < 10000000000000000000) : (decM n).size ≤ 19 := by
  have : ∀ k n, n < 10 ^ (k + 1) → (decM n).size ≤ k + 1 := by
    intro k
    induction k with
    | zero => intro n hn; rw [decM_lt (by simpa using hn)]; show 1 ≤ 1; omega
    | succ k ih =>
      intro n hn
      by_cases h : n < 10
      · rw [decM_lt h]; show 1 ≤ _; omega
      · rw [decM_ge h, ByteArray.size_append]
        have := ih (n / 10) (by rw [Nat.pow_succ] at hn; omega)
        have h1 : (dig (n % 10)).size = 1 := rfl
        omega
  exact this 18 n (by simpa using h)
theorem p_l1Dec : Plain Tryd.prog 29 := ⟨_, Tryd.func29, rfl, by decide⟩
theorem s_l1Dec (n : Nat) (hn : n < 1000000000000000000) : Spec Tryd.prog 29 [I n] (fun r => r = .t (.str (decM n))) := by
  induction n using Nat.strongRecOn with
  | _ n ih =>
    refine Spec.of tysOk mixed Tryd.func29 rfl (by decide) ?_
    have h1 : ¬ (n : Int) < -9223372036854775807 := by omega
    have h2 : ¬ (n : Int) < 0 := by omega
    simp -implicitDefEqProofs only [go_sem, Tryd.f29, h1, h2, decide_false]
    refine BrA_i (fun h => ?_) (fun h => ?_)
    · have h : n < 10 := by have := of_decide_eq_true h; omega
      have w : IntKind.i64.wrap (48 + (n : Int)) = 48 + (n : Int) := wrap64 (by omega) (by omega)
      simp -implicitDefEqProofs only [go_sem, w]
      rw [decM_lt h]; rfl
    · have h : ¬ n < 10 := by have := of_decide_eq_false h; omega
      have e1 : (n : Int).tmod 10 = ((n % 10 : Nat) : Int) := rfl
      have e2 : IntKind.i64.wrap ((n : Int).tdiv 10) = ((n / 10 : Nat) : Int) := by
        have h0 : (n : Int).tdiv 10 = ((n / 10 : Nat) : Int) := rfl
        rw [h0, wrap64 (by omega) (by omega)]
      have w : IntKind.i64.wrap (48 + ((n % 10 : Nat) : Int)) = 48 + ((n % 10 : Nat) : Int) := wrap64 (by omega) (by omega)
      have ed : (⟨#[UInt8.ofNat (IntKind.u8.wrap (48 + ((n % 10 : Nat) : Int))).toNat]⟩ : ByteArray) = dig (n % 10) := rfl
      have hsz := decM_size (n / 10) (by omega)
      have hs2 : ((decM (n / 10)).size : Int) + (dig (n % 10)).size ≤ strMax := by
        have : (dig (n % 10)).size = 1 := rfl
        unfold strMax; omega
      simp -implicitDefEqProofs only [go_sem]
      refine RegD_of sch_29_7 tysOk (by kernel_rfl) ?_
      simp -implicitDefEqProofs only [go_sem, e1, e2, w]
      refine ⟨?_, ?_⟩
      all_goals (first | (refine CallW.one (ih (n / 10) (by omega) (by omega)) p_l1Dec rfl trivial ?_) | skip)
      all_goals simp -implicitDefEqProofs only [go_sem, e1, e2, w, ed, hs2, decM_ge h]
end Go.Proofs.YtgkmbbiebmamaaaDoor.Am
namespace Go.Proofs.YtgkmbbiebmamaaaDoor.Am
open Go Go.Proofs Go.Shelf Go.RowKit Go.Sort
set_option maxRecDepth 100000
set_option maxHeartbeats 1000000
set_option linter.unusedSimpArgs false
set_option linter.unusedVariables false
def layItoa_ren : Go.Shelf.Ren := ⟨fun | 171 => 54 | 243 => 68 | 246 => 78 | 283 => 87 | 284 => 88 | 285 => 89 | 286 => 90 | 129 => 97 | 317 => 96 | 318 => 98 | 319 => 99 | 320 => 100 | 337 => 101 | 338 => 102 | n => n, fun | 3 => 3 | 9 => 9 | 2 => 2 | 4 => 4 | 171 => 101 | 0 => 0 | 53 => 94 | 37 => 32 | 5 => 5 | 173 => 104 | 212 => 115 | 51 => 106 | 20 => 20 | 213 => 116 | 46 => 93 | 232 => 119 | 233 => 120 | n => n, fun | 17 => 3 | 18 => 4 | 19 => 5 | n => n⟩
theorem layItoa : LaysM.n171 Tryd.prog layItoa_ren := {
  mixed := by kernel_rfl
  f129 := Tryd.func97.trans (congrArg some (by kernel_rfl))
  f171 := Tryd.func54.trans (congrArg some (by kernel_rfl))
  f243 := Tryd.func68.trans (congrArg some (by kernel_rfl))
  f246 := Tryd.func78.trans (congrArg some (by kernel_rfl))
  f283 := Tryd.func87.trans (congrArg some (by kernel_rfl))
  f284 := Tryd.func88.trans (congrArg some (by kernel_rfl))
  f285 := Tryd.func89.trans (congrArg some (by kernel_rfl))
  f286 := Tryd.func90.trans (congrArg some (by kernel_rfl))
  f317 := Tryd.func96.trans (congrArg some (by kernel_rfl))
  f318 := Tryd.func98.trans (congrArg some (by kernel_rfl))
  f319 := Tryd.func99.trans (congrArg some (by kernel_rfl))
  f320 := Tryd.func100.trans (congrArg some (by kernel_rfl))
  f337 := Tryd.func101.trans (congrArg some (by kernel_rfl))
  f338 := Tryd.func102.trans (congrArg some (by kernel_rfl))
  t0 := Tryd.underlying0
  a0 := Tryd.isAgg0
  z0 := Tryd.sizeOf0
  v0 := Tryd.zeroValue0
  t2 := Tryd.underlying2
  a2 := Tryd.isAgg2
  z2 := Tryd.sizeOf2
  v2 := Tryd.zeroValue2
  t3 := Tryd.underlying3
  a3 := Tryd.isAgg3
  z3 := Tryd.sizeOf3
  v3 := Tryd.zeroValue3
  t4 := Tryd.underlying4
  a4 := Tryd.isAgg4
  z4 := Tryd.sizeOf4
  v4 := Tryd.zeroValue4
  t5 := Tryd.underlying5
  a5 := Tryd.isAgg5
  z5 := Tryd.sizeOf5
  v5 := Tryd.zeroValue5
  t9 := Tryd.underlying9
  a9 := Tryd.isAgg9
  z9 := Tryd.sizeOf9
  v9 := Tryd.zeroValue9
  t20 := Tryd.underlying20
  a20 := Tryd.isAgg20
  z20 := Tryd.sizeOf20
  v20 := Tryd.zeroValue20
  t37 := Tryd.underlying32
  a37 := Tryd.isAgg32
  z37 := Tryd.sizeOf32
  v37 := Tryd.zeroValue32
  t46 := Tryd.underlying93
  a46 := Tryd.isAgg93
  z46 := Tryd.sizeOf93
  v46 := Tryd.zeroValue93
  t51 := Tryd.underlying106
  a51 := Tryd.isAgg106
  z51 := Tryd.sizeOf106
  v51 := Tryd.zeroValue106
  t53 := Tryd.underlying94
  a53 := Tryd.isAgg94
  z53 := Tryd.sizeOf94
  v53 := Tryd.zeroValue94
  t171 := Tryd.underlying101
  a171 := Tryd.isAgg101
  z171 := Tryd.sizeOf101
  v171 := Tryd.zeroValue101
  t173 := Tryd.underlying104
  a173 := Tryd.isAgg104
  z173 := Tryd.sizeOf104
  v173 := Tryd.zeroValue104
  t212 := Tryd.underlying115
  a212 := Tryd.isAgg115
  z212 := Tryd.sizeOf115
  v212 := Tryd.zeroValue115
  t213 := Tryd.underlying116
  a213 := Tryd.isAgg116
  z213 := Tryd.sizeOf116
  t232 := Tryd.underlying119
  a232 := Tryd.isAgg119
  z232 := Tryd.sizeOf119
  v232 := Tryd.zeroValue119
  t233 := Tryd.underlying120
  a233 := Tryd.isAgg120
  z233 := Tryd.sizeOf120
  v233 := Tryd.zeroValue120
  g17 := by kernel_rfl
  g18 := by kernel_rfl
  g19 := by kernel_rfl
  i0 := by kernel_rfl
  i2 := by kernel_rfl
  i3 := by kernel_rfl
  i4 := by kernel_rfl
  i5 := by kernel_rfl
  i9 := by kernel_rfl
  i20 := by kernel_rfl
  i37 := by kernel_rfl
  i46 := by kernel_rfl
  i51 := by kernel_rfl
  i53 := by kernel_rfl
  i171 := by kernel_rfl
  i173 := by kernel_rfl
  i212 := by kernel_rfl
  i232 := by kernel_rfl
  i233 := by kernel_rfl
  m17 := by kernel_rfl
  m18 := by kernel_rfl
  m19 := by kernel_rfl
}
theorem WStep.grow' (w : World) (k : Nat) (os : Array Obj) : WStep w (grow (w.drewN k) os) none := by
  refine ⟨rfl, rfl, rfl, ?_, ?_, fun b hb _ => ?_⟩
  · exact DrLe.of_le (by simp only [grow, World.drewN]; omega)
  · simp [grow, World.drewN]
  · simp only [grow, World.drewN]
    rw [Array.getElem?_append_left hb]
theorem Spec.of_grow {P : Program} {f : FuncId} {args : List AV} {r : T} {v : Value} (hr : ∀ w D, Rd w D r v) (h : ∀ (w : World) (D : Dm) (vs : List Value), DmOk w D → AVr.AVrs (inCx w D) args vs → Calls P f vs.toArray w fun e w' => e = .returned v ∧ ∃ k os, w' = grow (w.drewN k) os) : Spec P f args (fun x => x = .t r) :=
  fun w D vs hD hv => (h w D vs hD hv).mono fun e w' ⟨he, k, os, hw⟩ => by
    subst hw
    exact ⟨v, .t r, he, rfl, WStep.grow' w k os, fun _ => none, (fun b p hb => by cases hb), hr _ _⟩
def itoaB (n : Int) : ByteArray := ⟨(Lib.itoa n).toArray⟩
theorem p_Itoa : Plain Tryd.prog 54 := ⟨_, Tryd.func54, rfl, by decide⟩
theorem s_Itoa (n : Int) (h0 : -9223372036854775808 ≤ n) (h1 : n ≤ 9223372036854775807) : Spec Tryd.prog 54 [I n] (fun r => r = .t (.str (itoaB n))) := by
  refine Spec.of_grow (fun w D => .str _) fun w D vs hD hv => ?_
  match vs, hv with
  | [v], ⟨hv, _⟩ =>
    have hv' : v = .int .i64 n := by cases hv; rfl
    subst hv'
    exact Any.strconv_Itoa layItoa n h0 h1 w hD.gl.pow
theorem dec_list (n : Nat) : (decM n).data.toList = Lib.decDigits n := by
  induction n using Nat.strongRecOn with
  | _ n ih =>
    by_cases h : n < 10
    · obtain ⟨b, h1, h2⟩ := dig_list n h
      rw [decM_lt h, h1, Lib.decDigits, dif_pos h]
      congr 1
      apply UInt8.toNat_inj.1
      rw [h2]; simp [UInt8.toNat_ofNat']; omega
    · obtain ⟨b, h1, h2⟩ := dig_list (n % 10) (by omega)
      rw [decM_ge h, ByteArray.data_append, Array.toList_append, ih (n / 10) (by omega), h1]
      conv => rhs; rw [Lib.decDigits, dif_neg h]
      congr 2
      apply UInt8.toNat_inj.1
      rw [h2]; simp [UInt8.toNat_ofNat']; omega
theorem itoa_dec (n : Nat) : itoaB n = decM n := by
  have h : (itoaB n).data.toList = (decM n).data.toList := by
    rw [dec_list]
    unfold itoaB Lib.itoa
    rw [if_neg (by omega)]
    simp
  exact ByteArray.ext (Array.toList_inj.1 h)
end Go.Proofs.YtgkmbbiebmamaaaDoor.Am
namespace Go.Proofs.YtgkmbbiebmamaaaDoor.Am
open Go
set_option maxRecDepth 100000
set_option linter.unusedSimpArgs false
set_option linter.unusedVariables false
theorem s_isNaN (n : Int) : Spec Tryd.prog 65 [I n] (fun r => r = Bo false) := by
  refine Spec.of tysOk mixed Tryd.func65 rfl (by decide) ?_
  simp -implicitDefEqProofs only [go_sem, Tryd.f65]
theorem p_isNaN : Plain Tryd.prog 65 := ⟨_, Tryd.func65, rfl, by decide⟩
def cmpM (a b : Int) : Int := if a < b then -1 else if b < a then 1 else 0
theorem s_compare (a b : Int) : Spec Tryd.prog 49 [I a, I b] (fun r => r = I (cmpM a b)) := by
  refine Spec.of tysOk mixed Tryd.func49 rfl (by decide) ?_
  simp -implicitDefEqProofs only [go_sem, Tryd.f49]
  refine .one (s_isNaN _) p_isNaN rfl trivial ?_
  simp -implicitDefEqProofs only [go_sem]
  refine .one (s_isNaN _) p_isNaN rfl trivial ?_
  simp -implicitDefEqProofs only [go_sem]
  refine BrA_i (fun h => ?_) (fun h => ?_)
  · simp -implicitDefEqProofs only [go_sem]; simp_all [cmpM]
  · simp -implicitDefEqProofs only [go_sem]
    refine BrA_i (fun h => ?_) (fun h => ?_) <;> simp -implicitDefEqProofs only [go_sem] <;> simp_all [cmpM] <;> omega
theorem p_compare : Plain Tryd.prog 49 := ⟨_, Tryd.func49, rfl, by decide⟩
def firstM (xs : List Int) : Int := (xs.find? (· != 0)).getD 0
theorem s_or (xs : List Int) (hx : xs.length < 1000000) : Spec Tryd.prog 61 [.t (.list false 1 (xs.map fun n => [T.int .i64 n]))] (fun r => r = I (firstM xs)) := by
  refine Spec.of tysOk mixed Tryd.func61 rfl (by decide) ?_
  simp -implicitDefEqProofs only [go_sem, Tryd.f61]
  refine LoopW.slots (α := Nat) (fun i => [(8, I i)]) (fun _ => []) (fun i => xs.length - i) (fun i => i ≤ xs.length ∧ (∀ n ∈ xs.take i, n = 0)) 0 rfl rfl (by simp) ?_
  rintro i ⟨hi, hz⟩
  simp -implicitDefEqProofs only [go_sem]
  refine BrA_i (fun h => ?_) (fun h => ?_)
  · have h : i < xs.length := by simp at h; omega
    simp -implicitDefEqProofs only [go_sem, row_getD _ _ h]
    refine ⟨⟨by omega, by omega⟩, BrA_i (fun h0 => ?_) (fun h0 => ?_)⟩
    rotate_left
    · simp -implicitDefEqProofs only [go_sem]
      have hz' : ∀ n ∈ xs.take i, ¬ ((n != 0) = true) := fun n hn => by simp [hz n hn]
      have : xs = xs.take i ++ xs[i] :: xs.drop (i + 1) := by simp
      have h0 : (xs[i] != 0) = true := by simpa using h0
      have h1 : xs.find? (· != 0) = some xs[i] := by
        rw [List.find?_eq_some_iff_append]
        exact ⟨h0, _, _, this, fun n hn => by simp [hz n hn]⟩
      unfold firstM; rw [h1]; rfl
    · simp -implicitDefEqProofs only [go_sem]
      refine .to [] (i + 1) rfl ?_ rfl (by omega) ⟨h, ?_⟩
      · simp -implicitDefEqProofs only [go_sem, LeTs_undef, LeTs_same]
        simp only [wrap64 (n := (i : Int) + 1) (by omega) (by omega)]
        simp [LeTs]
      · intro n hn
        simp at h0
        rw [List.take_succ_eq_append_getElem h, List.mem_append, List.mem_singleton] at hn
        rcases hn with hn | hn
        · exact hz n hn
        · rw [hn]; exact h0
  · simp -implicitDefEqProofs only [go_sem]
    have h : i = xs.length := by simp at h; omega
    subst h
    have : xs.find? (· != 0) = none := List.find?_eq_none.2 fun n hn => by simp [hz n (by simpa using hn)]
    simp [firstM, this]
theorem p_or : Plain Tryd.prog 61 := ⟨_, Tryd.func61, rfl, by decide⟩
def ordM (a b c d : Int) : Int := if cmpM a c = 0 then cmpM b d else cmpM a c
theorem find2 (x y : Int) : firstM [x, y] = if x = 0 then y else x := by
  unfold firstM
  by_cases h : x = 0 <;> by_cases h' : y = 0 <;> simp [List.find?_cons, h, h', bne]
  all_goals (split <;> simp_all)
theorem s_idOrder (a b c d : Int) : Spec Tryd.prog 37 [.agg [I a, I b], .agg [I c, I d]] (fun r => r = I (ordM a b c d)) := by
  refine Spec.of tysOk mixed Tryd.func37 rfl (by decide) ?_
  simp -implicitDefEqProofs only [go_sem, Tryd.f37]
  refine RegD_of sch_37_1 tysOk (by kernel_rfl) ?_
  simp -implicitDefEqProofs only [go_sem]
  refine .one (s_compare _ _) p_compare rfl trivial ?_
  simp -implicitDefEqProofs only [go_sem]
  refine .one (s_compare _ _) p_compare rfl trivial ?_
  simp -implicitDefEqProofs only [go_sem]
  refine .one (s_or [cmpM a c, cmpM b d] (by simp)) p_or rfl trivial ?_
  simp -implicitDefEqProofs only [go_sem]
  rw [find2]; rfl
theorem p_idOrder : Plain Tryd.prog 37 := ⟨_, Tryd.func37, rfl, by decide⟩
theorem s_IdLess (a b c d : Int) : Spec Tryd.prog 15 [.agg [I a, I b], .agg [I c, I d]] (fun r => r = Bo (decide (ordM a b c d < 0))) := by
  refine Spec.of tysOk mixed Tryd.func15 rfl (by decide) ?_
  simp -implicitDefEqProofs only [go_sem, Tryd.f15]
  refine .one (s_idOrder _ _ _ _) p_idOrder rfl trivial ?_
  simp -implicitDefEqProofs only [go_sem]
theorem p_IdLess : Plain Tryd.prog 15 := ⟨_, Tryd.func15, rfl, by decide⟩
def withinM (n lo hi : Int) : Bool := decide (lo ≤ n) && decide (n ≤ hi)
theorem s_within (n lo hi : Int) : Spec Tryd.prog 53 [I n, I lo, I hi] (fun r => r = Bo (withinM n lo hi)) := by
  refine Spec.of tysOk mixed Tryd.func53 rfl (by decide) ?_
  simp -implicitDefEqProofs only [go_sem, Tryd.f53]
  refine BrA_i (fun h => ?_) (fun h => ?_) <;> simp -implicitDefEqProofs only [go_sem] <;> simp_all [withinM] <;> omega
theorem p_within : Plain Tryd.prog 53 := ⟨_, Tryd.func53, rfl, by decide⟩
def idOkM (a b : Int) : Bool := withinM a 0 1000000 && withinM b 0 1000000000
theorem s_idOk (a b : Int) : Spec Tryd.prog 30 [.agg [I a, I b]] (fun r => r = Bo (idOkM a b)) := by
  refine Spec.of tysOk mixed Tryd.func30 rfl (by decide) ?_
  simp -implicitDefEqProofs only [go_sem, Tryd.f30]
  refine .one (s_within _ _ _) p_within rfl trivial ?_
  simp -implicitDefEqProofs only [go_sem]
  refine BrA_i (fun h => ?_) (fun h => ?_)
  · simp -implicitDefEqProofs only [go_sem]
    refine .one (s_within _ _ _) p_within rfl trivial ?_
    simp -implicitDefEqProofs only [go_sem]
    simp [idOkM, h]
  · simp -implicitDefEqProofs only [go_sem]
    simp [idOkM, h]
theorem p_idOk : Plain Tryd.prog 30 := ⟨_, Tryd.func30, rfl, by decide⟩
end Go.Proofs.YtgkmbbiebmamaaaDoor.Am
namespace Go.Proofs.YtgkmbbiebmamaaaDoor.Am
open Go
set_option maxRecDepth 100000
set_option linter.unusedSimpArgs false
set_option linter.unusedVariables false
theorem p_l1In : Plain Tryd.prog 55 := ⟨_, Tryd.func55, rfl, by decide⟩
theorem s_l1In (n lo hi : Int) : Spec Tryd.prog 55 [I n, I lo, I hi] (fun r => r = Bo (withinM n lo hi)) := by
  refine Spec.of tysOk mixed Tryd.func55 rfl (by decide) ?_
  simp -implicitDefEqProofs only [go_sem, Tryd.f55]
  refine BrA_i (fun h => ?_) (fun h => ?_) <;> simp -implicitDefEqProofs only [go_sem] <;> simp_all [withinM] <;> omega
theorem p_l9Id : Plain Tryd.prog 28 := ⟨_, Tryd.func28, rfl, by decide⟩
theorem s_l9Id (a b : Int) : Spec Tryd.prog 28 [.agg [I a, I b]] (fun r => r = Bo (idOkM a b)) := by
  refine Spec.of tysOk mixed Tryd.func28 rfl (by decide) ?_
  simp -implicitDefEqProofs only [go_sem, Tryd.f28]
  refine .one (s_l1In _ _ _) p_l1In rfl trivial ?_
  simp -implicitDefEqProofs only [go_sem]
  refine BrA_i (fun h => ?_) (fun h => ?_) <;> simp -implicitDefEqProofs only [go_sem]
  · refine .one (s_l1In _ _ _) p_l1In rfl trivial ?_
    simp -implicitDefEqProofs only [go_sem]
    simp [idOkM, h]
  · simp [idOkM, h]
theorem ordM_lt (a b c d : Int) : ordM a b c d < 0 ↔ a < c ∨ (a = c ∧ b < d) := by
  unfold ordM cmpM
  split <;> split <;> (try split) <;> (try split) <;> omega
theorem p_sIdLess : Plain Tryd.prog 16 := ⟨_, Tryd.func16, rfl, by decide⟩
theorem s_sIdLess (a b c d : Int) : Spec Tryd.prog 16 [.agg [I a, I b], .agg [I c, I d]] (fun r => r = Bo (decide (ordM a b c d < 0))) := by
  refine Spec.of tysOk mixed Tryd.func16 rfl (by decide) ?_
  have e := ordM_lt a b c d
  simp -implicitDefEqProofs only [go_sem, Tryd.f16]
  refine BrA_i (fun h => ?_) (fun h => ?_) <;> simp -implicitDefEqProofs only [go_sem]
  · simp at h; simp [e, h]
  refine BrA_i (fun h1 => ?_) (fun h1 => ?_) <;> simp -implicitDefEqProofs only [go_sem]
  · simp at h h1; subst h1; simp [e]
  · simp at h h1
    have : ¬ a < c := by omega
    simp [e, h1, this]
end Go.Proofs.YtgkmbbiebmamaaaDoor.Am
namespace Go.Proofs.YtgkmbbiebmamaaaDoor.Am
open Go
set_option maxRecDepth 100000
set_option maxHeartbeats 1000000
set_option linter.unusedSimpArgs false
set_option linter.unusedVariables false
def digB (b : UInt8) : Bool := decide (48 ≤ b.toNat) && decide (b.toNat ≤ 57)
theorem digB_dig {n : Nat} (h : n < 10) : ∀ b ∈ (dig n).data.toList, digB b = true := by
  obtain ⟨b, h1, h2⟩ := dig_list n h
  intro c hc
  rw [h1] at hc
  simp only [List.mem_cons, List.not_mem_nil, or_false] at hc
  subst hc
  simp only [digB, h2, Bool.and_eq_true, decide_eq_true_eq]; omega
abbrev decL (n : Nat) : List UInt8 := (decM n).data.toList
theorem decL_dig (n : Nat) : ∀ b ∈ decL n, digB b = true := by
  induction n using Nat.strongRecOn with
  | _ n ih =>
    intro b hb
    by_cases h : n < 10
    · unfold decL at hb; rw [decM_lt h] at hb; exact digB_dig h b hb
    · unfold decL at hb
      rw [decM_ge h, ByteArray.data_append, Array.toList_append, List.mem_append] at hb
      rcases hb with hb | hb
      · exact ih (n / 10) (by omega) b hb
      · exact digB_dig (by omega) b hb
theorem decL_ne (n : Nat) : decL n ≠ [] := by
  by_cases h : n < 10
  · obtain ⟨b, h1, _⟩ := dig_list n h
    unfold decL; rw [decM_lt h, h1]; simp
  · obtain ⟨b, h1, _⟩ := dig_list (n % 10) (by omega)
    unfold decL; rw [decM_ge h, ByteArray.data_append, Array.toList_append, h1]; simp
theorem decL_head (n : Nat) : (decL n).length = 1 ∨ ∃ b l, decL n = b :: l ∧ b.toNat ≠ 48 := by
  induction n using Nat.strongRecOn with
  | _ n ih =>
    by_cases h : n < 10
    · obtain ⟨b, h1, _⟩ := dig_list n h
      left; unfold decL; rw [decM_lt h, h1]; rfl
    · right
      obtain ⟨c, h1, _⟩ := dig_list (n % 10) (by omega)
      have e : decL n = decL (n / 10) ++ [c] := by
        show (decM n).data.toList = _
        rw [decM_ge h, ByteArray.data_append, Array.toList_append, h1]
      rw [e]
      rcases ih (n / 10) (by omega) with h2 | ⟨b, l, h2, h3⟩
      · by_cases h9 : n / 10 < 10
        · obtain ⟨b, h4, h5⟩ := dig_list (n / 10) h9
          have e2 : decL (n / 10) = [b] := by show (decM _).data.toList = _; rw [decM_lt h9, h4]
          exact ⟨b, [c], by rw [e2]; rfl, by omega⟩
        · exfalso
          have : decL (n / 10) = decL (n / 10 / 10) ++ (dig (n / 10 % 10)).data.toList := by
            show (decM _).data.toList = _
            rw [decM_ge h9, ByteArray.data_append, Array.toList_append]
          obtain ⟨d, h6, _⟩ := dig_list (n / 10 % 10) (by omega)
          rw [this, h6, List.length_append] at h2
          have hp := List.length_pos_iff.2 (decL_ne (n / 10 / 10))
          rw [List.length_singleton] at h2; omega
      · exact ⟨b, l ++ [c], by rw [h2]; rfl, h3⟩
def canon (l : List UInt8) : Prop := (∀ b ∈ l, digB b = true) ∧ l ≠ [] ∧ (l.length = 1 ∨ ∀ b t, l = b :: t → b.toNat ≠ 48)
theorem bval_pos : ∀ {l : List UInt8} {b : UInt8} {t : List UInt8}, (∀ b ∈ l, digB b = true) → l = b :: t → b.toNat ≠ 48 → 0 < bval l := by
  intro l
  induction h : l.length generalizing l with
  | zero => intro b t _ e; subst e; simp at h
  | succ k ih =>
    intro b t hd e hb
    rcases List.eq_nil_or_concat t with rfl | ⟨t', c, rfl⟩
    · subst e
      have := hd b (by simp)
      simp only [digB, Bool.and_eq_true, decide_eq_true_eq] at this
      simp only [bval, List.foldl_cons, List.foldl_nil]; omega
    · have e2 : l = (b :: t') ++ [c] := by rw [e]; simp
      have := ih (l := b :: t') (by rw [e2] at h; simp at h ⊢; omega) (fun x hx => hd x (by rw [e2]; simp at hx ⊢; rcases hx with h | h <;> simp [h])) rfl hb
      rw [e2, bval_snoc]; omega
theorem canon_dec : ∀ {l : List UInt8}, canon l → l = decL (bval l) := by
  intro l
  induction h : l.length generalizing l with
  | zero => intro hc; exact absurd (List.length_eq_zero_iff.1 h) hc.2.1
  | succ k ih =>
    rintro ⟨h1, h2, h3⟩
    rcases List.eq_nil_or_concat l with rfl | ⟨t, c, rfl⟩
    · exact absurd rfl h2
    simp only [List.concat_eq_append] at *
    have hc := h1 c (by simp)
    simp only [digB, Bool.and_eq_true, decide_eq_true_eq] at hc
    have hdig : ∀ d, d < 10 → c.toNat = 48 + d → (dig d).data.toList = [c] := by
      intro d hd e
      obtain ⟨b, g1, g2⟩ := dig_list d hd
      rw [g1]; congr 1; apply UInt8.toNat_inj.1; omega
    rw [bval_snoc]
    by_cases ht : t = []
    · subst ht
      show [c] = (decM _).data.toList
      have e0 : 10 * bval [] + (c.toNat - 48) = c.toNat - 48 := by simp [bval]
      rw [e0, decM_lt (by omega), hdig _ (by omega) (by omega)]
    · obtain ⟨b, t', e⟩ : ∃ b t', t = b :: t' := by cases t with | nil => exact absurd rfl ht | cons b t' => exact ⟨b, t', rfl⟩
      have hb : b.toNat ≠ 48 := by
        rcases h3 with h3 | h3
        · rw [e] at h3; simp at h3
        · exact h3 b (t' ++ [c]) (by rw [e]; rfl)
      have hd : ∀ x ∈ t, digB x = true := fun x hx => h1 x (by simp [hx])
      have hp := bval_pos hd e hb
      have hr := ih (l := t) (by simp at h; omega) ⟨hd, ht, .inr fun b2 t2 e2 => by rw [e] at e2; cases e2; exact hb⟩
      show _ = (decM _).data.toList
      have e1 : (10 * bval t + (c.toNat - 48)) / 10 = bval t := by omega
      have e2 : (10 * bval t + (c.toNat - 48)) % 10 = c.toNat - 48 := by omega
      rw [decM_ge (by omega), ByteArray.data_append, Array.toList_append, e1, e2, hdig _ (by omega) (by omega)]
      have hr' : t = (decM (bval t)).data.toList := hr
      conv => lhs; rw [hr']
theorem bval_lt : ∀ {l : List UInt8}, (∀ b ∈ l, digB b = true) → bval l < 10 ^ l.length := by
  intro l
  induction h : l.length generalizing l with
  | zero => intro _; rw [List.length_eq_zero_iff.1 h]; decide
  | succ k ih =>
    intro hd
    rcases List.eq_nil_or_concat l with rfl | ⟨t, c, rfl⟩
    · simp at h
    simp only [List.concat_eq_append] at *
    have hc := hd c (by simp)
    simp only [digB, Bool.and_eq_true, decide_eq_true_eq] at hc
    have := ih (l := t) (by simp at h; omega) (fun x hx => hd x (by simp [hx]))
    rw [bval_snoc, Nat.pow_succ]; omega
theorem canon_decL (n : Nat) : canon (decL n) := ⟨decL_dig n, decL_ne n, (decL_head n).imp id fun ⟨b, l, e, hb⟩ b2 t2 e2 => by rw [e] at e2; cases e2; exact hb⟩
theorem bval_decL (n : Nat) : bval (decL n) = n := bval_decM n
theorem decL_len {n : Nat} (h : n < 10000000000) : (decL n).length ≤ 10 := by
  have key : ∀ k n, n < 10 ^ (k + 1) → (decL n).length ≤ k + 1 := by
    intro k
    induction k with
    | zero =>
      intro n hn
      obtain ⟨b, h1, _⟩ := dig_list n (by omega)
      show (decM n).data.toList.length ≤ _
      rw [decM_lt (by omega), h1]; simp
    | succ k ih =>
      intro n hn
      by_cases h : n < 10
      · obtain ⟨b, h1, _⟩ := dig_list n (by omega)
        show (decM n).data.toList.length ≤ _
        rw [decM_lt (by omega), h1]; simp
      · obtain ⟨c, h1, _⟩ := dig_list (n % 10) (by omega)
        show (decM n).data.toList.length ≤ _
        rw [decM_ge h, ByteArray.data_append, Array.toList_append, h1, List.length_append]
        have := ih (n / 10) (by rw [Nat.pow_succ] at hn; omega)
        simp at this ⊢; omega
  exact key 9 n h
open Classical in
noncomputable def figM (s : ByteArray) : Int := if canon s.data.toList ∧ s.size ≤ 10 then (bval s.data.toList : Int) else -1
theorem size_list (s : ByteArray) : s.size = s.data.toList.length := rfl
theorem figM_dec (n : Nat) (h : n < 10000000000) : figM (decM n) = n := by
  unfold figM
  rw [if_pos ⟨canon_decL n, by rw [size_list]; exact decL_len h⟩]
  exact congrArg Int.ofNat (bval_decL n)
theorem figM_some {s : ByteArray} (h : 0 ≤ figM s) : ∃ n : Nat, figM s = n ∧ s = decM n ∧ n < 10000000000 := by
  unfold figM at h ⊢
  split at h
  · rename_i hc
    rw [if_pos hc]
    refine ⟨_, rfl, ByteArray.ext (Array.toList_inj.1 (canon_dec hc.1)), ?_⟩
    have := bval_lt hc.1.1
    have h10 : s.data.toList.length ≤ 10 := hc.2
    exact Nat.lt_of_lt_of_le this (Nat.pow_le_pow_right (by decide) h10)
  · omega
end Go.Proofs.YtgkmbbiebmamaaaDoor.Am
namespace Go.Proofs.YtgkmbbiebmamaaaDoor.Am
open Go Go.Proofs Go.Shelf Go.RowKit Go.Sort
set_option maxRecDepth 100000
set_option maxHeartbeats 1000000
set_option linter.unusedSimpArgs false
set_option linter.unusedVariables false
def layAtoi_ren : Go.Shelf.Ren := ⟨fun | 172 => 34 | 244 => 57 | 245 => 58 | 247 => 70 | 279 => 71 | 280 => 72 | 281 => 73 | 282 => 74 | 287 => 83 | 316 => 84 | 171 => 54 | 205 => 85 | 321 => 93 | 322 => 94 | 243 => 68 | 246 => 78 | 283 => 87 | 284 => 88 | 285 => 89 | 286 => 90 | 129 => 97 | 317 => 96 | 318 => 98 | 319 => 99 | 320 => 100 | 337 => 101 | 338 => 102 | n => n, fun | 9 => 9 | 3 => 3 | 75 => 55 | 76 => 56 | 4 => 4 | 5 => 5 | 167 => 82 | 37 => 32 | 0 => 0 | 85 => 83 | 2 => 2 | 168 => 85 | 53 => 94 | 175 => 95 | 46 => 93 | 210 => 99 | 127 => 110 | 145 => 113 | 143 => 111 | 21 => 21 | 171 => 101 | 173 => 104 | 212 => 115 | 51 => 106 | 20 => 20 | 213 => 116 | 232 => 119 | 233 => 120 | 80 => 121 | n => n, fun | 15 => 1 | 16 => 2 | 17 => 3 | 18 => 4 | 19 => 5 | n => n⟩
theorem layAtoi : LaysC.n172 Tryd.prog layAtoi_ren := {
  mixed := by kernel_rfl
  f129 := Tryd.func97.trans (congrArg some (by kernel_rfl))
  f171 := Tryd.func54.trans (congrArg some (by kernel_rfl))
  f172 := Tryd.func34.trans (congrArg some (by kernel_rfl))
  f205 := Tryd.func85.trans (congrArg some (by kernel_rfl))
  f243 := Tryd.func68.trans (congrArg some (by kernel_rfl))
  f244 := Tryd.func57.trans (congrArg some (by kernel_rfl))
  f245 := Tryd.func58.trans (congrArg some (by kernel_rfl))
  f246 := Tryd.func78.trans (congrArg some (by kernel_rfl))
  f247 := Tryd.func70.trans (congrArg some (by kernel_rfl))
  f279 := Tryd.func71.trans (congrArg some (by kernel_rfl))
  f280 := Tryd.func72.trans (congrArg some (by kernel_rfl))
  f281 := Tryd.func73.trans (congrArg some (by kernel_rfl))
  f282 := Tryd.func74.trans (congrArg some (by kernel_rfl))
  f283 := Tryd.func87.trans (congrArg some (by kernel_rfl))
  f284 := Tryd.func88.trans (congrArg some (by kernel_rfl))
  f285 := Tryd.func89.trans (congrArg some (by kernel_rfl))
  f286 := Tryd.func90.trans (congrArg some (by kernel_rfl))
  f287 := Tryd.func83.trans (congrArg some (by kernel_rfl))
  f316 := Tryd.func84.trans (congrArg some (by kernel_rfl))
  f317 := Tryd.func96.trans (congrArg some (by kernel_rfl))
  f318 := Tryd.func98.trans (congrArg some (by kernel_rfl))
  f319 := Tryd.func99.trans (congrArg some (by kernel_rfl))
  f320 := Tryd.func100.trans (congrArg some (by kernel_rfl))
  f321 := Tryd.func93.trans (congrArg some (by kernel_rfl))
  f322 := Tryd.func94.trans (congrArg some (by kernel_rfl))
  f337 := Tryd.func101.trans (congrArg some (by kernel_rfl))
  f338 := Tryd.func102.trans (congrArg some (by kernel_rfl))
  t0 := Tryd.underlying0
  a0 := Tryd.isAgg0
  z0 := Tryd.sizeOf0
  v0 := Tryd.zeroValue0
  t2 := Tryd.underlying2
  a2 := Tryd.isAgg2
  z2 := Tryd.sizeOf2
  v2 := Tryd.zeroValue2
  t3 := Tryd.underlying3
  a3 := Tryd.isAgg3
  z3 := Tryd.sizeOf3
  v3 := Tryd.zeroValue3
  t4 := Tryd.underlying4
  a4 := Tryd.isAgg4
  z4 := Tryd.sizeOf4
  v4 := Tryd.zeroValue4
  t5 := Tryd.underlying5
  a5 := Tryd.isAgg5
  z5 := Tryd.sizeOf5
  v5 := Tryd.zeroValue5
  t9 := Tryd.underlying9
  a9 := Tryd.isAgg9
  z9 := Tryd.sizeOf9
  v9 := Tryd.zeroValue9
  t20 := Tryd.underlying20
  a20 := Tryd.isAgg20
  z20 := Tryd.sizeOf20
  v20 := Tryd.zeroValue20
  t21 := Tryd.underlying21
  a21 := Tryd.isAgg21
  z21 := Tryd.sizeOf21
  v21 := Tryd.zeroValue21
  t37 := Tryd.underlying32
  a37 := Tryd.isAgg32
  z37 := Tryd.sizeOf32
  v37 := Tryd.zeroValue32
  t46 := Tryd.underlying93
  a46 := Tryd.isAgg93
  z46 := Tryd.sizeOf93
  v46 := Tryd.zeroValue93
  t51 := Tryd.underlying106
  a51 := Tryd.isAgg106
  z51 := Tryd.sizeOf106
  v51 := Tryd.zeroValue106
  t53 := Tryd.underlying94
  a53 := Tryd.isAgg94
  z53 := Tryd.sizeOf94
  v53 := Tryd.zeroValue94
  t75 := Tryd.underlying55
  a75 := Tryd.isAgg55
  z75 := Tryd.sizeOf55
  v75 := Tryd.zeroValue55
  t76 := Tryd.underlying56
  a76 := Tryd.isAgg56
  z76 := Tryd.sizeOf56
  v76 := Tryd.zeroValue56
  t85 := Tryd.underlying83
  a85 := Tryd.isAgg83
  z85 := Tryd.sizeOf83
  v85 := Tryd.zeroValue83
  t127 := Tryd.underlying110
  a127 := Tryd.isAgg110
  z127 := Tryd.sizeOf110
  v127 := Tryd.zeroValue110
  t143 := Tryd.underlying111
  a143 := Tryd.isAgg111
  z143 := Tryd.sizeOf111
  v143 := Tryd.zeroValue111
  t145 := Tryd.underlying113
  a145 := Tryd.isAgg113
  z145 := Tryd.sizeOf113
  v145 := Tryd.zeroValue113
  t167 := Tryd.underlying82
  a167 := Tryd.isAgg82
  z167 := Tryd.sizeOf82
  v167 := Tryd.zeroValue82
  t168 := Tryd.underlying85
  a168 := Tryd.isAgg85
  z168 := Tryd.sizeOf85
  v168 := Tryd.zeroValue85
  t171 := Tryd.underlying101
  a171 := Tryd.isAgg101
  z171 := Tryd.sizeOf101
  v171 := Tryd.zeroValue101
  t173 := Tryd.underlying104
  a173 := Tryd.isAgg104
  z173 := Tryd.sizeOf104
  v173 := Tryd.zeroValue104
  t175 := Tryd.underlying95
  a175 := Tryd.isAgg95
  z175 := Tryd.sizeOf95
  v175 := Tryd.zeroValue95
  t210 := Tryd.underlying99
  a210 := Tryd.isAgg99
  z210 := Tryd.sizeOf99
  v210 := Tryd.zeroValue99
  t212 := Tryd.underlying115
  a212 := Tryd.isAgg115
  z212 := Tryd.sizeOf115
  v212 := Tryd.zeroValue115
  t213 := Tryd.underlying116
  a213 := Tryd.isAgg116
  z213 := Tryd.sizeOf116
  t232 := Tryd.underlying119
  a232 := Tryd.isAgg119
  z232 := Tryd.sizeOf119
  v232 := Tryd.zeroValue119
  t233 := Tryd.underlying120
  a233 := Tryd.isAgg120
  z233 := Tryd.sizeOf120
  v233 := Tryd.zeroValue120
  g15 := by kernel_rfl
  g16 := by kernel_rfl
  g17 := by kernel_rfl
  g18 := by kernel_rfl
  g19 := by kernel_rfl
  t80 := Tryd.underlying121
  a80 := Tryd.isAgg121
  z80 := Tryd.sizeOf121
  v80 := Tryd.zeroValue121
  i0 := by kernel_rfl
  i2 := by kernel_rfl
  i3 := by kernel_rfl
  i4 := by kernel_rfl
  i5 := by kernel_rfl
  i9 := by kernel_rfl
  i20 := by kernel_rfl
  i21 := by kernel_rfl
  i37 := by kernel_rfl
  i46 := by kernel_rfl
  i51 := by kernel_rfl
  i53 := by kernel_rfl
  i75 := by kernel_rfl
  i76 := by kernel_rfl
  i80 := by kernel_rfl
  i85 := by kernel_rfl
  i127 := by kernel_rfl
  i143 := by kernel_rfl
  i145 := by kernel_rfl
  i167 := by kernel_rfl
  i168 := by kernel_rfl
  i171 := by kernel_rfl
  i173 := by kernel_rfl
  i175 := by kernel_rfl
  i210 := by kernel_rfl
  i212 := by kernel_rfl
  i232 := by kernel_rfl
  i233 := by kernel_rfl
  m15 := by kernel_rfl
  m16 := by kernel_rfl
  m17 := by kernel_rfl
  m18 := by kernel_rfl
  m19 := by kernel_rfl
  c0 := Eq.refl (some false)
  c2 := Eq.refl (some true)
  c3 := Eq.refl (some true)
  c4 := Eq.refl (some true)
  c5 := Eq.refl (some true)
  c9 := Eq.refl (some true)
  c20 := Eq.refl (some true)
  c21 := Eq.refl (some true)
  c37 := Eq.refl (some false)
  c46 := Eq.refl (some true)
  c51 := Eq.refl (some true)
  c53 := Eq.refl (some true)
  c75 := Eq.refl (some true)
  c76 := Eq.refl (some false)
  c80 := Eq.refl (some false)
  c85 := Eq.refl (some false)
  c127 := Eq.refl (some true)
  c143 := Eq.refl (some true)
  c145 := Eq.refl (some true)
  c167 := Eq.refl (some true)
  c168 := Eq.refl (some true)
  c171 := Eq.refl (some true)
  c173 := Eq.refl (some false)
  c175 := Eq.refl (some false)
  c210 := Eq.refl (some true)
  c212 := Eq.refl (some true)
  c213 := Eq.refl (some true)
  c232 := Eq.refl (some true)
  c233 := Eq.refl (some true)
}
def layCut_ren : Go.Shelf.Ren := ⟨fun | 145 => 33 | 220 => 56 | 219 => 69 | 217 => 79 | 225 => 80 | 224 => 81 | 267 => 82 | 266 => 91 | 314 => 92 | n => n, fun | 9 => 9 | 4 => 4 | 59 => 52 | 3 => 3 | 5 => 5 | 46 => 93 | 146 => 107 | 51 => 106 | n => n, fun | 1 => 0 | n => n⟩
theorem layCut : Lays.n145 Tryd.prog layCut_ren := {
  mixed := by kernel_rfl
  f145 := Tryd.func33.trans (congrArg some (by kernel_rfl))
  f217 := Tryd.func79.trans (congrArg some (by kernel_rfl))
  f219 := Tryd.func69.trans (congrArg some (by kernel_rfl))
  f220 := Tryd.func56.trans (congrArg some (by kernel_rfl))
  f224 := Tryd.func81.trans (congrArg some (by kernel_rfl))
  f225 := Tryd.func80.trans (congrArg some (by kernel_rfl))
  f266 := Tryd.func91.trans (congrArg some (by kernel_rfl))
  f267 := Tryd.func82.trans (congrArg some (by kernel_rfl))
  f314 := Tryd.func92.trans (congrArg some (by kernel_rfl))
  t3 := Tryd.underlying3
  a3 := Tryd.isAgg3
  z3 := Tryd.sizeOf3
  v3 := Tryd.zeroValue3
  t4 := Tryd.underlying4
  a4 := Tryd.isAgg4
  z4 := Tryd.sizeOf4
  v4 := Tryd.zeroValue4
  t5 := Tryd.underlying5
  a5 := Tryd.isAgg5
  z5 := Tryd.sizeOf5
  v5 := Tryd.zeroValue5
  t9 := Tryd.underlying9
  a9 := Tryd.isAgg9
  z9 := Tryd.sizeOf9
  v9 := Tryd.zeroValue9
  t46 := Tryd.underlying93
  a46 := Tryd.isAgg93
  z46 := Tryd.sizeOf93
  v46 := Tryd.zeroValue93
  t51 := Tryd.underlying106
  a51 := Tryd.isAgg106
  z51 := Tryd.sizeOf106
  v51 := Tryd.zeroValue106
  t59 := Tryd.underlying52
  a59 := Tryd.isAgg52
  z59 := Tryd.sizeOf52
  v59 := Tryd.zeroValue52
  t146 := Tryd.underlying107
  a146 := Tryd.isAgg107
  z146 := Tryd.sizeOf107
  v146 := Tryd.zeroValue107
  g1 := by kernel_rfl
}
theorem WStep.of_below {w w' : World} (h : Below w.heap.size w w') : WStep w w' none := ⟨h.os, h.tape, h.output, trivial, h.size, fun b hb _ => h.block b hb⟩
theorem fold_ge : ∀ (l : List UInt8) (a : Nat), a ≤ l.foldl (fun a b => 10 * a + (b.toNat - 48)) a
  | [], a => Nat.le_refl _
  | b :: l, a => by
    rw [List.foldl_cons]
    exact Nat.le_trans (by omega) (fold_ge l _)
theorem parse_dec : ∀ (l : List UInt8) (a : Nat), (∀ b ∈ l, digB b = true) → l.foldl (fun a b => 10 * a + (b.toNat - 48)) a < 1000000000000000000 → Lib.parseUint10 a l = .ok (l.foldl (fun a b => 10 * a + (b.toNat - 48)) a)
  | [], a, _, _ => rfl
  | c :: l, a, hd, hb => by
    have hc := hd c (by simp)
    simp only [digB, Bool.and_eq_true, decide_eq_true_eq] at hc
    rw [List.foldl_cons] at hb ⊢
    have h1 := fold_ge l (10 * a + (c.toNat - 48))
    unfold Lib.parseUint10
    rw [if_pos hc, if_neg (by omega), if_neg (by omega), show a * 10 + (c.toNat - 48) = 10 * a + (c.toNat - 48) by omega]
    exact parse_dec l _ (fun b hb => hd b (by simp [hb])) hb
theorem atoi_dec (k : Nat) (hk : k < 100000000000000000) : Lib.atoiAll (decL k) = .ok (k : Int) := by
  have hne := decL_ne k
  have hd := decL_dig k
  have hv : (decL k).foldl (fun a b => 10 * a + (b.toNat - 48)) 0 = k := bval_decL k
  have hp := parse_dec (decL k) 0 hd (by rw [hv]; omega)
  rw [hv] at hp
  cases hl : decL k with
  | nil => exact absurd hl hne
  | cons c r =>
    rw [hl] at hp hd
    have hc := hd c (by simp)
    simp only [digB, Bool.and_eq_true, decide_eq_true_eq] at hc
    unfold Lib.atoiAll
    have e1 : (if c.toNat = 43 ∨ c.toNat = 45 then r else c :: r) = c :: r := if_neg (by omega)
    simp only [e1]
    have e2 : Lib.parseMag (c :: r) = .ok k := by unfold Lib.parseMag; rw [if_neg (by simp)]; exact hp
    rw [e2]
    have e3 : ¬ c.toNat = 45 := by omega
    have e4 : ¬ 9223372036854775808 ≤ k := by omega
    simp [e3, e4]
theorem p_Atoi : Plain Tryd.prog 34 := ⟨_, Tryd.func34, rfl, by decide⟩
theorem s_Atoi (s : ByteArray) (hs : s.size ≤ 281474976710656) : Spec Tryd.prog 34 [.t (.str s)] (fun r => ∃ n : Int, r = .tup [I n, .undef] ∧ (-9223372036854775808 ≤ n ∧ n ≤ 9223372036854775807) ∧ ∀ k : Nat, k < 100000000000000000 → s = decM k → n = k) := by
  intro w D vs hD hv
  match vs, hv with
  | [v], ⟨hv, _⟩ =>
    have hv' : v = .string s := by cases hv; rfl
    subst hv'
    have out : ∀ (n : Int) (e : Value) (w' : World), WStep w w' none → Out w D w' (.tup [I n, .undef]) (.tuple #[.int .i64 n, e]) := fun n e w' hw =>
      ⟨hw, fun _ => none, (fun b p hb => by cases hb), [.int .i64 n, e], rfl, .int _ _, trivial, trivial⟩
    rcases h : Lib.atoiAll s.data.toList with n | _ | _
    · refine (Any.strconv_Atoi_ok layAtoi s (by omega) n h w).mono fun e w' => ?_
      rintro ⟨rfl, hw⟩
      refine ⟨_, _, rfl, ⟨n, rfl, Lib.atoiAll_bounds h, fun k hk e => ?_⟩, out n _ w' ?_⟩
      · subst e
        have := atoi_dec k hk
        rw [show decL k = (decM k).data.toList from rfl, h] at this
        injection this
      · rcases hw with rfl | ⟨t, rfl⟩
        · exact WStep.same _
        · exact WStep.of_below (Lib.bytesWorld_below w _ _)
    · obtain ⟨tp, p, hp⟩ := hD.gl.syn
      refine (Any.strconv_Atoi_syntax_var layAtoi s hs h tp p w hp).mono fun e w' => ?_
      rintro ⟨N, rfl, _, _, hb⟩
      refine ⟨_, _, rfl, ⟨0, rfl, by omega, fun k hk e => ?_⟩, out 0 _ w' (WStep.of_below hb)⟩
      subst e
      have := atoi_dec k hk
      rw [show decL k = (decM k).data.toList from rfl, h] at this
      cases this
    · obtain ⟨tp, p, hp⟩ := hD.gl.rng
      refine (Any.strconv_Atoi_range_var layAtoi s hs h tp p w hp).mono fun e w' => ?_
      rintro ⟨N, rfl, _, _, hb⟩
      refine ⟨_, _, rfl, ⟨_, rfl, Lib.atoiSat_bounds _, fun k hk e => ?_⟩, out _ _ w' (WStep.of_below hb)⟩
      subst e
      have := atoi_dec k hk
      rw [show decL k = (decM k).data.toList from rfl, h] at this
      cases this
theorem index_at : ∀ {a b : List UInt8}, (45 : UInt8) ∉ a → Lib.index (a ++ 45 :: b) [45] = a.length
  | [], b, _ => by unfold Lib.index; simp [List.isPrefixOf]
  | c :: a, b, h => by
    have hc : ¬ (45 : UInt8) = c := fun e => h (by simp [e])
    have hl := index_at (a := a) (b := b) (fun hm => h (by simp [hm]))
    rw [List.cons_append]
    unfold Lib.index
    rw [hl]
    have : ¬ ((a.length : Int) = -1) := by omega
    simp [List.isPrefixOf, hc, this]
theorem p_Cut : Plain Tryd.prog 33 := ⟨_, Tryd.func33, rfl, by decide⟩
theorem s_Cut (s : ByteArray) (hs : s.size < 4294967281) : Spec Tryd.prog 33 [.t (.str s), .t (.str ⟨#[45]⟩)] (fun r => ∃ a b : ByteArray, ∃ f : Bool, r = .tup [.t (.str a), .t (.str b), Bo f] ∧ a.size ≤ s.size ∧ b.size ≤ s.size ∧
    ∀ x y : List UInt8, s.data.toList = x ++ 45 :: y → (45 : UInt8) ∉ x → a.data.toList = x ∧ b.data.toList = y) := by
  intro w D vs hD hv
  match vs, hv with
  | [v, u], ⟨hv, hu, _⟩ =>
    have hv' : v = .string s := by cases hv; rfl
    have hu' : u = .string ⟨#[45]⟩ := by cases hu; rfl
    subst hv' hu'
    obtain ⟨m, hm⟩ := hD.gl.max
    refine (Any.strings_Cut layCut s ⟨#[45]⟩ m w hs hm).mono fun e w' => ?_
    rintro ⟨rfl, n, rfl⟩
    refine ⟨_, _, rfl, ⟨⟨(Lib.cut s.data.toList [45]).1.toArray⟩, ⟨(Lib.cut s.data.toList [45]).2.1.toArray⟩, (Lib.cut s.data.toList [45]).2.2, rfl, ?_, ?_, fun x y e hx => ?_⟩, ⟨⟨rfl, rfl, rfl, trivial, Nat.le_refl _, fun _ _ _ => rfl⟩, fun _ => none, (fun b p hb => by cases hb), [_, _, _], rfl, .str _, .str _, .bool _, trivial⟩⟩
    · show (Lib.cut s.data.toList [45]).1.toArray.size ≤ s.data.toList.length
      unfold Lib.cut; split <;> simp
      exact Nat.min_le_right _ _
    · show (Lib.cut s.data.toList [45]).2.1.toArray.size ≤ s.data.toList.length
      unfold Lib.cut; split <;> simp
    · have := index_at (a := x) (b := y) hx
      rw [← e] at this
      unfold Lib.cut
      rw [this, if_pos (by omega)]
      simp [e]
end Go.Proofs.YtgkmbbiebmamaaaDoor.Am
namespace Go.Proofs.YtgkmbbiebmamaaaDoor.Am
open Go
set_option maxRecDepth 100000
set_option maxHeartbeats 1000000
set_option linter.unusedSimpArgs false
set_option linter.unusedVariables false
theorem byteAt_nat {s : ByteArray} {i : Nat} (h : i < s.data.toList.length) : byteAt s (i : Int) = ((s.data.toList[i].toNat : Nat) : Int) := by
  have h2 : i < s.size := h
  have h3 : i < s.data.size := h
  simp [byteAt, Array.getD, h3, h2]
theorem digB_no {b : UInt8} (h : ¬ (48 ≤ (b.toNat : Int) ∧ (b.toNat : Int) ≤ 57)) : digB b = false := by
  simp only [digB, Bool.and_eq_false_iff, decide_eq_false_iff_not]; omega
theorem digB_yes {b : UInt8} (h : 48 ≤ (b.toNat : Int) ∧ (b.toNat : Int) ≤ 57) : digB b = true := by
  simp only [digB, Bool.and_eq_true, decide_eq_true_eq]; omega
theorem figM_no {s : ByteArray} (h : ¬ (canon s.data.toList ∧ s.size ≤ 10)) : figM s = -1 := by unfold figM; rw [if_neg h]
theorem p_l1Figures : Plain Tryd.prog 32 := ⟨_, Tryd.func32, rfl, by decide⟩
theorem s_l1Figures (s : ByteArray) (hs : s.size ≤ 1099511627776) : Spec Tryd.prog 32 [.t (.str s)] (fun r => r = I (figM s)) := by
  refine Spec.of tysOk mixed Tryd.func32 rfl (by decide) ?_
  obtain ⟨l, hl⟩ : ∃ l, l = s.data.toList := ⟨_, rfl⟩
  have hsz : s.size = l.length := by rw [hl]; rfl
  simp -implicitDefEqProofs only [go_sem, Tryd.f32]
  refine LoopW.slotsM [true, false, false, true, true, false, false, false, false, false, false, false, false, false, false, false, false, false, false, false, false, false, false, false, false, false, false, false, false, false, false, false, false, false, false, false, false, false, false, false, false, false, false, false, false, false] (α := Nat × Nat) (fun x => [(3, I x.2), (4, I x.1)]) (fun x => []) (fun x => s.size - x.1) (fun x => (x.1 ≤ s.size ∧ ∀ j (h : j < l.length), j < x.1 → digB l[j] = true) ∧ x.2 = bval (l.take (min x.1 10))) (0, 0) (by simp -implicitDefEqProofs only [go_sem, LeTs_undef, LeTs_same, LeTs_nil]; try simp [LeTs]) rfl ⟨⟨by simp, fun _ _ h => by cases h⟩, by simp [bval]⟩ ?_
  rintro ⟨i, n⟩ ⟨⟨hi, hj⟩, hn⟩
  simp only at hi hj hn
  have hdt : ∀ k, k ≤ i → ∀ b ∈ l.take k, digB b = true := fun k hk b hb => by
    obtain ⟨j, hjl, e⟩ := List.getElem_of_mem hb
    rw [List.getElem_take] at e
    rw [← e]
    rw [List.length_take] at hjl
    exact hj j (by omega) (by omega)
  have hn10 : n < 10000000000 := by
    have := bval_lt (hdt (min i 10) (by omega))
    rw [← hn] at this
    have h10 : (l.take (min i 10)).length ≤ 10 := by rw [List.length_take]; omega
    exact Nat.lt_of_lt_of_le this (Nat.le_trans (Nat.pow_le_pow_right (n := 10) (by decide) h10) (by decide))
  simp -implicitDefEqProofs only [go_sem]
  refine BrA_i (fun h => ?_) (fun h => ?_) <;> simp -implicitDefEqProofs only [go_sem]
  · have h : i < s.size := by simp at h; omega
    have h' : i < l.length := by omega
    have h0i : (0 : Int) ≤ i := by omega
    have h1i : (i : Int) < s.size := by omega
    have wi : IntKind.i64.wrap ((i : Int) + 1) = ((i + 1 : Nat) : Int) := by rw [wrap64 (by omega) (by omega)]; omega
    have hb : byteAt s (i : Int) = ((l[i].toNat : Nat) : Int) := by subst hl; exact byteAt_nat h'
    have hb2 : l[i].toNat < 256 := l[i].toNat_lt
    have no : ¬ (48 ≤ (l[i].toNat : Int) ∧ (l[i].toNat : Int) ≤ 57) → AV.t (T.int .i64 (-1)) = I (figM s) := fun hh => by
      rw [figM_no (fun hc => by
        have := hc.1.1 l[i] (by rw [← hl]; exact List.getElem_mem h')
        rw [digB_no hh] at this; cases this)]
    simp -implicitDefEqProofs only [go_sem, h0i, h1i, hb]
    refine BrA_i (fun h2 => ?_) (fun h2 => ?_) <;> simp -implicitDefEqProofs only [go_sem, h0i, h1i, hb]
    · exact no (fun hc => by simp at h2; omega)
    refine BrA_i (fun h3 => ?_) (fun h3 => ?_) <;> simp -implicitDefEqProofs only [go_sem, h0i, h1i, hb]
    · exact no (fun hc => by simp at h3; omega)
    have hd : 48 ≤ (l[i].toNat : Int) ∧ (l[i].toNat : Int) ≤ 57 := by simp at h2 h3; omega
    have hdig := digB_yes hd
    have hj' : ∀ j (h : j < l.length), j < i + 1 → digB l[j] = true := fun j h5 h6 => by
      by_cases e : j < i
      · exact hj j h5 e
      · obtain rfl : j = i := by omega
        exact hdig
    refine BrA_i (fun h4 => ?_) (fun h4 => ?_) <;> simp -implicitDefEqProofs only [go_sem, h0i, h1i, hb]
    · have h4 : i < 10 := by simp at h4; omega
      have w1 : IntKind.i64.wrap ((n : Int) * 10) = ((10 * n : Nat) : Int) := by rw [wrap64 (by omega) (by omega)]; omega
      have w2 : IntKind.u8.wrap ((l[i].toNat : Int) - 48) = ((l[i].toNat - 48 : Nat) : Int) := by
        simp [IntKind.wrap, IntKind.signed, IntKind.bits]; omega
      have w3 : IntKind.i64.wrap (((l[i].toNat - 48 : Nat) : Int)) = ((l[i].toNat - 48 : Nat) : Int) := wrap64 (by omega) (by omega)
      have w4 : IntKind.i64.wrap (((10 * n : Nat) : Int) + ((l[i].toNat - 48 : Nat) : Int)) = ((10 * n + (l[i].toNat - 48) : Nat) : Int) := by rw [wrap64 (by omega) (by omega)]; omega
      simp -implicitDefEqProofs only [go_sem, w1, w2, w3, w4, wi]
      refine .to [] (i + 1, 10 * n + (l[i].toNat - 48)) rfl ?_ ?_ (by show s.size - (i + 1) < s.size - i; omega) ⟨⟨by show i + 1 ≤ s.size; omega, hj'⟩, ?_⟩
      · simp -implicitDefEqProofs only [go_sem, LeTs_undef, LeTs_same, LeTs_nil]
      · rfl
      · show 10 * n + (l[i].toNat - 48) = bval (l.take (min (i + 1) 10))
        rw [show min (i + 1) 10 = i + 1 by omega, List.take_add_one, List.getElem?_eq_getElem h', hn, show min i 10 = i by omega]
        exact (bval_snoc _ _).symm
    · have h4 : 10 ≤ i := by simp at h4; omega
      simp -implicitDefEqProofs only [go_sem, wi]
      refine .to [] (i + 1, n) rfl ?_ ?_ (by show s.size - (i + 1) < s.size - i; omega) ⟨⟨by show i + 1 ≤ s.size; omega, hj'⟩, ?_⟩
      · simp -implicitDefEqProofs only [go_sem, LeTs_undef, LeTs_same, LeTs_nil]
      · rfl
      · show n = bval (l.take (min (i + 1) 10))
        rw [hn, show min (i + 1) 10 = 10 by omega, show min i 10 = 10 by omega]
  · have h : i = s.size := by simp at h; omega
    subst h
    refine CallW.one (s_l1In s.size 1 10) p_l1In (by first | (simp -implicitDefEqProofs only [go_sem]; done) | ((conv => lhs; simp -implicitDefEqProofs only [go_sem]); done) | (simp -implicitDefEqProofs only [go_sem]; rfl) | rfl) (by first | trivial | (simp [DeepR, DeepV, DeepVs, DeepC, DeepCs, T.scal]; done)) ?_
    cases hw : withinM s.size 1 10
    · simp -implicitDefEqProofs only [go_sem, hw, Bool.not_false]
      rw [figM_no (fun hc => by
        have h2 : s.data.toList.length ≠ 0 := fun e => hc.1.2.1 (List.length_eq_zero_iff.1 e)
        rw [← hl, ← hsz] at h2
        have : withinM s.size 1 10 = true := by
          unfold withinM; simp only [Bool.and_eq_true, decide_eq_true_eq]; have := hc.2; omega
        rw [hw] at this; cases this)]
    have hw2 : 1 ≤ s.size ∧ s.size ≤ 10 := by
      unfold withinM at hw; simp only [Bool.and_eq_true, decide_eq_true_eq] at hw; omega
    simp -implicitDefEqProofs only [go_sem, hw, Bool.not_true]
    have hn' : n = bval l := by rw [hn, List.take_of_length_le (by omega)]
    have hall : ∀ b ∈ l, digB b = true := fun b hb => by
      obtain ⟨j, hjl, e⟩ := List.getElem_of_mem hb
      rw [← e]; exact hj j hjl (by omega)
    have hne : l ≠ [] := fun e => by rw [e, List.length_nil] at hsz; omega
    refine BrA_i (fun h2 => ?_) (fun h2 => ?_) <;> simp -implicitDefEqProofs only [go_sem]
    · have h2 : 1 < s.size := by simp at h2; omega
      have h1i : (0 : Int) < s.size := by omega
      have h0 : 0 < l.length := by omega
      have hb : byteAt s 0 = ((l[0].toNat : Nat) : Int) := by subst hl; exact byteAt_nat (i := 0) h0
      simp -implicitDefEqProofs only [go_sem, h1i, hb, Int.le_refl]
      refine BrA_i (fun h3 => ?_) (fun h3 => ?_) <;> simp -implicitDefEqProofs only [go_sem]
      · rw [figM_no (fun hc => by
          rcases hc.1.2.2 with h5 | h5
          · rw [← hl] at h5; omega
          · have h6 := of_decide_eq_true h3
            refine h5 l[0] (l.drop 1) ?_ (by omega)
            rw [← hl]; cases l with
            | nil => exact absurd rfl hne
            | cons a t => rfl)]
      · have hc : canon s.data.toList ∧ s.size ≤ 10 := by
          rw [← hl]
          refine ⟨⟨hall, hne, .inr fun b t e e2 => ?_⟩, hw2.2⟩
          subst e
          have h6 := of_decide_eq_false h3
          simp only [List.getElem_cons_zero] at h6
          omega
        unfold figM
        rw [if_pos hc, ← hl, hn']
    · have h2 : s.size = 1 := by simp at h2; omega
      have hc : canon s.data.toList ∧ s.size ≤ 10 := by
        rw [← hl]
        exact ⟨⟨hall, hne, .inl (by omega)⟩, hw2.2⟩
      unfold figM
      rw [if_pos hc, ← hl, hn']
end Go.Proofs.YtgkmbbiebmamaaaDoor.Am
namespace Go.Proofs.YtgkmbbiebmamaaaDoor.Am
open Go
set_option maxRecDepth 100000
set_option maxHeartbeats 1000000
set_option linter.unusedSimpArgs false
set_option linter.unusedVariables false
theorem withinM_n {n a b : Int} (h : withinM n a b = true) : a ≤ n ∧ n ≤ b := by
  unfold withinM at h
  simp only [Bool.and_eq_true, decide_eq_true_eq] at h
  omega
def idText (x : Idt) : ByteArray := if idOkM x.t x.n = true then decM x.t.toNat ++ ⟨#[45]⟩ ++ decM x.n.toNat else ⟨#[]⟩
theorem idOkM_nat {x : Idt} (h : idOkM x.t x.n = true) : ∃ t n : Nat, x = ⟨t, n⟩ ∧ t ≤ 1000000 ∧ n ≤ 1000000000 := by
  unfold idOkM at h
  simp only [Bool.and_eq_true] at h
  have h1 := withinM_n h.1
  have h2 := withinM_n h.2
  obtain ⟨t, n⟩ := x
  simp only at h1 h2
  obtain ⟨t, rfl⟩ := Int.eq_ofNat_of_zero_le h1.1
  obtain ⟨n, rfl⟩ := Int.eq_ofNat_of_zero_le h2.1
  exact ⟨t, n, rfl, by omega, by omega⟩
theorem p_numberText : Plain Tryd.prog 31 := ⟨_, Tryd.func31, rfl, by decide⟩
theorem s_numberText (n : Nat) (h : n ≤ 1000000000) : Spec Tryd.prog 31 [I n] (fun r => r = .t (.str (decM n))) := by
  refine Spec.of tysOk mixed Tryd.func31 rfl (by decide) ?_
  simp -implicitDefEqProofs only [go_sem, Tryd.f31]
  refine CallW.one (s_Itoa n (by omega) (by omega)) p_Itoa (by first | (simp -implicitDefEqProofs only [go_sem]; done) | ((conv => lhs; simp -implicitDefEqProofs only [go_sem]); done) | (simp -implicitDefEqProofs only [go_sem]; rfl) | rfl) (by first | trivial | (simp [DeepR, DeepV, DeepVs, DeepC, DeepCs, T.scal]; done)) ?_
  simp -implicitDefEqProofs only [go_sem, itoa_dec]
theorem sz1 : (⟨#[45]⟩ : ByteArray).size = 1 := rfl
theorem p_IdPut : Plain Tryd.prog 10 := ⟨_, Tryd.func10, rfl, by decide⟩
theorem s_IdPut (x : Idt) : Spec Tryd.prog 10 [x.av] (fun r => r = .t (.str (idText x))) := by
  refine Spec.of tysOk mixed Tryd.func10 rfl (by decide) ?_
  simp -implicitDefEqProofs only [go_sem, Tryd.f10]
  refine CallW.one (s_idOk x.t x.n) p_idOk (by first | (simp -implicitDefEqProofs only [go_sem]; done) | ((conv => lhs; simp -implicitDefEqProofs only [go_sem]); done) | (simp -implicitDefEqProofs only [go_sem]; rfl) | rfl) (by first | trivial | (simp [DeepR, DeepV, DeepVs, DeepC, DeepCs, T.scal]; done)) ?_
  cases h : idOkM x.t x.n
  · simp -implicitDefEqProofs only [go_sem, Bool.not_false, h]
    simp [idText, h]
  obtain ⟨t, n, rfl, h1, h2⟩ := idOkM_nat h
  have s1 := decM_size t (by omega)
  have s2 := decM_size n (by omega)
  have e1 : ((decM t).size : Int) + (⟨#[45]⟩ : ByteArray).size ≤ strMax := by rw [sz1]; unfold strMax; omega
  have e2 : ((decM t ++ ⟨#[45]⟩ : ByteArray).size : Int) + (decM n).size ≤ strMax := by rw [ByteArray.size_append, sz1]; unfold strMax; omega
  simp -implicitDefEqProofs only [go_sem, Bool.not_true, h]
  refine RegD_of sch_10_3 tysOk (by kernel_rfl) ?_
  simp -implicitDefEqProofs only [go_sem]
  refine CallW.one (s_numberText t (by omega)) p_numberText (by first | (simp -implicitDefEqProofs only [go_sem]; done) | ((conv => lhs; simp -implicitDefEqProofs only [go_sem]); done) | (simp -implicitDefEqProofs only [go_sem]; rfl) | rfl) (by first | trivial | (simp [DeepR, DeepV, DeepVs, DeepC, DeepCs, T.scal]; done)) ?_
  simp -implicitDefEqProofs only [go_sem, e1]
  refine ⟨by first | exact e1 | (rw [sz1] at e1; exact e1), ?_⟩
  refine CallW.one (s_numberText n (by omega)) p_numberText (by first | (simp -implicitDefEqProofs only [go_sem]; done) | ((conv => lhs; simp -implicitDefEqProofs only [go_sem]); done) | (simp -implicitDefEqProofs only [go_sem]; rfl) | rfl) (by first | trivial | (simp [DeepR, DeepV, DeepVs, DeepC, DeepCs, T.scal]; done)) ?_
  simp -implicitDefEqProofs only [go_sem, e2]
  refine ⟨by rw [ByteArray.size_append, sz1] at e2; exact e2, ?_⟩
  simp [idText, h]
theorem p_sIdPut : Plain Tryd.prog 8 := ⟨_, Tryd.func8, rfl, by decide⟩
theorem s_sIdPut (x : Idt) : Spec Tryd.prog 8 [x.av] (fun r => r = .t (.str (idText x))) := by
  refine Spec.of tysOk mixed Tryd.func8 rfl (by decide) ?_
  simp -implicitDefEqProofs only [go_sem, Tryd.f8]
  refine CallW.one (s_l9Id x.t x.n) p_l9Id (by first | (simp -implicitDefEqProofs only [go_sem]; done) | ((conv => lhs; simp -implicitDefEqProofs only [go_sem]); done) | (simp -implicitDefEqProofs only [go_sem]; rfl) | rfl) (by first | trivial | (simp [DeepR, DeepV, DeepVs, DeepC, DeepCs, T.scal]; done)) ?_
  cases h : idOkM x.t x.n
  · simp -implicitDefEqProofs only [go_sem, Bool.not_false, h]
    simp [idText, h]
  obtain ⟨t, n, rfl, h1, h2⟩ := idOkM_nat h
  have s1 := decM_size t (by omega)
  have s2 := decM_size n (by omega)
  have e1 : ((decM t).size : Int) + (⟨#[45]⟩ : ByteArray).size ≤ strMax := by rw [sz1]; unfold strMax; omega
  have e2 : ((decM t ++ ⟨#[45]⟩ : ByteArray).size : Int) + (decM n).size ≤ strMax := by rw [ByteArray.size_append, sz1]; unfold strMax; omega
  simp -implicitDefEqProofs only [go_sem, Bool.not_true, h]
  refine RegD_of sch_8_3 tysOk (by kernel_rfl) ?_
  simp -implicitDefEqProofs only [go_sem]
  refine CallW.one (s_l1Dec t (by omega)) p_l1Dec (by first | (simp -implicitDefEqProofs only [go_sem]; done) | ((conv => lhs; simp -implicitDefEqProofs only [go_sem]); done) | (simp -implicitDefEqProofs only [go_sem]; rfl) | rfl) (by first | trivial | (simp [DeepR, DeepV, DeepVs, DeepC, DeepCs, T.scal]; done)) ?_
  simp -implicitDefEqProofs only [go_sem, e1]
  refine ⟨by first | exact e1 | (rw [sz1] at e1; exact e1), ?_⟩
  refine CallW.one (s_l1Dec n (by omega)) p_l1Dec (by first | (simp -implicitDefEqProofs only [go_sem]; done) | ((conv => lhs; simp -implicitDefEqProofs only [go_sem]); done) | (simp -implicitDefEqProofs only [go_sem]; rfl) | rfl) (by first | trivial | (simp [DeepR, DeepV, DeepVs, DeepC, DeepCs, T.scal]; done)) ?_
  simp -implicitDefEqProofs only [go_sem, e2]
  refine ⟨by rw [ByteArray.size_append, sz1] at e2; exact e2, ?_⟩
  simp [idText, h]
end Go.Proofs.YtgkmbbiebmamaaaDoor.Am
namespace Go.Proofs.YtgkmbbiebmamaaaDoor.Am
open Go
set_option maxRecDepth 100000
set_option maxHeartbeats 1000000
set_option linter.unusedSimpArgs false
set_option linter.unusedVariables false
def idIs (s : ByteArray) (x : Idt) : Prop := idOkM x.t x.n = true ∧ s = idText x
theorem no45 (n : Nat) : (45 : UInt8) ∉ decL n := fun h => by
  have := decL_dig n 45 h
  revert this; decide
theorem idText_list {t n : Nat} (h : idOkM (t : Int) (n : Int) = true) : (idText ⟨t, n⟩).data.toList = decL t ++ 45 :: decL n := by
  unfold idText
  rw [if_pos h]
  simp [ByteArray.data_append]
theorem split_uniq {a b c d : List UInt8} (ha : (45 : UInt8) ∉ a) (hc : (45 : UInt8) ∉ c) (e : a ++ 45 :: b = c ++ 45 :: d) : a = c ∧ b = d := by
  induction a generalizing c with
  | nil => cases c with
    | nil => simp at e; exact ⟨rfl, e⟩
    | cons y c => simp at e; exact absurd (by simp [e.1]) hc
  | cons x a ih => cases c with
    | nil => simp at e; exact absurd (by simp [e.1]) ha
    | cons y c =>
      simp only [List.cons_append, List.cons.injEq] at e
      obtain ⟨h1, h2⟩ := ih (fun h => ha (by simp [h])) (fun h => hc (by simp [h])) e.2
      exact ⟨by rw [e.1, h1], h2⟩
theorem idIs_uniq {s : ByteArray} {x y : Idt} (hx : idIs s x) (hy : idIs s y) : x = y := by
  obtain ⟨t, n, rfl, _, _⟩ := idOkM_nat hx.1
  obtain ⟨t', n', rfl, _, _⟩ := idOkM_nat hy.1
  have e : decL t ++ 45 :: decL n = decL t' ++ 45 :: decL n' := by
    rw [← idText_list hx.1, ← idText_list hy.1, ← hx.2, ← hy.2]
  obtain ⟨e1, e2⟩ := split_uniq (no45 t) (no45 t') e
  have d1 : t = t' := by rw [← bval_decL t, e1, bval_decL]
  have d2 : n = n' := by rw [← bval_decL n, e2, bval_decL]
  rw [d1, d2]
open Classical in
noncomputable def getM (s : ByteArray) : Idt × Bool := if h : ∃ x, idIs s x then (h.choose, true) else (⟨0, 0⟩, false)
theorem getM_yes {s : ByteArray} {x : Idt} (h : idIs s x) : getM s = (x, true) := by
  have h' : ∃ x, idIs s x := ⟨x, h⟩
  unfold getM
  rw [dif_pos h', idIs_uniq h'.choose_spec h]
theorem getM_no {s : ByteArray} (h : ∀ x, ¬ idIs s x) : getM s = (⟨0, 0⟩, false) := by
  unfold getM
  rw [dif_neg (fun ⟨x, hx⟩ => h x hx)]
theorem idIs_split {s : ByteArray} {x : Idt} (h : idIs s x) : ∃ t n : Nat, x = ⟨t, n⟩ ∧ t ≤ 1000000 ∧ n ≤ 1000000000 ∧ s.data.toList = decL t ++ 45 :: decL n := by
  obtain ⟨t, n, rfl, h1, h2⟩ := idOkM_nat h.1
  exact ⟨t, n, rfl, h1, h2, by rw [h.2, idText_list h.1]⟩
abbrev getR (x : Idt × Bool) : AV := .tup [x.1.av, Bo x.2]
theorem p_IdGet : Plain Tryd.prog 12 := ⟨_, Tryd.func12, rfl, by decide⟩
theorem s_IdGet (s : ByteArray) (hs : s.size ≤ 1048576) : Spec Tryd.prog 12 [.t (.str s)] (fun r => r = getR (getM s)) := by
  refine Spec.of tysOk mixed Tryd.func12 rfl (by decide) ?_
  simp -implicitDefEqProofs only [go_sem, Tryd.f12]
  refine CallW.ps (s_Cut s (by omega)) p_Cut (by first | (simp -implicitDefEqProofs only [go_sem]; done) | ((conv => lhs; simp -implicitDefEqProofs only [go_sem]); done) | (simp -implicitDefEqProofs only [go_sem]; rfl) | rfl) rfl ?_
  rintro _ ⟨a, b, f, rfl, ha, hb, hsp⟩
  simp -implicitDefEqProofs only [go_sem]
  refine CallW.ps (s_Atoi a (by omega)) p_Atoi (by first | (simp -implicitDefEqProofs only [go_sem]; done) | ((conv => lhs; simp -implicitDefEqProofs only [go_sem]); done) | (simp -implicitDefEqProofs only [go_sem]; rfl) | rfl) rfl ?_
  rintro _ ⟨t, rfl, ht, ht2⟩
  simp -implicitDefEqProofs only [go_sem]
  refine CallW.ps (s_Atoi b (by omega)) p_Atoi (by first | (simp -implicitDefEqProofs only [go_sem]; done) | ((conv => lhs; simp -implicitDefEqProofs only [go_sem]); done) | (simp -implicitDefEqProofs only [go_sem]; rfl) | rfl) rfl ?_
  rintro _ ⟨n, rfl, hn, hn2⟩
  simp -implicitDefEqProofs only [go_sem]
  have no : idText ⟨t, n⟩ ≠ s → ∀ x, ¬ idIs s x := fun hne x hx => by
    obtain ⟨t', n', rfl, h1, h2, e⟩ := idIs_split hx
    obtain ⟨e1, e2⟩ := hsp _ _ e (no45 t')
    have d1 := ht2 t' (by omega) (ByteArray.ext (Array.toList_inj.1 e1))
    have d2 := hn2 n' (by omega) (ByteArray.ext (Array.toList_inj.1 e2))
    subst d1 d2
    exact hne hx.2.symm
  refine BrA_i (fun h1 => ?_) (fun h1 => ?_) <;> simp -implicitDefEqProofs only [go_sem]
  · have h1 := of_decide_eq_true h1
    rw [getM_no (fun x hx => by
      obtain ⟨t', n', rfl, _, _, e⟩ := idIs_split hx
      rw [h1] at e
      simp at e)]
  · have h1 := of_decide_eq_false h1
    refine CallW.one (s_IdPut ⟨t, n⟩) p_IdPut (by first | (simp -implicitDefEqProofs only [go_sem]; done) | ((conv => lhs; simp -implicitDefEqProofs only [go_sem]); done) | (simp -implicitDefEqProofs only [go_sem]; rfl) | rfl) (by first | trivial | (simp [DeepR, DeepV, DeepVs, DeepC, DeepCs, T.scal]; done)) ?_
    simp -implicitDefEqProofs only [go_sem]
    refine BrA_i (fun h2 => ?_) (fun h2 => ?_) <;> simp -implicitDefEqProofs only [go_sem]
    · have h2 := of_decide_eq_true h2
      have hok : idOkM t n = true := by
        cases ho : idOkM t n
        · exfalso; apply h1; rw [← h2]; simp [idText, ho]
        · rfl
      rw [getM_yes (x := ⟨t, n⟩) ⟨hok, h2.symm⟩]
    · have h2 := of_decide_eq_false h2
      rw [getM_no (no h2)]
theorem p_sIdGet : Plain Tryd.prog 11 := ⟨_, Tryd.func11, rfl, by decide⟩
theorem s_sIdGet (s : ByteArray) (hs : s.size ≤ 1048576) : Spec Tryd.prog 11 [.t (.str s)] (fun r => r = getR (getM s)) := by
  refine Spec.of tysOk mixed Tryd.func11 rfl (by decide) ?_
  obtain ⟨l, hl⟩ : ∃ l, l = s.data.toList := ⟨_, rfl⟩
  have hsz : s.size = l.length := by rw [hl]; rfl
  simp -implicitDefEqProofs only [go_sem, Tryd.f11]
  refine LoopW.slotsM [true, false, true, false, true, false, false, false, false, false, false, false, false, false, false, false, false, false, false, false, false, false, false, false, false, false, false, false, false, false, false, false, false, false, false, false, false, false] (α := Nat) (fun i => [(4, I i)]) (fun i => []) (fun i => s.size - i) (fun i => i ≤ s.size ∧ ∀ j (h : j < l.length), j < i → l[j] ≠ 45) 0 (by simp -implicitDefEqProofs only [go_sem, LeTs_undef, LeTs_same, LeTs_nil]; try simp [LeTs]) rfl ⟨by omega, fun _ _ h => by omega⟩ ?_
  rintro i ⟨hi, hj⟩
  have h0i : (0 : Int) ≤ i := by omega
  simp -implicitDefEqProofs only [go_sem]
  refine BrA_i (fun h => ?_) (fun h => ?_) <;> simp -implicitDefEqProofs only [go_sem]
  · have h : i < s.size := by simp at h; omega
    have h' : i < l.length := by omega
    have h1i : (i : Int) < s.size := by omega
    have wi : IntKind.i64.wrap ((i : Int) + 1) = ((i + 1 : Nat) : Int) := by rw [wrap64 (by omega) (by omega)]; omega
    have hb : byteAt s (i : Int) = ((l[i].toNat : Nat) : Int) := by subst hl; exact byteAt_nat h'
    simp -implicitDefEqProofs only [go_sem, h0i, h1i, hb]
    refine BrA_i (fun h2 => ?_) (fun h2 => ?_) <;> simp -implicitDefEqProofs only [go_sem]
    · have h2 := of_decide_eq_true h2
      have h45 : l[i] = 45 := by apply UInt8.toNat_inj.1; show _ = 45; omega
      have hge : decide ((i : Int) ≥ s.size) = false := decide_eq_false (by omega)
      have hle : (i : Int) ≤ s.size := by omega
      have hle1 : ((i + 1 : Nat) : Int) ≤ s.size := by omega
      have h01 : (0 : Int) ≤ ((i + 1 : Nat) : Int) := by omega
      simp -implicitDefEqProofs only [go_sem, hge]
      refine RegD_of sch_11_6 tysOk (by kernel_rfl) ?_
      simp -implicitDefEqProofs only [go_sem, h0i, hle, hle1, h01, wi, Int.le_refl]
      have ea : (s.extract (Int.toNat 0) i).data.toList = l.take i := by
        rw [ByteArray.data_extract]
        simp only [Array.toList_extract, List.extract_eq_take_drop, ← hl]
        simp
      have eb : (s.extract (i + 1) s.size).data.toList = l.drop (i + 1) := by
        rw [ByteArray.data_extract]
        simp only [Array.toList_extract, List.extract_eq_take_drop, ← hl]
        rw [List.take_of_length_le (by rw [List.length_drop]; omega)]
      have el : l = l.take i ++ 45 :: l.drop (i + 1) := by
        rw [← h45, ← List.drop_eq_getElem_cons h', List.take_append_drop]
      have no : (45 : UInt8) ∉ l.take i := fun hm => by
        obtain ⟨j, hjl, e⟩ := List.getElem_of_mem hm
        rw [List.getElem_take] at e
        rw [List.length_take] at hjl
        exact hj j (by omega) (by omega) e
      have sa : (s.extract (Int.toNat 0) i).size ≤ 1099511627776 := by rw [ByteArray.size_extract]; omega
      have sb : (s.extract (i + 1) s.size).size ≤ 1099511627776 := by rw [ByteArray.size_extract]; omega
      obtain ⟨a, hA⟩ : ∃ a, a = s.extract (Int.toNat 0) i := ⟨_, rfl⟩
      obtain ⟨b, hB⟩ : ∃ b, b = s.extract (i + 1) s.size := ⟨_, rfl⟩
      rw [← hA] at ea sa
      rw [← hB] at eb sb
      have key : getM s = if idOkM (figM a) (figM b) = true then (⟨figM a, figM b⟩, true) else (⟨0, 0⟩, false) := by
        split
        · rename_i hok
          have hok2 := hok
          unfold idOkM at hok2
          simp only [Bool.and_eq_true] at hok2
          obtain ⟨t, e1, e2, _⟩ := figM_some (withinM_n hok2.1).1
          obtain ⟨n, e3, e4, _⟩ := figM_some (withinM_n hok2.2).1
          refine getM_yes ⟨hok, ByteArray.ext (Array.toList_inj.1 ?_)⟩
          rw [e1, e3] at hok ⊢
          rw [idText_list hok, ← hl, el, ← ea, ← eb, e2, e4]
        · rename_i hok
          refine getM_no fun x hx => hok ?_
          obtain ⟨t', n', rfl, g1, g2, e⟩ := idIs_split hx
          rw [← hl, el] at e
          obtain ⟨e1, e2⟩ := split_uniq no (no45 t') e
          have d1 : a = decM t' := ByteArray.ext (Array.toList_inj.1 (ea.trans e1))
          have d2 : b = decM n' := ByteArray.ext (Array.toList_inj.1 (eb.trans e2))
          rw [d1, d2, figM_dec t' (by omega), figM_dec n' (by omega)]
          exact hx.1
      simp only [← hA, ← hB]
      (repeat' (with_reducible refine And.intro ?_ ?_))
      all_goals
        repeat' (first
          | (with_reducible refine And.intro ?_ ?_)
          | (refine CallW.one (s_l1Figures a sa) p_l1Figures (by first | (simp -implicitDefEqProofs only [go_sem]; done) | ((conv => lhs; simp -implicitDefEqProofs only [go_sem]); done) | (simp -implicitDefEqProofs only [go_sem]; rfl) | rfl) (by first | trivial | (simp [DeepR, DeepV, DeepVs, DeepC, DeepCs, T.scal]; done)) ?_; simp -implicitDefEqProofs only [go_sem])
          | (refine CallW.one (s_l1Figures b sb) p_l1Figures (by first | (simp -implicitDefEqProofs only [go_sem]; done) | ((conv => lhs; simp -implicitDefEqProofs only [go_sem]); done) | (simp -implicitDefEqProofs only [go_sem]; rfl) | rfl) (by first | trivial | (simp [DeepR, DeepV, DeepVs, DeepC, DeepCs, T.scal]; done)) ?_; simp -implicitDefEqProofs only [go_sem]))
      all_goals
        refine CallW.one (s_l9Id (figM a) (figM b)) p_l9Id (by first | (simp -implicitDefEqProofs only [go_sem]; done) | ((conv => lhs; simp -implicitDefEqProofs only [go_sem]); done) | (simp -implicitDefEqProofs only [go_sem]; rfl) | rfl) (by first | trivial | (simp [DeepR, DeepV, DeepVs, DeepC, DeepCs, T.scal]; done)) ?_
        rw [key]
        cases hok : idOkM (figM a) (figM b)
        · simp -implicitDefEqProofs only [go_sem, Bool.not_false, Bool.false_eq_true, if_false]
        · simp -implicitDefEqProofs only [go_sem, Bool.not_true, if_true]
    · have h2 := of_decide_eq_false h2
      simp -implicitDefEqProofs only [go_sem, wi]
      refine .to [] (i + 1) rfl ?_ ?_ (by omega) ⟨by omega, fun j hj2 hj3 => by
        by_cases hji : j < i
        · exact hj j hj2 hji
        · obtain rfl : j = i := by omega
          intro e; rw [e] at h2; exact h2 rfl⟩ <;> simp -implicitDefEqProofs only [go_sem, LeTs_undef, LeTs_same, LeTs_nil]
  · have h : i = s.size := by simp at h; omega
    have hge : decide ((i : Int) ≥ s.size) = true := decide_eq_true (by omega)
    simp -implicitDefEqProofs only [go_sem, hge]
    rw [getM_no (fun x hx => by
      obtain ⟨t', n', rfl, _, _, e⟩ := idIs_split hx
      rw [← hl] at e
      have hlen : l.length = (decL t').length + 1 + (decL n').length := by rw [e]; simp; omega
      have := hj (decL t').length (by omega) (by omega)
      simp [e] at this)]
end Go.Proofs.YtgkmbbiebmamaaaDoor.Am
namespace Go.Proofs.YtgkmbbiebmamaaaDoor.Am
open Go Go.ChangeShapes Go.WideShapes Go.RowKit
def RdRow (w : World) (ts : List T) (cs : List Value) : Prop := ts.length = cs.length ∧ ∀ (j : Nat) (t : T) (v : Value), ts[j]? = some t → cs[j]? = some v → Rd w (fun b => b < w.heap.size) t v
structure Opn (P : Program) (t : TypeId) (sz : Nat) {α : Type} (row : α → List T) (G : α → Prop) : Prop where
  len : ∀ x, (row x).length = sz
  op : ∀ {H : Type} {enc : TypeId × Value → H} {W : World} {fuel : Nat} {cs : List Value} {D : DataW H} {ps : List MemPlace},
    DataW.trod enc P W 0 (fun _ => true) true fuel t cs = some (D, ps) → (∀ n ∈ DataW.weights P t D, n ≤ reachBytes) → ∃ x, RdRow W (row x) cs ∧ G x
theorem RdRow.one {w : World} {t : T} {v : Value} (h : Rd w (fun b => b < w.heap.size) t v) : RdRow w [t] [v] :=
  ⟨rfl, fun j t' v' h1 h2 => by
    cases j with
    | zero => simp at h1 h2; subst h1 h2; exact h
    | succ j => simp at h1⟩
theorem RdRow.append {w : World} {a b : List T} {c d : List Value} (h : RdRow w a c) (h' : RdRow w b d) : RdRow w (a ++ b) (c ++ d) :=
  ⟨by simp [h.1, h'.1], fun j t v h1 h2 => by
    rw [List.getElem?_append] at h1 h2
    have := h.1
    split at h1
    · rename_i hj
      rw [if_pos (by omega)] at h2
      exact h.2 j t v h1 h2
    · rename_i hj
      rw [if_neg (by omega)] at h2
      rw [this] at h1
      exact h'.2 _ t v h1 h2⟩
section
variable {P : Program} {t : TypeId}
theorem Opn.int {k : IntKind} (hu : P.underlying t = some (.int k)) : Opn P t 1 (fun x : Int => [T.int k x]) (fun x => (Lit.int k x).wf = true) where
  len := fun _ => rfl
  op := fun h _ => by
    obtain ⟨m, rfl, _, hw⟩ := DataW.trod_int hu h
    exact ⟨m, .one (.int _ _), hw⟩
theorem Opn.bool (hu : P.underlying t = some .bool) : Opn P t 1 (fun x : Bool => [T.bool x]) (fun _ => True) where
  len := fun _ => rfl
  op := fun h _ => by
    obtain ⟨m, rfl, _⟩ := DataW.trod_bool hu h
    exact ⟨m, .one (.bool _), trivial⟩
theorem Opn.string (hu : P.underlying t = some .string) : Opn P t 1 (fun x : ByteArray => [T.str x]) (fun x => x.size ≤ 140737488351232) where
  len := fun _ => rfl
  op := fun h hz => by
    obtain ⟨m, rfl, e, _⟩ := DataW.trod_string hu h
    obtain ⟨rfl, _⟩ := Prod.mk.inj e
    refine ⟨m, .one (.str _), ?_⟩
    have := hz m.data.toList.length (by simp [DataW.weights])
    simpa [reachBytes] using this
theorem Opn.slice {e : TypeId} {sz : Nat} {α : Type} {row : α → List T} {G : α → Prop} (he : Opn P e sz row G) (hu : P.underlying t = some (.slice e)) (hc : P.cellsOf e = sz) (hs : 0 < sz) {B : Nat} (hB : P.bytesOf e = B) :
    Opn P t 1 (fun xs : List α => [T.list false sz (xs.map row)]) (fun xs => xs.length * B ≤ 140737488351232 ∧ ∀ x ∈ xs, G x) where
  len := fun _ => rfl
  op := fun {H enc W fuel cs D ps} h hz => by
    rcases DataW.trod_slice hu h with ⟨rfl, _⟩ | ⟨a, len, cap, elems, rest, n, _, rfl, hx, hb, hl, hm, hlen, hel, hsp, _⟩
    · exact ⟨[], .one (.nil ..), by simp, by simp⟩
    · obtain ⟨rfl, _⟩ := Prod.mk.inj hx
      have hw0 := hz ((elems.map (·.1)).length + (rest.map (·.1)).length |>.mul (P.bytesOf e)) (by simp [DataW.weights, hu])
      have each : ∀ i, i < len → ∃ x c, RdRow W (row x) c ∧ G x ∧ c.length = sz ∧ ∀ j u, c[j]? = some u → W.cell? (a.add (i * sz + j)) = some u := by
        intro i hi
        have h1 := hel i hi
        have hil : i < elems.length := by omega
        rw [List.getElem?_eq_getElem hil] at h1
        rw [Option.bind_eq_some_iff] at h1
        obtain ⟨c, hcs, hy⟩ := h1
        have hD : ∀ m ∈ DataW.weights P e (elems[i]).1, m ≤ reachBytes := by
          intro m hmem
          refine hz m ?_
          simp only [DataW.weights, hu]
          refine List.mem_cons_of_mem _ (List.mem_append_left _ ?_)
          have : ∀ (l : List (DataW H)) (y : DataW H), y ∈ l → m ∈ DataW.weights P e y → m ∈ DataW.weightsAll P e l := by
            intro l
            induction l with
            | nil => intro y hy; cases hy
            | cons z l ih =>
              intro y hy hm2
              simp only [DataW.weightsAll, List.mem_append]
              rcases List.mem_cons.1 hy with rfl | hy
              · exact Or.inl hm2
              · exact Or.inr (ih y hy hm2)
          exact this _ _ (List.mem_map.2 ⟨elems[i], List.getElem_mem hil, rfl⟩) hmem
        obtain ⟨x, hK, hG⟩ := he.op (show DataW.trod enc P W 0 (fun _ => true) true n e c = some ((elems[i]).1, (elems[i]).2) from hy) hD
        obtain ⟨hb1, hb2, hb3⟩ := World.cells?_some hcs
        have hlen2 : c.length = sz := by rw [← hK.1, he.len]
        refine ⟨x, c, hK, hG, hlen2, fun j u hu2 => ?_⟩
        have hj := (List.getElem?_eq_some_iff.1 hu2).1
        have h3 := hb3 j (by rw [hc]; omega)
        rw [hu2] at h3
        rw [← h3, hc, Addr.add_add]
      have pick : ∀ l, l ≤ len → ∃ xs : List α, xs.length = l ∧ (∀ x ∈ xs, G x) ∧ ∀ j p, xs[j]? = some p → ∃ c, c.length = sz ∧ RdRow W (row p) c ∧ ∀ i u, c[i]? = some u → W.cell? (a.add (j * sz + i)) = some u := by
        intro l
        induction l with
        | zero => exact fun _ => ⟨[], rfl, by simp, fun j p h => by simp at h⟩
        | succ l ih =>
          intro hll
          obtain ⟨xs, h1, h2, h3⟩ := ih (by omega)
          obtain ⟨x, c, q1, q2, q3, q4⟩ := each l (by omega)
          refine ⟨xs ++ [x], by simp [h1], ?_, ?_⟩
          · intro y hy
            rcases List.mem_append.1 hy with hy | hy
            · exact h2 y hy
            · obtain rfl := List.mem_singleton.1 hy
              exact q2
          · intro j p hj
            by_cases hjl : j < xs.length
            · exact h3 j p (by rwa [List.getElem?_append_left hjl] at hj)
            · rw [List.getElem?_append_right (by omega)] at hj
              have : j - xs.length = 0 := by
                have := (List.getElem?_eq_some_iff.1 hj).1
                simpa using this
              rw [this] at hj
              have hjl2 : j = l := by omega
              subst hjl2
              obtain rfl : x = p := by simpa using hj
              exact ⟨c, q3, q1, q4⟩
      obtain ⟨xs, h1, h2, h3⟩ := pick len (Nat.le_refl _)
      subst h1
      refine ⟨xs, .one ?_, ?_, h2⟩
      · obtain ⟨ab, ao, asp⟩ := a
        have at0 : ∀ (j : Nat) (p : α), xs[j]? = some p → ∀ i, i < sz → ∃ u, W.cell? ⟨ab, ao + (j * sz + i), none⟩ = some u ∧ ∀ x, (row p)[i]? = some x → Rd W (fun b => b < W.heap.size) x u := by
          intro j p hj i hi
          obtain ⟨c, c1, c2, c3⟩ := h3 j p hj
          obtain ⟨u, hu2⟩ : ∃ u, c[i]? = some u := ⟨c[i]'(by omega), List.getElem?_eq_getElem _⟩
          have h4 := c3 i u hu2
          refine ⟨u, ?_, fun x hx => c2.2 i x u hx hu2⟩
          by_cases h0 : j * sz + i = 0
          · rw [h0] at h4 ⊢
            have : asp = none := by
              unfold World.cell? at h4
              simp only [Addr.add] at h4
              cases asp with
              | none => rfl
              | some q => simp at h4; split at h4 <;> simp at h4
            subst this
            exact h4
          · unfold Addr.add at h4
            rw [if_neg h0] at h4
            exact h4
        cases xs with
        | nil => exact .nil ..
        | cons x0 xs0 =>
          obtain ⟨u0, hu0, _⟩ := at0 0 x0 rfl 0 hs
          have hab : ab < W.heap.size := by
            unfold World.cell? at hu0
            simp only at hu0
            split at hu0
            · rename_i hh
              exact (Array.getElem?_eq_some_iff.1 hh).1
            · cases hu0
          have e1 : asp = none := by
            obtain ⟨c, c1, c2, c3⟩ := h3 0 x0 rfl
            have h4 := c3 0 (c[0]'(by omega)) (List.getElem?_eq_getElem _)
            simp only [Nat.zero_mul, Nat.add_zero, Addr.add, if_pos] at h4
            unfold World.cell? at h4
            cases asp with
            | none => rfl
            | some q => simp at h4; split at h4 <;> simp at h4
          subst e1
          have hrow : ∀ (i : Nat) (r : List T), ((x0 :: xs0).map row)[i]? = some r → ∃ p, (x0 :: xs0)[i]? = some p ∧ r = row p := by
            intro i r hr
            rw [List.getElem?_map] at hr
            cases hp : (x0 :: xs0)[i]? with
            | none => rw [hp] at hr; cases hr
            | some p => rw [hp] at hr; cases hr; exact ⟨p, rfl, rfl⟩
          have hfin := @Rd.list W (fun b => b < W.heap.size) false sz ((x0 :: xs0).map row) ab ao cap (fun i j => (W.cell? ⟨ab, ao + (i * sz + j), none⟩).getD Go.undef) (by simpa using hl) hab
            (fun i r hr => by obtain ⟨p, _, rfl⟩ := hrow i r hr; exact he.len p)
            (fun i r j x hr hx => by
              obtain ⟨p, hp, rfl⟩ := hrow i r hr
              obtain ⟨u, hu1, _⟩ := at0 i p hp j (by have := (List.getElem?_eq_some_iff.1 hx).1; rw [he.len] at this; exact this)
              simp only [hu1, Option.getD_some])
            (fun i r j x hr hx => by
              obtain ⟨p, hp, rfl⟩ := hrow i r hr
              obtain ⟨u, hu1, hu2⟩ := at0 i p hp j (by have := (List.getElem?_eq_some_iff.1 hx).1; rw [he.len] at this; exact this)
              simp only [hu1, Option.getD_some]
              exact hu2 x hx)
          rwa [List.length_map] at hfin
      have hw1 : (elems.length + rest.length) * P.bytesOf e ≤ reachBytes := by simpa using hw0
      rw [hB] at hw1
      rw [← hlen]
      exact Nat.le_trans (Nat.mul_le_mul_right _ (Nat.le_add_right _ _)) hw1
structure OpnF (P : Program) (fs : List Field) (o sz : Nat) {α : Type} (row : α → List T) (G : α → Prop) : Prop where
  len : ∀ x, (row x).length = sz
  op : ∀ {H : Type} {enc : TypeId × Value → H} {W : World} {fuel : Nat} {cs : List Value} {xs : List (DataW H × List MemPlace)},
    xs.length = fs.length → (∀ (i : Nat) (f : Field), fs[i]? = some f → DataW.trod enc P W 0 (fun _ => true) true fuel f.type ((cs.drop f.offset).take (P.cellsOf f.type)) = xs[i]?) →
    (∀ n ∈ DataW.weightsEach P (fs.map (·.type)) (xs.map (·.1)), n ≤ reachBytes) → cs.length = o + sz → ∃ x, RdRow W (row x) (cs.drop o) ∧ G x
theorem OpnF.one {f : Field} {o sz : Nat} {α : Type} {row : α → List T} {G : α → Prop} (he : Opn P f.type sz row G) (ho : f.offset = o) (hc : P.cellsOf f.type = sz) : OpnF P [f] o sz row G where
  len := he.len
  op := fun {H enc W fuel cs xs} hx h hz hl => by
    match xs, hx with
    | [y], _ =>
      have hy := h 0 f rfl
      rw [ho, hc, List.take_of_length_le (by simp; omega)] at hy
      exact he.op (show _ = some (y.1, y.2) from hy) (fun n hn => hz n (by simp only [List.map_cons, List.map_nil, DataW.weightsEach]; exact List.mem_append_left _ hn))
theorem OpnF.cons {f : Field} {r : List Field} {o sz sz2 : Nat} {α β : Type} {row : α → List T} {row2 : β → List T} {G : α → Prop} {G2 : β → Prop} (he : Opn P f.type sz row G) (ho : f.offset = o) (hc : P.cellsOf f.type = sz) (hr : OpnF P r (o + sz) sz2 row2 G2) :
    OpnF P (f :: r) o (sz + sz2) (fun x : α × β => row x.1 ++ row2 x.2) (fun x => G x.1 ∧ G2 x.2) where
  len := fun x => by rw [List.length_append, he.len, hr.len]
  op := fun {H enc W fuel cs xs} hx h hz hl => by
    match xs, hx with
    | y :: ys, hx =>
      have hl2 : cs.length = o + sz + sz2 := by omega
      have hy := h 0 f rfl
      rw [ho, hc] at hy
      obtain ⟨x, hK, hG⟩ := he.op (show _ = some (y.1, y.2) from hy) (fun n hn => hz n (by simp only [List.map_cons, DataW.weightsEach]; exact List.mem_append_left _ hn))
      obtain ⟨x2, hK2, hG2⟩ := hr.op (xs := ys) (by simpa using hx) (fun i g hg => h (i + 1) g hg) (fun n hn => hz n (by simp only [List.map_cons, DataW.weightsEach]; exact List.mem_append_right _ hn)) hl2
      refine ⟨(x, x2), ?_, hG, hG2⟩
      have := hK.append hK2
      rwa [← List.drop_drop, List.take_append_drop] at this
theorem Opn.struct {fs : Array Field} {sz : Nat} {α β : Type} {row : α → List T} {row2 : β → List T} {G : α → Prop} {G2 : β → Prop} (g : α → β) (hf : OpnF P fs.toList 0 sz row G) (hu : P.underlying t = some (.struct fs)) (hg : ∀ a, row2 (g a) = row a) (hG2 : ∀ a, G a → G2 (g a)) (hlen : ∀ b, (row2 b).length = sz) (hc : P.cellsOf t = sz) :
    Opn P t sz row2 G2 where
  len := hlen
  op := fun {H enc W fuel cs D ps} h hz => by
    obtain ⟨xs, n, _, hx, hl, hm, he⟩ := DataW.trod_struct hu h
    obtain ⟨rfl, _⟩ := Prod.mk.inj hx
    obtain ⟨x, hK, hG⟩ := hf.op (xs := xs) (by simpa using hm) (fun i f hf => he i f (by simpa using hf)) (fun n hn => hz n (by simp only [DataW.weights, hu]; exact hn)) (by omega)
    exact ⟨g x, by rw [hg]; simpa using hK, hG2 x hG⟩
end
theorem each_of {H : Type} {P : Program} {ts : List TypeId} {ds : List (DataW H)} (h : (DataW.weightsEach P ts ds).all (· ≤ reachBytes) = true) {j : Nat} {t : TypeId} {D : DataW H} (ht : ts[j]? = some t) (hd : ds[j]? = some D) : ∀ n ∈ DataW.weights P t D, n ≤ reachBytes := by
  intro n hn
  have := List.all_eq_true.1 h _ (DataW.weights_mem_each ht hd n hn)
  simpa using this
theorem arg_one {W : World} {t : T} {v : Value} (hv : v.cells.toList = [v]) (h : RdRow W [t] v.cells.toList) : AVr (inCx W fun b => b < W.heap.size) (.t t) v := by
  rw [hv] at h
  exact h.2 0 t v rfl rfl
theorem out_bool {w w' : World} {D : Dm} {b : Bool} {v : Value} (h : Out w D w' (.t (.bool b)) v) : v = .bool b ∧ Below w.heap.size w w' := by
  obtain ⟨h1, col, _, h2⟩ := h
  refine ⟨?_, h1.os, h1.tape, h1.output, h1.size, fun k hk => h1.block k hk (by simp)⟩
  have h3 : Rd (outCx w D w' col).w (outCx w D w' col).Dp (.bool b) v := h2
  cases h3
  rfl
end Go.Proofs.YtgkmbbiebmamaaaDoor.Am
namespace Go.Proofs.YtgkmbbiebmamaaaDoor.Am
open Go
set_option maxRecDepth 100000
set_option linter.unusedSimpArgs false
set_option linter.unusedVariables false
def Idt.row (x : Idt) : List T := [.int .i64 x.t, .int .i64 x.n]
def lG {α : Type} (G : α → Prop) (xs : List α) : Prop := xs.length ≤ 140737488351232 ∧ ∀ x ∈ xs, G x
def Pr.G (x : Pr) : Prop := x.k.size ≤ 140737488351232 ∧ x.v.size ≤ 140737488351232
def It.G (x : It) : Prop := lG Pr.G x.fields
def Wt.G (x : Wt) : Prop := x.who.size ≤ 140737488351232
def Gr.G (x : Gr) : Prop := x.name.size ≤ 140737488351232 ∧ lG Wt.G x.waits
def Stm.G (x : Stm) : Prop := lG It.G x.items ∧ lG Gr.G x.groups
end Go.Proofs.YtgkmbbiebmamaaaDoor.Am
namespace Go.Proofs.YtgkmbbiebmamaaaDoor.Am
open Go
set_option linter.unusedVariables false
set_option linter.unusedSimpArgs false
set_option maxRecDepth 100000
theorem lG_mk {α : Type} {G : α → Prop} {B : Nat} {xs : List α} (hB : 1 ≤ B) (h : xs.length * B ≤ 140737488351232 ∧ ∀ x ∈ xs, G x) : lG G xs :=
  ⟨Nat.le_trans (Nat.le_mul_of_pos_right _ hB) h.1, h.2⟩
def Stm.row (x : Stm) : List T := [.int .i64 x.last.t, .int .i64 x.last.n, .list false 3 (x.items.map It.row), .list false 4 (x.groups.map Gr.row)]
theorem Opn.weaken {P : Program} {t : TypeId} {sz : Nat} {α : Type} {row : α → List T} {G G' : α → Prop} (h : Opn P t sz row G) (hg : ∀ x, G x → G' x) : Opn P t sz row G' :=
  ⟨h.len, fun h1 h2 => by obtain ⟨x, a, b⟩ := h.op h1 h2; exact ⟨x, a, hg x b⟩⟩
end Go.Proofs.YtgkmbbiebmamaaaDoor.Am
namespace Go.Proofs.YtgkmbbiebmamaaaDoor.Am
open Go
set_option linter.unusedVariables false
set_option linter.unusedSimpArgs false
set_option maxRecDepth 100000
def isB (x : Int) : Prop := 0 ≤ x ∧ x ≤ 255
theorem opn_byte : Opn Tryd.prog 5 1 (fun x : Int => [T.int .u8 x]) isB :=
  (Opn.int Tryd.underlying5).weaken fun x h => by
    simp [Lit.wf, IntKind.min, IntKind.max, IntKind.signed, IntKind.bits] at h
    unfold isB; omega
theorem opn_bytes : Opn Tryd.prog 32 1 (fun xs : List Int => [T.list false 1 (xs.map fun b => [T.int .u8 b])]) (lG isB) :=
  (Opn.slice opn_byte Tryd.underlying32 (by kernel_rfl) (by omega) (B := 1) (by kernel_rfl)).weaken fun _ => lG_mk (by omega)
end Go.Proofs.YtgkmbbiebmamaaaDoor.Am
namespace Go.Proofs.YtgkmbbiebmamaaaDoor.Am
open Go
set_option linter.unusedVariables false
def mkC : AV → AV
  | .t x => .t (x.mk false)
  | x => x
def mkCs : List AV → List AV
  | [] => []
  | x :: l => mkC x :: mkCs l
def mkV : AV → AV
  | .agg cs => .agg (mkCs cs)
  | x => mkC x
def mkVs : List AV → List AV
  | [] => []
  | x :: l => mkV x :: mkVs l
def mkR : AV → AV
  | .tup l => .tup (mkVs l)
  | x => mkV x
theorem ResC.mk {c : Cx} {col : Col} {i j : Nat} {x : AV} {v : Value} (h : ResC c col i j x v) : ResC c col i j (mkC x) v := by
  cases x <;> first | exact Rd.mk false h | exact h
theorem ResCs.mk {c : Cx} {col : Col} {i : Nat} : ∀ {xs : List AV} {vs : List Value} {j : Nat}, ResCs c col i j xs vs → ResCs c col i j (mkCs xs) vs
  | [], [], _, _ => trivial
  | x :: xs, v :: vs, j, h => ⟨ResC.mk h.1, ResCs.mk h.2⟩
  | [], _ :: _, _, h => h.elim
  | _ :: _, [], _, h => h.elim
theorem ResV.mk {c : Cx} {col : Col} {i : Nat} {x : AV} {v : Value} (h : ResV c col i x v) : ResV c col i (mkV x) v := by
  cases x with
  | agg cs => obtain ⟨vs, e, h⟩ := h; exact ⟨vs, e, ResCs.mk h⟩
  | t y => exact ResC.mk (c := c) (col := col) (i := i) (j := 0) (x := .t y) h
  | _ => exact h
theorem ResVs.mk {c : Cx} {col : Col} : ∀ {xs : List AV} {vs : List Value} {i : Nat}, ResVs c col i xs vs → ResVs c col i (mkVs xs) vs
  | [], [], _, _ => trivial
  | x :: xs, v :: vs, i, h => ⟨ResV.mk h.1, ResVs.mk h.2⟩
  | [], _ :: _, _, h => h.elim
  | _ :: _, [], _, h => h.elim
theorem ResR.mk {c : Cx} {col : Col} {r : AV} {v : Value} (h : ResR c col r v) : ResR c col (mkR r) v := by
  cases r with
  | tup xs => obtain ⟨vs, e, h⟩ := h; exact ⟨vs, e, ResVs.mk h⟩
  | agg cs => exact ResV.mk (c := c) (col := col) (i := 0) (x := .agg cs) h
  | t y => exact ResV.mk (c := c) (col := col) (i := 0) (x := .t y) h
  | _ => exact h
theorem Spec.mkR {P : Program} {f : FuncId} {args : List AV} {Q : AV → Prop} (h : Spec P f args Q) : Spec P f args (fun r => ∃ r0, Q r0 ∧ r = Am.mkR r0) := fun w D vs hD hv => (h w D vs hD hv).mono fun e w' ⟨v, r, he, hq, hs, col, hc, hr⟩ =>
  ⟨v, Am.mkR r, he, ⟨r, hq, rfl⟩, hs, col, hc, hr.mk⟩
theorem LeS.freeze {s s' : St} {k : Nat} (h : s.freeze k = some s') : LeS s s' := fun B a w ⟨ρ, col, hs⟩ => by
  obtain ⟨sz, rs, hk, hn, hp, rfl⟩ := freeze_some h
  exact ⟨_, _, (hs.freeze hk hn hp).1⟩
theorem LeS.freezes : ∀ {ks : List Nat} {s s' : St}, s.freezes ks = some s' → LeS s s'
  | [], s, s', h => by simp [St.freezes] at h; subst h; exact LeS.refl _
  | k :: ks, s, s', h => by
    simp only [St.freezes, Option.bind_eq_some_iff] at h
    obtain ⟨s1, h1, h2⟩ := h
    exact (LeS.freeze h1).trans (LeS.freezes h2)
theorem LeS.rfz {s s' : St} {k : Nat} (h : s.rfz k = some s') : LeS s s' := fun B a w ⟨ρ, col, hs⟩ => by
  obtain ⟨sz, rs, hk, hn, hp, rfl⟩ := rfz_some h
  exact ⟨_, _, (hs.rfz hk hn hp).1⟩
attribute [go_sem] mkC mkCs mkV mkVs mkR
end Go.Proofs.YtgkmbbiebmamaaaDoor.Am
namespace Go.Proofs.YtgkmbbiebmamaaaDoor.Am
open Go
set_option maxRecDepth 100000
set_option maxHeartbeats 4000000
set_option linter.unusedSimpArgs false
set_option linter.unusedVariables false
theorem Drw.to {bs : List Int} {p q : Int} (h : Drw bs p) (h0 : p ≤ q) (h1 : q ≤ 1000000000) : Drw bs q := ⟨h.b, h.l, by have := h.p0; omega, h1⟩
def Idt.dr (i : Idt) : Prop := -1 ≤ i.t ∧ i.t ≤ 1000001 ∧ -1 ≤ i.n ∧ i.n ≤ 1000000001
theorem p_l11Id : Plain Tryd.prog 59 := ⟨_, Tryd.func59, rfl, by decide⟩
theorem s_l11Id (bs : List Int) (p : Int) (h : Drw bs p) (hp : p ≤ 900000000) : SpecO Tryd.prog 59 [.ptr 9000 0 0] (dwH bs p)
    (fun r h' => (∃ i : Idt, r = i.av ∧ i.dr) ∧ h' = dwH bs (p + 2)) := by
  refine SpecO.of tysOk mixed Tryd.func59 rfl (by decide) ?_
  have e : p + 1 + 1 = p + 2 := by omega
  simp -implicitDefEqProofs only [go_sem, Tryd.f59]
  refine CallW.o [(9000, 9000), (9001, 32)] (s_oneI bs p [0, 1, 3, 5, 9, 1000000] h (by simp)) p_oneI o60 rfl (by (conv => lhs; simp -implicitDefEqProofs only [go_sem]) <;> rfl) (by (simp -implicitDefEqProofs only [go_sem]) <;> rfl) ?_
  rintro _ _ ⟨⟨a, rfl, ha⟩, rfl⟩
  simp -implicitDefEqProofs only [go_sem]
  refine CallW.o [(9000, 9000), (9001, 56)] (s_oneI bs (p + 1) [0, 0, 1, 2, 1000000000] (h.to (by omega) (by omega)) (by simp)) p_oneI o60 rfl (by (conv => lhs; simp -implicitDefEqProofs only [go_sem]) <;> rfl) (by (simp -implicitDefEqProofs only [go_sem]) <;> rfl) ?_
  rintro _ _ ⟨⟨b, rfl, hb⟩, rfl⟩
  simp -implicitDefEqProofs only [go_sem, e]
  refine ⟨⟨a, b⟩, rfl, ?_⟩
  simp only [List.mem_cons, List.not_mem_nil, or_false] at ha hb
  unfold Idt.dr
  simp only
  omega
theorem p_l11AnyId : Plain Tryd.prog 36 := ⟨_, Tryd.func36, rfl, by decide⟩
theorem s_l11AnyId (bs : List Int) (p : Int) (h : Drw bs p) (hp : p ≤ 900000000) : SpecO Tryd.prog 36 [.ptr 9000 0 0] (dwH bs p)
    (fun r h' => (∃ i : Idt, r = i.av ∧ i.dr) ∧ ∃ q, h' = dwH bs q ∧ p ≤ q ∧ q ≤ p + 10) := by
  refine SpecO.of tysOk mixed Tryd.func36 rfl (by decide) ?_
  simp -implicitDefEqProofs only [go_sem, Tryd.f36]
  refine CallW.o [(9000, 9000)] (s_l11Id bs p h hp) p_l11Id o59 rfl (by (conv => lhs; simp -implicitDefEqProofs only [go_sem]) <;> rfl) (by (simp -implicitDefEqProofs only [go_sem]) <;> rfl) ?_
  rintro _ _ ⟨⟨i, rfl, hi⟩, rfl⟩
  simp -implicitDefEqProofs only [go_sem]
  refine CallW.o [(9000, 9000)] (s_pick bs (p + 2) 12 (h.to (by omega) (by omega)) (by omega)) p_pick o52 rfl (by (conv => lhs; simp -implicitDefEqProofs only [go_sem]) <;> rfl) (by (simp -implicitDefEqProofs only [go_sem]) <;> rfl) ?_
  rintro _ _ ⟨⟨v, rfl, h0, h1⟩, rfl⟩
  simp -implicitDefEqProofs only [go_sem]
  refine BrA_i (fun h2 => ?_) (fun h2 => ?_) <;> simp -implicitDefEqProofs only [go_sem]
  · refine CallW.o [(9000, 9000), (9001, 88)] (s_oneI bs (p + 2 + 1) [-1, 1000001] (h.to (by omega) (by omega)) (by simp)) p_oneI o60 rfl (by (conv => lhs; simp -implicitDefEqProofs only [go_sem]) <;> rfl) (by (simp -implicitDefEqProofs only [go_sem]) <;> rfl) ?_
    rintro _ _ ⟨⟨a, rfl, ha⟩, rfl⟩
    simp -implicitDefEqProofs only [go_sem]
    simp only [List.mem_cons, List.not_mem_nil, or_false] at ha
    refine ⟨⟨⟨a, i.n⟩, rfl, ?_⟩, _, rfl, by omega, by omega⟩
    unfold Idt.dr at hi ⊢
    simp only at hi ⊢
    omega
  refine BrA_i (fun h2 => ?_) (fun h2 => ?_) <;> simp -implicitDefEqProofs only [go_sem]
  · refine CallW.o [(9000, 9000), (9001, 136)] (s_oneI bs (p + 2 + 1) [-1, 1000000001] (h.to (by omega) (by omega)) (by simp)) p_oneI o60 rfl (by (conv => lhs; simp -implicitDefEqProofs only [go_sem]) <;> rfl) (by (simp -implicitDefEqProofs only [go_sem]) <;> rfl) ?_
    rintro _ _ ⟨⟨a, rfl, ha⟩, rfl⟩
    simp -implicitDefEqProofs only [go_sem]
    simp only [List.mem_cons, List.not_mem_nil, or_false] at ha
    refine ⟨⟨⟨i.t, a⟩, rfl, ?_⟩, _, rfl, by omega, by omega⟩
    unfold Idt.dr at hi ⊢
    simp only at hi ⊢
    omega
  · exact ⟨⟨i, rfl, hi⟩, _, rfl, by omega, by omega⟩
theorem by8_mkI (bs : List Int) : (bs.map fun b => [T.int .u8 b]).map (List.map (T.mk false)) = bs.map fun b => [T.int .u8 b] := Am.mk_rows _ (fun _ => rfl) bs
attribute [go_sem] by8_mkI
theorem p_DrawIdLess : Plain Tryd.prog 14 := ⟨_, Tryd.func14, rfl, by decide⟩
theorem s_DrawIdLess (bs : List Int) (hb : ∀ x ∈ bs, 0 ≤ x ∧ x ≤ 255) (hl : bs.length ≤ 1048576) : Spec Tryd.prog 14 [by8 bs] (fun r => ∃ a b : Idt, r = .tup [a.av, b.av]) := by
  obtain ⟨cs, hd, ho⟩ := s_l1Open bs hb hl
  refine Spec.of tysOk mixed Tryd.func14 rfl (by decide) ?_
  simp -implicitDefEqProofs only [go_sem, Tryd.f14]
  refine CallW.box ho p_l1Open rfl rfl rfl rfl rfl (by decide) ?_
  simp -implicitDefEqProofs only [go_sem]
  refine CallW.o [(9000, 49)] (s_l11AnyId cs 0 hd (by omega)) p_l11AnyId o36 rfl (by (conv => lhs; simp -implicitDefEqProofs only [go_sem]) <;> rfl) (by (simp -implicitDefEqProofs only [go_sem]) <;> rfl) ?_
  rintro _ _ ⟨⟨a, rfl, ha⟩, q, rfl, q0, q1⟩
  simp -implicitDefEqProofs only [go_sem]
  refine CallW.o [(9000, 49)] (s_l11AnyId cs q (hd.to (by omega) (by omega)) (by omega)) p_l11AnyId o36 rfl (by (conv => lhs; simp -implicitDefEqProofs only [go_sem]) <;> rfl) (by (simp -implicitDefEqProofs only [go_sem]) <;> rfl) ?_
  rintro _ _ ⟨⟨b, rfl, hb⟩, q2, rfl, q3, q4⟩
  simp -implicitDefEqProofs only [go_sem]
  exact ⟨a, b, rfl⟩
theorem p_DrawIdGet : Plain Tryd.prog 17 := ⟨_, Tryd.func17, rfl, by decide⟩
theorem s_DrawIdGet (bs : List Int) (hb : ∀ x ∈ bs, 0 ≤ x ∧ x ≤ 255) (hl : bs.length ≤ 1048576) : Spec Tryd.prog 17 [by8 bs] (fun r => ∃ s : ByteArray, r = .t (.str s) ∧ s.size ≤ 1000) := by
  obtain ⟨cs, hd, ho⟩ := s_l1Open bs hb hl
  refine Spec.of tysOk mixed Tryd.func17 rfl (by decide) ?_
  simp -implicitDefEqProofs only [go_sem, Tryd.f17]
  refine CallW.box ho p_l1Open rfl rfl rfl rfl rfl (by decide) ?_
  simp -implicitDefEqProofs only [go_sem]
  refine CallW.o [(9000, 41), (9001, 56)] (s_of cs 0 [⟨#[53, 45, 50]⟩, ⟨#[48, 45, 48]⟩, ⟨#[53]⟩, ⟨#[45, 53]⟩, ⟨#[53, 45]⟩, ⟨#[48, 53, 45, 49]⟩, ⟨#[53, 45, 48, 49]⟩, ⟨#[49, 48, 48, 48, 48, 48, 48, 45, 49]⟩, ⟨#[49, 48, 48, 48, 48, 48, 49, 45, 49]⟩, ⟨#[53, 45, 50, 45, 51]⟩, ⟨#[97, 45, 49]⟩] hd (by simp)) p_of o38 rfl (by (conv => lhs; simp -implicitDefEqProofs only [go_sem]) <;> rfl) (by (simp -implicitDefEqProofs only [go_sem]) <;> rfl) ?_
  rintro _ _ ⟨⟨c, rfl, hc⟩, rfl⟩
  simp -implicitDefEqProofs only [go_sem]
  refine ⟨c, rfl, ?_⟩
  simp only [List.mem_cons, List.not_mem_nil, or_false] at hc
  rcases hc with rfl | rfl | rfl | rfl | rfl | rfl | rfl | rfl | rfl | rfl | rfl <;> decide
def ltI (a b : Idt) : Bool := decide (a.t < b.t) || (decide (a.t = b.t) && decide (a.n < b.n))
theorem ordM_i (a b : Idt) : decide (ordM a.t a.n b.t b.n < 0) = ltI a b := by
  rw [Bool.eq_iff_iff]; simp [ordM_lt, ltI]
theorem getM_text (a : Idt) : (getM (idText a)).2 = !(decide (idText a = ⟨#[]⟩)) ∧ ((getM (idText a)).2 = true → (getM (idText a)).1 = a) := by
  cases h : idOkM a.t a.n
  · have e : idText a = ⟨#[]⟩ := by simp [idText, h]
    have hn : getM (idText a) = (⟨0, 0⟩, false) := getM_no fun x hx => by
      obtain ⟨t', n', rfl, _, _, e2⟩ := idIs_split hx
      rw [e] at e2
      simp at e2
    rw [hn]
    exact ⟨by simp [e], fun hh => by cases hh⟩
  · have hy : getM (idText a) = (a, true) := getM_yes ⟨h, rfl⟩
    rw [hy]
    refine ⟨?_, fun _ => rfl⟩
    have : idText a ≠ ⟨#[]⟩ := fun e => by
      obtain ⟨t, n, rfl, _, _⟩ := idOkM_nat h
      have := idText_list h
      rw [e] at this
      simp at this
    simp [this]
theorem getM_back {s : ByteArray} (h : (getM s).2 = true) : idText (getM s).1 = s := by
  by_cases hx : ∃ x, idIs s x
  · obtain ⟨x, hx⟩ := hx
    rw [getM_yes hx]
    exact hx.2.symm
  · rw [getM_no (fun x h => hx ⟨x, h⟩)] at h; cases h
theorem s_FnIdText (bs cs : List Int) (hb : lG isB bs) (hc : lG isB cs) : Spec Tryd.prog 5 [by8 bs, by8 cs] (fun r => r = Bo true) := by
  refine Spec.of tysOk mixed Tryd.func5 rfl (by decide) ?_
  simp -implicitDefEqProofs only [go_sem, Tryd.f5]
  refine BrA_i (fun h1 => ?_) (fun h1 => ?_) <;> simp -implicitDefEqProofs only [go_sem]
  have h1 : bs.length ≤ 1048576 := by have := of_decide_eq_false h1; omega
  refine BrA_i (fun h2 => ?_) (fun h2 => ?_) <;> simp -implicitDefEqProofs only [go_sem]
  have h2 : cs.length ≤ 1048576 := by have := of_decide_eq_false h2; omega
  refine CallW.ps (s_DrawIdLess bs hb.2 h1) p_DrawIdLess (by first | (simp -implicitDefEqProofs only [go_sem]; done) | ((conv => lhs; simp -implicitDefEqProofs only [go_sem]); done) | (simp -implicitDefEqProofs only [go_sem]; rfl) | rfl) rfl ?_
  rintro _ ⟨a, b, rfl⟩
  simp -implicitDefEqProofs only [go_sem]
  refine CallW.one (s_IdPut a) p_IdPut (by first | (simp -implicitDefEqProofs only [go_sem]; done) | ((conv => lhs; simp -implicitDefEqProofs only [go_sem]); done) | (simp -implicitDefEqProofs only [go_sem]; rfl) | rfl) (by first | trivial | (simp [DeepR, DeepV, DeepVs, DeepC, DeepCs, T.scal]; done)) ?_
  simp -implicitDefEqProofs only [go_sem]
  have hsz : (idText a).size ≤ 1048576 := by
    unfold idText
    split
    · have s1 : ∀ n : Nat, n < 10000000000000000000 → (decM n).size ≤ 19 := fun n h => decM_size n h
      rename_i hok
      obtain ⟨t, n, rfl, g1, g2⟩ := idOkM_nat hok
      have u1 := s1 t (by omega)
      have u2 := s1 n (by omega)
      have e1 : ((t : Int)).toNat = t := by omega
      have e2 : ((n : Int)).toNat = n := by omega
      simp only [e1, e2]
      rw [ByteArray.size_append, ByteArray.size_append, sz1]; omega
    · decide
  refine CallW.onep (s_IdGet (idText a) hsz) p_IdGet (by first | (simp -implicitDefEqProofs only [go_sem]; done) | ((conv => lhs; simp -implicitDefEqProofs only [go_sem]); done) | (simp -implicitDefEqProofs only [go_sem]; rfl) | rfl) rfl ?_
  obtain ⟨f1, f2⟩ := getM_text a
  obtain ⟨⟨x, ok⟩, hx⟩ : ∃ q, q = getM (idText a) := ⟨_, rfl⟩
  rw [← hx] at f1 f2 ⊢
  simp only at f1 f2
  have hq : (ok == !decide (idText a = ⟨#[]⟩)) = true := by rw [f1]; simp
  have hlab : ∀ u v : Idt, ltI u v = true ↔ (u.t < v.t ∨ u.t = v.t ∧ u.n < v.n) := fun u v => by simp [ltI]
  simp -implicitDefEqProofs only [go_sem]
  refine CallW.one (s_IdLess a.t a.n b.t b.n) p_IdLess (by first | (simp -implicitDefEqProofs only [go_sem]; done) | ((conv => lhs; simp -implicitDefEqProofs only [go_sem]); done) | (simp -implicitDefEqProofs only [go_sem]; rfl) | rfl) (by first | trivial | (simp [DeepR, DeepV, DeepVs, DeepC, DeepCs, T.scal]; done)) ?_
  rw [ordM_i a b]
  obtain ⟨L, hL⟩ : ∃ L, L = ltI a b := ⟨_, rfl⟩
  rw [← hL]
  simp -implicitDefEqProofs only [go_sem]
  refine CallW.one (s_sIdPut a) p_sIdPut (by first | (simp -implicitDefEqProofs only [go_sem]; done) | ((conv => lhs; simp -implicitDefEqProofs only [go_sem]); done) | (simp -implicitDefEqProofs only [go_sem]; rfl) | rfl) (by first | trivial | (simp [DeepR, DeepV, DeepVs, DeepC, DeepCs, T.scal]; done)) ?_
  simp -implicitDefEqProofs only [go_sem, eq_self, decide_true, beq_self_eq_true, Bool.not_true, hq]
  clear f1 hq
  have stepB : ∀ M, M = ltI b a → (L = true → M = false) ∧ (L = false → M = false → a.t = b.t ∧ a.n = b.n) := by
    intro M hM
    subst hL hM
    constructor
    · intro h
      rw [hlab] at h
      cases e : ltI b a
      · rfl
      · rw [hlab] at e; omega
    · intro h h'
      have n1 : ¬ (a.t < b.t ∨ a.t = b.t ∧ a.n < b.n) := fun e => by rw [← hlab] at e; rw [e] at h; cases h
      have n2 : ¬ (b.t < a.t ∨ b.t = a.t ∧ b.n < a.n) := fun e => by rw [← hlab] at e; rw [e] at h'; cases h'
      omega
  obtain ⟨M, hM⟩ : ∃ M, M = ltI b a := ⟨_, rfl⟩
  obtain ⟨m1, m2⟩ := stepB M hM
  cases ok
  all_goals
    first
      | (obtain rfl : a = x := (f2 rfl).symm)
      | skip
    simp -implicitDefEqProofs only [go_sem, eq_self, decide_true, beq_self_eq_true, Bool.not_true, Bool.and_self]
    refine CallW.one (s_sIdLess a.t a.n b.t b.n) p_sIdLess (by first | (simp -implicitDefEqProofs only [go_sem]; done) | ((conv => lhs; simp -implicitDefEqProofs only [go_sem]); done) | (simp -implicitDefEqProofs only [go_sem]; rfl) | rfl) (by first | trivial | (simp [DeepR, DeepV, DeepVs, DeepC, DeepCs, T.scal]; done)) ?_
    rw [ordM_i a b, ← hL]
    cases hLv : L
    · simp -implicitDefEqProofs only [go_sem, beq_self_eq_true, Bool.not_true, Bool.not_false]
      refine CallW.one (s_IdLess b.t b.n a.t a.n) p_IdLess (by first | (simp -implicitDefEqProofs only [go_sem]; done) | ((conv => lhs; simp -implicitDefEqProofs only [go_sem]); done) | (simp -implicitDefEqProofs only [go_sem]; rfl) | rfl) (by first | trivial | (simp [DeepR, DeepV, DeepVs, DeepC, DeepCs, T.scal]; done)) ?_
      rw [ordM_i b a, ← hM]
      cases hMv : M
      · obtain ⟨e1, e2⟩ := m2 hLv hMv
        simp -implicitDefEqProofs only [go_sem, e1, e2, eq_self, decide_true, Bool.and_self, Bool.not_true, Bool.not_false]
        refine CallW.ps (s_DrawIdGet cs hc.2 h2) p_DrawIdGet (by first | (simp -implicitDefEqProofs only [go_sem]; done) | ((conv => lhs; simp -implicitDefEqProofs only [go_sem]); done) | (simp -implicitDefEqProofs only [go_sem]; rfl) | rfl) rfl ?_
        rintro _ ⟨s, rfl, hs⟩
        simp -implicitDefEqProofs only [go_sem]
        refine CallW.onep (s_IdGet s (by omega)) p_IdGet (by first | (simp -implicitDefEqProofs only [go_sem]; done) | ((conv => lhs; simp -implicitDefEqProofs only [go_sem]); done) | (simp -implicitDefEqProofs only [go_sem]; rfl) | rfl) rfl ?_
        have hbk := getM_back (s := s)
        obtain ⟨⟨y, fine⟩, hy⟩ : ∃ q, q = getM s := ⟨_, rfl⟩
        rw [← hy] at hbk ⊢
        simp only at hbk
        simp -implicitDefEqProofs only [go_sem]
        refine CallW.onep (s_sIdGet s (by omega)) p_sIdGet (by first | (simp -implicitDefEqProofs only [go_sem]; done) | ((conv => lhs; simp -implicitDefEqProofs only [go_sem]); done) | (simp -implicitDefEqProofs only [go_sem]; rfl) | rfl) rfl ?_
        rw [← hy]
        simp -implicitDefEqProofs only [go_sem, eq_self, decide_true, beq_self_eq_true, Bool.not_true, Bool.and_self]
        cases fine
        · simp -implicitDefEqProofs only [go_sem, Bool.not_false]
        · simp -implicitDefEqProofs only [go_sem, Bool.not_true]
          refine CallW.one (s_IdPut y) p_IdPut (by first | (simp -implicitDefEqProofs only [go_sem]; done) | ((conv => lhs; simp -implicitDefEqProofs only [go_sem]); done) | (simp -implicitDefEqProofs only [go_sem]; rfl) | rfl) (by first | trivial | (simp [DeepR, DeepV, DeepVs, DeepC, DeepCs, T.scal]; done)) ?_
          simp -implicitDefEqProofs only [go_sem, hbk rfl, eq_self, decide_true]
      · simp -implicitDefEqProofs only [go_sem, Bool.not_true, Bool.not_false]
        refine CallW.ps (s_DrawIdGet cs hc.2 h2) p_DrawIdGet (by first | (simp -implicitDefEqProofs only [go_sem]; done) | ((conv => lhs; simp -implicitDefEqProofs only [go_sem]); done) | (simp -implicitDefEqProofs only [go_sem]; rfl) | rfl) rfl ?_
        rintro _ ⟨s, rfl, hs⟩
        simp -implicitDefEqProofs only [go_sem]
        refine CallW.onep (s_IdGet s (by omega)) p_IdGet (by first | (simp -implicitDefEqProofs only [go_sem]; done) | ((conv => lhs; simp -implicitDefEqProofs only [go_sem]); done) | (simp -implicitDefEqProofs only [go_sem]; rfl) | rfl) rfl ?_
        have hbk := getM_back (s := s)
        obtain ⟨⟨y, fine⟩, hy⟩ : ∃ q, q = getM s := ⟨_, rfl⟩
        rw [← hy] at hbk ⊢
        simp only at hbk
        simp -implicitDefEqProofs only [go_sem]
        refine CallW.onep (s_sIdGet s (by omega)) p_sIdGet (by first | (simp -implicitDefEqProofs only [go_sem]; done) | ((conv => lhs; simp -implicitDefEqProofs only [go_sem]); done) | (simp -implicitDefEqProofs only [go_sem]; rfl) | rfl) rfl ?_
        rw [← hy]
        simp -implicitDefEqProofs only [go_sem, eq_self, decide_true, beq_self_eq_true, Bool.not_true, Bool.and_self]
        cases fine
        · simp -implicitDefEqProofs only [go_sem, Bool.not_false]
        · simp -implicitDefEqProofs only [go_sem, Bool.not_true]
          refine CallW.one (s_IdPut y) p_IdPut (by first | (simp -implicitDefEqProofs only [go_sem]; done) | ((conv => lhs; simp -implicitDefEqProofs only [go_sem]); done) | (simp -implicitDefEqProofs only [go_sem]; rfl) | rfl) (by first | trivial | (simp [DeepR, DeepV, DeepVs, DeepC, DeepCs, T.scal]; done)) ?_
          simp -implicitDefEqProofs only [go_sem, hbk rfl, eq_self, decide_true]
    · simp -implicitDefEqProofs only [go_sem, beq_self_eq_true, Bool.not_true, Bool.not_false]
      refine CallW.one (s_IdLess b.t b.n a.t a.n) p_IdLess (by first | (simp -implicitDefEqProofs only [go_sem]; done) | ((conv => lhs; simp -implicitDefEqProofs only [go_sem]); done) | (simp -implicitDefEqProofs only [go_sem]; rfl) | rfl) (by first | trivial | (simp [DeepR, DeepV, DeepVs, DeepC, DeepCs, T.scal]; done)) ?_
      rw [ordM_i b a, ← hM, m1 hLv]
      simp -implicitDefEqProofs only [go_sem, Bool.not_true, Bool.not_false]
      refine CallW.ps (s_DrawIdGet cs hc.2 h2) p_DrawIdGet (by first | (simp -implicitDefEqProofs only [go_sem]; done) | ((conv => lhs; simp -implicitDefEqProofs only [go_sem]); done) | (simp -implicitDefEqProofs only [go_sem]; rfl) | rfl) rfl ?_
      rintro _ ⟨s, rfl, hs⟩
      simp -implicitDefEqProofs only [go_sem]
      refine CallW.onep (s_IdGet s (by omega)) p_IdGet (by first | (simp -implicitDefEqProofs only [go_sem]; done) | ((conv => lhs; simp -implicitDefEqProofs only [go_sem]); done) | (simp -implicitDefEqProofs only [go_sem]; rfl) | rfl) rfl ?_
      have hbk := getM_back (s := s)
      obtain ⟨⟨y, fine⟩, hy⟩ : ∃ q, q = getM s := ⟨_, rfl⟩
      rw [← hy] at hbk ⊢
      simp only at hbk
      simp -implicitDefEqProofs only [go_sem]
      refine CallW.onep (s_sIdGet s (by omega)) p_sIdGet (by first | (simp -implicitDefEqProofs only [go_sem]; done) | ((conv => lhs; simp -implicitDefEqProofs only [go_sem]); done) | (simp -implicitDefEqProofs only [go_sem]; rfl) | rfl) rfl ?_
      rw [← hy]
      simp -implicitDefEqProofs only [go_sem, eq_self, decide_true, beq_self_eq_true, Bool.not_true, Bool.and_self]
      cases fine
      · simp -implicitDefEqProofs only [go_sem, Bool.not_false]
      · simp -implicitDefEqProofs only [go_sem, Bool.not_true]
        refine CallW.one (s_IdPut y) p_IdPut (by first | (simp -implicitDefEqProofs only [go_sem]; done) | ((conv => lhs; simp -implicitDefEqProofs only [go_sem]); done) | (simp -implicitDefEqProofs only [go_sem]; rfl) | rfl) (by first | trivial | (simp [DeepR, DeepV, DeepVs, DeepC, DeepCs, T.scal]; done)) ?_
        simp -implicitDefEqProofs only [go_sem, hbk rfl, eq_self, decide_true]
end Go.Proofs.YtgkmbbiebmamaaaDoor.Am
