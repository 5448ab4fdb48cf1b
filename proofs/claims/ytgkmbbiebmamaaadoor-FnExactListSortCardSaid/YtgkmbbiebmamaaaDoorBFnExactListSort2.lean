/- Texts of this claim, packed: walks and laws that its row stands on. Each states its own conditions. -/
import Derived.Below
import Derived.BigCall
import Derived.BigGuard
import Derived.ChangeArms
import Derived.ChangeOld
import Derived.ChangeSlices
import Derived.DataElems
import Derived.OpenShut
import Derived.ProofKit
import Derived.Shelf.LaysC
import Derived.Shelf.LaysM
import Derived.Shelf.Strconv.ErrVarAll
import Derived.Shelf.Strconv.Itoa3
import Derived.Shelf.Strings.Cut
import Derived.ShutString
import Derived.SizedLaws
import Derived.Test.YtgkmbbiebmamaaaDoorBFnExactListSort1
namespace Go.Proofs.YtgkmbbiebmamaaaDoor.Am
open Go
@[ext] structure Pr where
  k : ByteArray
  v : ByteArray
deriving DecidableEq
@[ext] structure Idt where
  t : Int
  n : Int
deriving DecidableEq
@[ext] structure It where
  id : Idt
  fields : List Pr
deriving DecidableEq
@[ext] structure Wt where
  id : Idt
  who : ByteArray
  at' : Int
  tm : Int
deriving DecidableEq
@[ext] structure Gr where
  name : ByteArray
  last : Idt
  waits : List Wt
deriving DecidableEq
@[ext] structure Stm where
  last : Idt
  items : List It
  groups : List Gr
deriving DecidableEq
def Pr.row (x : Pr) : List T := [.str x.k, .str x.v]
def It.row (x : It) : List T := [.int .i64 x.id.t, .int .i64 x.id.n, .list false 2 (x.fields.map Pr.row)]
def Wt.row (x : Wt) : List T := [.int .i64 x.id.t, .int .i64 x.id.n, .str x.who, .int .i64 x.at', .int .i64 x.tm]
def Gr.row (x : Gr) : List T := [.str x.name, .int .i64 x.last.t, .int .i64 x.last.n, .list false 5 (x.waits.map Wt.row)]
def It.rowO (x : It) : List T := [.int .i64 x.id.t, .int .i64 x.id.n, .list true 2 (x.fields.map Pr.row)]
def Gr.rowO (x : Gr) : List T := [.str x.name, .int .i64 x.last.t, .int .i64 x.last.n, .list true 5 (x.waits.map Wt.row)]
def cutM (n : Int) (w : Nat) : Int := if n < w then -1 else n - w
theorem cutM_lt (n : Int) (w : Nat) : cutM n w < 0 ↔ n < w := by unfold cutM; split <;> omega
def Pr.w (x : Pr) : Nat := x.k.size + x.v.size
def It.w (x : It) : Nat := wAll Pr.w x.fields
def Wt.w (x : Wt) : Nat := x.who.size
def Gr.w (x : Gr) : Nat := x.name.size + wAll Wt.w x.waits
def Stm.w (x : Stm) : Nat := wAll It.w x.items + wAll Gr.w x.groups
def ts (l : List T) : List AV := l.map .t
theorem bytesEq_iff (a b : ByteArray) : bytesEq a b = decide (a = b) := by
  unfold bytesEq
  rw [ByteArray.toList_eq, ByteArray.toList_eq]
  obtain ⟨⟨x⟩⟩ := a
  obtain ⟨⟨y⟩⟩ := b
  by_cases h : x = y
  · subst h; simp
  · have h1 : (x == y) = false := by simpa using h
    simp [h, h1]
theorem mk_rows {α : Type} (f : α → List T) (h : ∀ x, (f x).map (T.mk false) = f x) (l : List α) : (l.map f).map (List.map (T.mk false)) = l.map f := by
  rw [List.map_map]
  exact List.map_congr_left fun x _ => h x
theorem Pr.mk_rows (l : List Pr) : (l.map Pr.row).map (List.map (T.mk false)) = l.map Pr.row := Am.mk_rows _ (fun _ => rfl) l
theorem Wt.mk_rows (l : List Wt) : (l.map Wt.row).map (List.map (T.mk false)) = l.map Wt.row := Am.mk_rows _ (fun _ => rfl) l
theorem It.mk_rows (l : List It) : (l.map It.row).map (List.map (T.mk false)) = l.map It.row := Am.mk_rows _ (fun x => by simp only [It.row, List.map_cons, List.map_nil, T.mk_list, T.mk_int, Pr.mk_rows]) l
theorem Gr.mk_rows (l : List Gr) : (l.map Gr.row).map (List.map (T.mk false)) = l.map Gr.row := Am.mk_rows _ (fun x => by simp only [Gr.row, List.map_cons, List.map_nil, T.mk_list, T.mk_int, T.mk_str, Wt.mk_rows]) l
attribute [go_sem] bytesEq_iff Pr.mk_rows Wt.mk_rows It.mk_rows Gr.mk_rows
end Go.Proofs.YtgkmbbiebmamaaaDoor.Am
namespace Go.Proofs.YtgkmbbiebmamaaaDoor.Am
open Go
set_option maxRecDepth 100000
set_option linter.unusedSimpArgs false
set_option linter.unusedVariables false
def dig (n : Nat) : ByteArray := ⟨#[UInt8.ofNat (IntKind.u8.wrap (48 + (n : Int))).toNat]⟩
def mtL (n : Nat) (out : ByteArray) : ByteArray := if h : n = 0 then out else mtL (n / 10) (dig (n % 10) ++ out)
termination_by n
decreasing_by omega
theorem mtL_pos {n : Nat} (h : 0 < n) (out : ByteArray) : mtL n out = mtL (n / 10) (dig (n % 10) ++ out) := by rw [mtL, dif_neg (by omega)]
theorem mtL_0 (out : ByteArray) : mtL 0 out = out := by rw [mtL, dif_pos rfl]
def mt (k : Int) : ByteArray := if k ≤ 0 then "m0".toUTF8 else "m".toUTF8 ++ mtL k.toNat .empty
theorem p_markText : Plain Tryd.prog 50 := ⟨_, Tryd.func50, rfl, by decide⟩
theorem s_markText (k : Int) (hk : k < 1000000000000000000) : Spec Tryd.prog 50 [I k] (fun r => r = .t (.str (mt k))) := by
  refine Spec.of tysOk mixed Tryd.func50 rfl (by decide) ?_
  simp -implicitDefEqProofs only [go_sem, Tryd.f50]
  refine BrA_i (fun h => ?_) (fun h => ?_) <;> simp -implicitDefEqProofs only [go_sem]
  · have h : k ≤ 0 := by simpa using h
    simp only [mt, if_pos h]; rfl
  · have h : 0 < k := by simpa using h
    refine LoopW.slotsL (α := Nat × ByteArray × Nat) (fun p => [(0, I p.1), (3, .t (.str p.2.1))]) (fun _ => []) (fun p => p.1) (fun p => mtL p.1 p.2.1 = mtL k.toNat .empty ∧ p.1 < 10 ^ p.2.2 ∧ p.2.1.size + p.2.2 ≤ 100 ∧ p.1 ≤ k.toNat) (k.toNat, .empty, 18) ?_ rfl ?_ ?_
    · simp -implicitDefEqProofs only [go_sem, LeTs_undef, LeTs_same, LeTs_nil, Int.toNat_of_nonneg (show 0 ≤ k by omega)]
      simp [LeTs]; rfl
    · refine ⟨rfl, ?_, ?_, Nat.le_refl _⟩
      · show k.toNat < 10 ^ 18; omega
      · show (0 + 18 ≤ 100); omega
    rintro ⟨n, out, f⟩ ⟨h1, h2, h3, h4⟩
    simp -implicitDefEqProofs only [go_sem]
    refine BrA_i (fun h => ?_) (fun h => ?_) <;> simp -implicitDefEqProofs only [go_sem]
    · have h : 0 < n := by simp at h; omega
      simp only at h1 h2 h3 h4
      have e1 : IntKind.i64.wrap (48 + (n : Int).tmod 10) = 48 + ((n % 10 : Nat) : Int) := by
        have : (n : Int).tmod 10 = ((n % 10 : Nat) : Int) := rfl
        rw [this, wrap64 (by omega) (by omega)]
      have e2 : IntKind.i64.wrap ((n : Int).tdiv 10) = ((n / 10 : Nat) : Int) := by
        have h0 : (n : Int).tdiv 10 = ((n / 10 : Nat) : Int) := rfl
        rw [h0, wrap64 (by omega) (by omega)]
      have ed : (⟨#[UInt8.ofNat (IntKind.u8.wrap (48 + ((n % 10 : Nat) : Int))).toNat]⟩ : ByteArray) = dig (n % 10) := rfl
      rw [e1, e2, ed]
      have hf : f ≠ 0 := fun e => by subst e; simp at h2; omega
      obtain ⟨f, rfl⟩ : ∃ g, f = g + 1 := ⟨f - 1, by omega⟩
      have hsz : (dig (n % 10) ++ out).size = out.size + 1 := by
        rw [ByteArray.size_append]; show 1 + out.size = _; omega
      refine ⟨by unfold strMax; omega, .to [96] (n / 10, dig (n % 10) ++ out, f) rfl ?_ rfl ?_ ⟨?_, ?_, ?_, ?_⟩⟩
      · simp -implicitDefEqProofs only [go_sem, LeTs_undef, LeTs_same, LeTs_nil]
      · show n / 10 < n; omega
      · show mtL (n / 10) (dig (n % 10) ++ out) = _
        rw [← h1, mtL_pos h]
      · show n / 10 < 10 ^ f
        rw [Nat.pow_succ] at h2; omega
      · show (dig (n % 10) ++ out).size + f ≤ 100; omega
      · show n / 10 ≤ k.toNat; omega
    · have h : n = 0 := by simp at h; omega
      subst h
      simp only at h1 h2 h3 h4
      rw [mtL_0] at h1
      refine ⟨by unfold strMax; omega, ?_⟩
      have hk0 : ¬ k ≤ 0 := by omega
      simp only [mt, if_neg hk0, ← h1]
      rfl
end Go.Proofs.YtgkmbbiebmamaaaDoor.Am
namespace Go.Proofs.YtgkmbbiebmamaaaDoor.Am
open Go
set_option maxRecDepth 100000
set_option linter.unusedSimpArgs false
set_option linter.unusedVariables false
def decM (n : Nat) : ByteArray := if h : n < 10 then dig n else decM (n / 10) ++ dig (n % 10)
termination_by n
decreasing_by omega
theorem decM_lt {n : Nat} (h : n < 10) : decM n = dig n := by rw [decM, dif_pos h]
theorem decM_ge {n : Nat} (h : ¬ n < 10) : decM n = decM (n / 10) ++ dig (n % 10) := by rw [decM, dif_neg h]
def bval (l : List UInt8) : Nat := l.foldl (fun a b => 10 * a + (b.toNat - 48)) 0
theorem bval_snoc (l : List UInt8) (b : UInt8) : bval (l ++ [b]) = 10 * bval l + (b.toNat - 48) := by simp [bval, List.foldl_append]
theorem dig_list (n : Nat) (h : n < 10) : ∃ b : UInt8, (dig n).data.toList = [b] ∧ b.toNat = 48 + n := by
  refine ⟨UInt8.ofNat (IntKind.u8.wrap (48 + (n : Int))).toNat, rfl, ?_⟩
  have : IntKind.u8.wrap (48 + (n : Int)) = 48 + (n : Int) := by
    simp [IntKind.wrap, IntKind.signed, IntKind.bits]; omega
  rw [this]
  have h2 : (48 + (n : Int)).toNat = 48 + n := by omega
  rw [h2]
  simp [UInt8.toNat_ofNat']
  omega
theorem bval_decM (n : Nat) : bval (decM n).data.toList = n := by
  induction n using Nat.strongRecOn with
  | _ n ih =>
    by_cases h : n < 10
    · obtain ⟨b, h1, h2⟩ := dig_list n h
      rw [decM_lt h, h1]
      simp [bval, h2]
    · obtain ⟨b, h1, h2⟩ := dig_list (n % 10) (by omega)
      rw [decM_ge h, ByteArray.data_append, Array.toList_append, h1, bval_snoc, ih _ (by omega), h2]
      omega
end Go.Proofs.YtgkmbbiebmamaaaDoor.Am
namespace Go.Proofs.YtgkmbbiebmamaaaDoor.Am
open Go
set_option maxRecDepth 100000
set_option linter.unusedSimpArgs false
set_option linter.unusedVariables false
theorem s_isNaN (n : Int) : Spec Tryd.prog 65 [I n] (fun r => r = Bo false) := by
  refine Spec.of tysOk mixed Tryd.func65 rfl (by decide) ?_
  simp -implicitDefEqProofs only [go_sem, Tryd.f65]
theorem p_isNaN : Plain Tryd.prog 65 := ⟨_, Tryd.func65, rfl, by decide⟩
def cmpM (a b : Int) : Int := if a < b then -1 else if b < a then 1 else 0
theorem s_compare (a b : Int) : Spec Tryd.prog 49 [I a, I b] (fun r => r = I (cmpM a b)) := by
  refine Spec.of tysOk mixed Tryd.func49 rfl (by decide) ?_
  simp -implicitDefEqProofs only [go_sem, Tryd.f49]
  refine .one (s_isNaN _) p_isNaN rfl trivial ?_
  simp -implicitDefEqProofs only [go_sem]
  refine .one (s_isNaN _) p_isNaN rfl trivial ?_
  simp -implicitDefEqProofs only [go_sem]
  refine BrA_i (fun h => ?_) (fun h => ?_)
  · simp -implicitDefEqProofs only [go_sem]; simp_all [cmpM]
  · simp -implicitDefEqProofs only [go_sem]
    refine BrA_i (fun h => ?_) (fun h => ?_) <;> simp -implicitDefEqProofs only [go_sem] <;> simp_all [cmpM] <;> omega
theorem p_compare : Plain Tryd.prog 49 := ⟨_, Tryd.func49, rfl, by decide⟩
def withinM (n lo hi : Int) : Bool := decide (lo ≤ n) && decide (n ≤ hi)
theorem s_within (n lo hi : Int) : Spec Tryd.prog 53 [I n, I lo, I hi] (fun r => r = Bo (withinM n lo hi)) := by
  refine Spec.of tysOk mixed Tryd.func53 rfl (by decide) ?_
  simp -implicitDefEqProofs only [go_sem, Tryd.f53]
  refine BrA_i (fun h => ?_) (fun h => ?_) <;> simp -implicitDefEqProofs only [go_sem] <;> simp_all [withinM] <;> omega
end Go.Proofs.YtgkmbbiebmamaaaDoor.Am
namespace Go.Proofs.YtgkmbbiebmamaaaDoor.Am
open Go
set_option maxRecDepth 100000
set_option linter.unusedSimpArgs false
set_option linter.unusedVariables false
theorem p_l1In : Plain Tryd.prog 55 := ⟨_, Tryd.func55, rfl, by decide⟩
theorem s_l1In (n lo hi : Int) : Spec Tryd.prog 55 [I n, I lo, I hi] (fun r => r = Bo (withinM n lo hi)) := by
  refine Spec.of tysOk mixed Tryd.func55 rfl (by decide) ?_
  simp -implicitDefEqProofs only [go_sem, Tryd.f55]
  refine BrA_i (fun h => ?_) (fun h => ?_) <;> simp -implicitDefEqProofs only [go_sem] <;> simp_all [withinM] <;> omega
end Go.Proofs.YtgkmbbiebmamaaaDoor.Am
namespace Go.Proofs.YtgkmbbiebmamaaaDoor.Am
open Go
set_option maxRecDepth 100000
set_option maxHeartbeats 1000000
set_option linter.unusedSimpArgs false
set_option linter.unusedVariables false
def digB (b : UInt8) : Bool := decide (48 ≤ b.toNat) && decide (b.toNat ≤ 57)
theorem digB_dig {n : Nat} (h : n < 10) : ∀ b ∈ (dig n).data.toList, digB b = true := by
  obtain ⟨b, h1, h2⟩ := dig_list n h
  intro c hc
  rw [h1] at hc
  simp only [List.mem_cons, List.not_mem_nil, or_false] at hc
  subst hc
  simp only [digB, h2, Bool.and_eq_true, decide_eq_true_eq]; omega
abbrev decL (n : Nat) : List UInt8 := (decM n).data.toList
theorem decL_dig (n : Nat) : ∀ b ∈ decL n, digB b = true := by
  induction n using Nat.strongRecOn with
  | _ n ih =>
    intro b hb
    by_cases h : n < 10
    · unfold decL at hb; rw [decM_lt h] at hb; exact digB_dig h b hb
    · unfold decL at hb
      rw [decM_ge h, ByteArray.data_append, Array.toList_append, List.mem_append] at hb
      rcases hb with hb | hb
      · exact ih (n / 10) (by omega) b hb
      · exact digB_dig (by omega) b hb
theorem decL_ne (n : Nat) : decL n ≠ [] := by
  by_cases h : n < 10
  · obtain ⟨b, h1, _⟩ := dig_list n h
    unfold decL; rw [decM_lt h, h1]; simp
  · obtain ⟨b, h1, _⟩ := dig_list (n % 10) (by omega)
    unfold decL; rw [decM_ge h, ByteArray.data_append, Array.toList_append, h1]; simp
theorem decL_head (n : Nat) : (decL n).length = 1 ∨ ∃ b l, decL n = b :: l ∧ b.toNat ≠ 48 := by
  induction n using Nat.strongRecOn with
  | _ n ih =>
    by_cases h : n < 10
    · obtain ⟨b, h1, _⟩ := dig_list n h
      left; unfold decL; rw [decM_lt h, h1]; rfl
    · right
      obtain ⟨c, h1, _⟩ := dig_list (n % 10) (by omega)
      have e : decL n = decL (n / 10) ++ [c] := by
        show (decM n).data.toList = _
        rw [decM_ge h, ByteArray.data_append, Array.toList_append, h1]
      rw [e]
      rcases ih (n / 10) (by omega) with h2 | ⟨b, l, h2, h3⟩
      · by_cases h9 : n / 10 < 10
        · obtain ⟨b, h4, h5⟩ := dig_list (n / 10) h9
          have e2 : decL (n / 10) = [b] := by show (decM _).data.toList = _; rw [decM_lt h9, h4]
          exact ⟨b, [c], by rw [e2]; rfl, by omega⟩
        · exfalso
          have : decL (n / 10) = decL (n / 10 / 10) ++ (dig (n / 10 % 10)).data.toList := by
            show (decM _).data.toList = _
            rw [decM_ge h9, ByteArray.data_append, Array.toList_append]
          obtain ⟨d, h6, _⟩ := dig_list (n / 10 % 10) (by omega)
          rw [this, h6, List.length_append] at h2
          have hp := List.length_pos_iff.2 (decL_ne (n / 10 / 10))
          rw [List.length_singleton] at h2; omega
      · exact ⟨b, l ++ [c], by rw [h2]; rfl, h3⟩
def canon (l : List UInt8) : Prop := (∀ b ∈ l, digB b = true) ∧ l ≠ [] ∧ (l.length = 1 ∨ ∀ b t, l = b :: t → b.toNat ≠ 48)
theorem bval_pos : ∀ {l : List UInt8} {b : UInt8} {t : List UInt8}, (∀ b ∈ l, digB b = true) → l = b :: t → b.toNat ≠ 48 → 0 < bval l := by
  intro l
  induction h : l.length generalizing l with
  | zero => intro b t _ e; subst e; simp at h
  | succ k ih =>
    intro b t hd e hb
    rcases List.eq_nil_or_concat t with rfl | ⟨t', c, rfl⟩
    · subst e
      have := hd b (by simp)
      simp only [digB, Bool.and_eq_true, decide_eq_true_eq] at this
      simp only [bval, List.foldl_cons, List.foldl_nil]; omega
    · have e2 : l = (b :: t') ++ [c] := by rw [e]; simp
      have := ih (l := b :: t') (by rw [e2] at h; simp at h ⊢; omega) (fun x hx => hd x (by rw [e2]; simp at hx ⊢; rcases hx with h | h <;> simp [h])) rfl hb
      rw [e2, bval_snoc]; omega
theorem canon_dec : ∀ {l : List UInt8}, canon l → l = decL (bval l) := by
  intro l
  induction h : l.length generalizing l with
  | zero => intro hc; exact absurd (List.length_eq_zero_iff.1 h) hc.2.1
  | succ k ih =>
    rintro ⟨h1, h2, h3⟩
    rcases List.eq_nil_or_concat l with rfl | ⟨t, c, rfl⟩
    · exact absurd rfl h2
    simp only [List.concat_eq_append] at *
    have hc := h1 c (by simp)
    simp only [digB, Bool.and_eq_true, decide_eq_true_eq] at hc
    have hdig : ∀ d, d < 10 → c.toNat = 48 + d → (dig d).data.toList = [c] := by
      intro d hd e
      obtain ⟨b, g1, g2⟩ := dig_list d hd
      rw [g1]; congr 1; apply UInt8.toNat_inj.1; omega
    rw [bval_snoc]
    by_cases ht : t = []
    · subst ht
      show [c] = (decM _).data.toList
      have e0 : 10 * bval [] + (c.toNat - 48) = c.toNat - 48 := by simp [bval]
      rw [e0, decM_lt (by omega), hdig _ (by omega) (by omega)]
    · obtain ⟨b, t', e⟩ : ∃ b t', t = b :: t' := by cases t with | nil => exact absurd rfl ht | cons b t' => exact ⟨b, t', rfl⟩
      have hb : b.toNat ≠ 48 := by
        rcases h3 with h3 | h3
        · rw [e] at h3; simp at h3
        · exact h3 b (t' ++ [c]) (by rw [e]; rfl)
      have hd : ∀ x ∈ t, digB x = true := fun x hx => h1 x (by simp [hx])
      have hp := bval_pos hd e hb
      have hr := ih (l := t) (by simp at h; omega) ⟨hd, ht, .inr fun b2 t2 e2 => by rw [e] at e2; cases e2; exact hb⟩
      show _ = (decM _).data.toList
      have e1 : (10 * bval t + (c.toNat - 48)) / 10 = bval t := by omega
      have e2 : (10 * bval t + (c.toNat - 48)) % 10 = c.toNat - 48 := by omega
      rw [decM_ge (by omega), ByteArray.data_append, Array.toList_append, e1, e2, hdig _ (by omega) (by omega)]
      have hr' : t = (decM (bval t)).data.toList := hr
      conv => lhs; rw [hr']
theorem bval_lt : ∀ {l : List UInt8}, (∀ b ∈ l, digB b = true) → bval l < 10 ^ l.length := by
  intro l
  induction h : l.length generalizing l with
  | zero => intro _; rw [List.length_eq_zero_iff.1 h]; decide
  | succ k ih =>
    intro hd
    rcases List.eq_nil_or_concat l with rfl | ⟨t, c, rfl⟩
    · simp at h
    simp only [List.concat_eq_append] at *
    have hc := hd c (by simp)
    simp only [digB, Bool.and_eq_true, decide_eq_true_eq] at hc
    have := ih (l := t) (by simp at h; omega) (fun x hx => hd x (by simp [hx]))
    rw [bval_snoc, Nat.pow_succ]; omega
theorem canon_decL (n : Nat) : canon (decL n) := ⟨decL_dig n, decL_ne n, (decL_head n).imp id fun ⟨b, l, e, hb⟩ b2 t2 e2 => by rw [e] at e2; cases e2; exact hb⟩
theorem bval_decL (n : Nat) : bval (decL n) = n := bval_decM n
theorem decL_len {n : Nat} (h : n < 10000000000) : (decL n).length ≤ 10 := by
  have key : ∀ k n, n < 10 ^ (k + 1) → (decL n).length ≤ k + 1 := by
    intro k
    induction k with
    | zero =>
      intro n hn
      obtain ⟨b, h1, _⟩ := dig_list n (by omega)
      show (decM n).data.toList.length ≤ _
      rw [decM_lt (by omega), h1]; simp
    | succ k ih =>
      intro n hn
      by_cases h : n < 10
      · obtain ⟨b, h1, _⟩ := dig_list n (by omega)
        show (decM n).data.toList.length ≤ _
        rw [decM_lt (by omega), h1]; simp
      · obtain ⟨c, h1, _⟩ := dig_list (n % 10) (by omega)
        show (decM n).data.toList.length ≤ _
        rw [decM_ge h, ByteArray.data_append, Array.toList_append, h1, List.length_append]
        have := ih (n / 10) (by rw [Nat.pow_succ] at hn; omega)
        simp at this ⊢; omega
  exact key 9 n h
open Classical in
noncomputable def figM (s : ByteArray) : Int := if canon s.data.toList ∧ s.size ≤ 10 then (bval s.data.toList : Int) else -1
theorem size_list (s : ByteArray) : s.size = s.data.toList.length := rfl
theorem figM_dec (n : Nat) (h : n < 10000000000) : figM (decM n) = n := by
  unfold figM
  rw [if_pos ⟨canon_decL n, by rw [size_list]; exact decL_len h⟩]
  exact congrArg Int.ofNat (bval_decL n)
theorem figM_some {s : ByteArray} (h : 0 ≤ figM s) : ∃ n : Nat, figM s = n ∧ s = decM n ∧ n < 10000000000 := by
  unfold figM at h ⊢
  split at h
  · rename_i hc
    rw [if_pos hc]
    refine ⟨_, rfl, ByteArray.ext (Array.toList_inj.1 (canon_dec hc.1)), ?_⟩
    have := bval_lt hc.1.1
    have h10 : s.data.toList.length ≤ 10 := hc.2
    exact Nat.lt_of_lt_of_le this (Nat.pow_le_pow_right (by decide) h10)
  · omega
end Go.Proofs.YtgkmbbiebmamaaaDoor.Am
namespace Go.Proofs.YtgkmbbiebmamaaaDoor.Am
open Go
set_option maxRecDepth 100000
set_option maxHeartbeats 1000000
set_option linter.unusedSimpArgs false
set_option linter.unusedVariables false
theorem byteAt_nat {s : ByteArray} {i : Nat} (h : i < s.data.toList.length) : byteAt s (i : Int) = ((s.data.toList[i].toNat : Nat) : Int) := by
  have h2 : i < s.size := h
  have h3 : i < s.data.size := h
  simp [byteAt, Array.getD, h3, h2]
theorem digB_no {b : UInt8} (h : ¬ (48 ≤ (b.toNat : Int) ∧ (b.toNat : Int) ≤ 57)) : digB b = false := by
  simp only [digB, Bool.and_eq_false_iff, decide_eq_false_iff_not]; omega
theorem digB_yes {b : UInt8} (h : 48 ≤ (b.toNat : Int) ∧ (b.toNat : Int) ≤ 57) : digB b = true := by
  simp only [digB, Bool.and_eq_true, decide_eq_true_eq]; omega
theorem figM_no {s : ByteArray} (h : ¬ (canon s.data.toList ∧ s.size ≤ 10)) : figM s = -1 := by unfold figM; rw [if_neg h]
theorem p_l1Figures : Plain Tryd.prog 32 := ⟨_, Tryd.func32, rfl, by decide⟩
theorem s_l1Figures (s : ByteArray) (hs : s.size ≤ 1099511627776) : Spec Tryd.prog 32 [.t (.str s)] (fun r => r = I (figM s)) := by
  refine Spec.of tysOk mixed Tryd.func32 rfl (by decide) ?_
  obtain ⟨l, hl⟩ : ∃ l, l = s.data.toList := ⟨_, rfl⟩
  have hsz : s.size = l.length := by rw [hl]; rfl
  simp -implicitDefEqProofs only [go_sem, Tryd.f32]
  refine LoopW.slotsM [true, false, false, true, true, false, false, false, false, false, false, false, false, false, false, false, false, false, false, false, false, false, false, false, false, false, false, false, false, false, false, false, false, false, false, false, false, false, false, false, false, false, false, false, false, false] (α := Nat × Nat) (fun x => [(3, I x.2), (4, I x.1)]) (fun x => []) (fun x => s.size - x.1) (fun x => (x.1 ≤ s.size ∧ ∀ j (h : j < l.length), j < x.1 → digB l[j] = true) ∧ x.2 = bval (l.take (min x.1 10))) (0, 0) (by simp -implicitDefEqProofs only [go_sem, LeTs_undef, LeTs_same, LeTs_nil]; try simp [LeTs]) rfl ⟨⟨by simp, fun _ _ h => by cases h⟩, by simp [bval]⟩ ?_
  rintro ⟨i, n⟩ ⟨⟨hi, hj⟩, hn⟩
  simp only at hi hj hn
  have hdt : ∀ k, k ≤ i → ∀ b ∈ l.take k, digB b = true := fun k hk b hb => by
    obtain ⟨j, hjl, e⟩ := List.getElem_of_mem hb
    rw [List.getElem_take] at e
    rw [← e]
    rw [List.length_take] at hjl
    exact hj j (by omega) (by omega)
  have hn10 : n < 10000000000 := by
    have := bval_lt (hdt (min i 10) (by omega))
    rw [← hn] at this
    have h10 : (l.take (min i 10)).length ≤ 10 := by rw [List.length_take]; omega
    exact Nat.lt_of_lt_of_le this (Nat.le_trans (Nat.pow_le_pow_right (n := 10) (by decide) h10) (by decide))
  simp -implicitDefEqProofs only [go_sem]
  refine BrA_i (fun h => ?_) (fun h => ?_) <;> simp -implicitDefEqProofs only [go_sem]
  · have h : i < s.size := by simp at h; omega
    have h' : i < l.length := by omega
    have h0i : (0 : Int) ≤ i := by omega
    have h1i : (i : Int) < s.size := by omega
    have wi : IntKind.i64.wrap ((i : Int) + 1) = ((i + 1 : Nat) : Int) := by rw [wrap64 (by omega) (by omega)]; omega
    have hb : byteAt s (i : Int) = ((l[i].toNat : Nat) : Int) := by subst hl; exact byteAt_nat h'
    have hb2 : l[i].toNat < 256 := l[i].toNat_lt
    have no : ¬ (48 ≤ (l[i].toNat : Int) ∧ (l[i].toNat : Int) ≤ 57) → AV.t (T.int .i64 (-1)) = I (figM s) := fun hh => by
      rw [figM_no (fun hc => by
        have := hc.1.1 l[i] (by rw [← hl]; exact List.getElem_mem h')
        rw [digB_no hh] at this; cases this)]
    simp -implicitDefEqProofs only [go_sem, h0i, h1i, hb]
    refine BrA_i (fun h2 => ?_) (fun h2 => ?_) <;> simp -implicitDefEqProofs only [go_sem, h0i, h1i, hb]
    · exact no (fun hc => by simp at h2; omega)
    refine BrA_i (fun h3 => ?_) (fun h3 => ?_) <;> simp -implicitDefEqProofs only [go_sem, h0i, h1i, hb]
    · exact no (fun hc => by simp at h3; omega)
    have hd : 48 ≤ (l[i].toNat : Int) ∧ (l[i].toNat : Int) ≤ 57 := by simp at h2 h3; omega
    have hdig := digB_yes hd
    have hj' : ∀ j (h : j < l.length), j < i + 1 → digB l[j] = true := fun j h5 h6 => by
      by_cases e : j < i
      · exact hj j h5 e
      · obtain rfl : j = i := by omega
        exact hdig
    refine BrA_i (fun h4 => ?_) (fun h4 => ?_) <;> simp -implicitDefEqProofs only [go_sem, h0i, h1i, hb]
    · have h4 : i < 10 := by simp at h4; omega
      have w1 : IntKind.i64.wrap ((n : Int) * 10) = ((10 * n : Nat) : Int) := by rw [wrap64 (by omega) (by omega)]; omega
      have w2 : IntKind.u8.wrap ((l[i].toNat : Int) - 48) = ((l[i].toNat - 48 : Nat) : Int) := by
        simp [IntKind.wrap, IntKind.signed, IntKind.bits]; omega
      have w3 : IntKind.i64.wrap (((l[i].toNat - 48 : Nat) : Int)) = ((l[i].toNat - 48 : Nat) : Int) := wrap64 (by omega) (by omega)
      have w4 : IntKind.i64.wrap (((10 * n : Nat) : Int) + ((l[i].toNat - 48 : Nat) : Int)) = ((10 * n + (l[i].toNat - 48) : Nat) : Int) := by rw [wrap64 (by omega) (by omega)]; omega
      simp -implicitDefEqProofs only [go_sem, w1, w2, w3, w4, wi]
      refine .to [] (i + 1, 10 * n + (l[i].toNat - 48)) rfl ?_ ?_ (by show s.size - (i + 1) < s.size - i; omega) ⟨⟨by show i + 1 ≤ s.size; omega, hj'⟩, ?_⟩
      · simp -implicitDefEqProofs only [go_sem, LeTs_undef, LeTs_same, LeTs_nil]
      · rfl
      · show 10 * n + (l[i].toNat - 48) = bval (l.take (min (i + 1) 10))
        rw [show min (i + 1) 10 = i + 1 by omega, List.take_add_one, List.getElem?_eq_getElem h', hn, show min i 10 = i by omega]
        exact (bval_snoc _ _).symm
    · have h4 : 10 ≤ i := by simp at h4; omega
      simp -implicitDefEqProofs only [go_sem, wi]
      refine .to [] (i + 1, n) rfl ?_ ?_ (by show s.size - (i + 1) < s.size - i; omega) ⟨⟨by show i + 1 ≤ s.size; omega, hj'⟩, ?_⟩
      · simp -implicitDefEqProofs only [go_sem, LeTs_undef, LeTs_same, LeTs_nil]
      · rfl
      · show n = bval (l.take (min (i + 1) 10))
        rw [hn, show min (i + 1) 10 = 10 by omega, show min i 10 = 10 by omega]
  · have h : i = s.size := by simp at h; omega
    subst h
    refine CallW.one (s_l1In s.size 1 10) p_l1In (by first | (simp -implicitDefEqProofs only [go_sem]; done) | ((conv => lhs; simp -implicitDefEqProofs only [go_sem]); done) | (simp -implicitDefEqProofs only [go_sem]; rfl) | rfl) (by first | trivial | (simp [DeepR, DeepV, DeepVs, DeepC, DeepCs, T.scal]; done)) ?_
    cases hw : withinM s.size 1 10
    · simp -implicitDefEqProofs only [go_sem, hw, Bool.not_false]
      rw [figM_no (fun hc => by
        have h2 : s.data.toList.length ≠ 0 := fun e => hc.1.2.1 (List.length_eq_zero_iff.1 e)
        rw [← hl, ← hsz] at h2
        have : withinM s.size 1 10 = true := by
          unfold withinM; simp only [Bool.and_eq_true, decide_eq_true_eq]; have := hc.2; omega
        rw [hw] at this; cases this)]
    have hw2 : 1 ≤ s.size ∧ s.size ≤ 10 := by
      unfold withinM at hw; simp only [Bool.and_eq_true, decide_eq_true_eq] at hw; omega
    simp -implicitDefEqProofs only [go_sem, hw, Bool.not_true]
    have hn' : n = bval l := by rw [hn, List.take_of_length_le (by omega)]
    have hall : ∀ b ∈ l, digB b = true := fun b hb => by
      obtain ⟨j, hjl, e⟩ := List.getElem_of_mem hb
      rw [← e]; exact hj j hjl (by omega)
    have hne : l ≠ [] := fun e => by rw [e, List.length_nil] at hsz; omega
    refine BrA_i (fun h2 => ?_) (fun h2 => ?_) <;> simp -implicitDefEqProofs only [go_sem]
    · have h2 : 1 < s.size := by simp at h2; omega
      have h1i : (0 : Int) < s.size := by omega
      have h0 : 0 < l.length := by omega
      have hb : byteAt s 0 = ((l[0].toNat : Nat) : Int) := by subst hl; exact byteAt_nat (i := 0) h0
      simp -implicitDefEqProofs only [go_sem, h1i, hb, Int.le_refl]
      refine BrA_i (fun h3 => ?_) (fun h3 => ?_) <;> simp -implicitDefEqProofs only [go_sem]
      · rw [figM_no (fun hc => by
          rcases hc.1.2.2 with h5 | h5
          · rw [← hl] at h5; omega
          · have h6 := of_decide_eq_true h3
            refine h5 l[0] (l.drop 1) ?_ (by omega)
            rw [← hl]; cases l with
            | nil => exact absurd rfl hne
            | cons a t => rfl)]
      · have hc : canon s.data.toList ∧ s.size ≤ 10 := by
          rw [← hl]
          refine ⟨⟨hall, hne, .inr fun b t e e2 => ?_⟩, hw2.2⟩
          subst e
          have h6 := of_decide_eq_false h3
          simp only [List.getElem_cons_zero] at h6
          omega
        unfold figM
        rw [if_pos hc, ← hl, hn']
    · have h2 : s.size = 1 := by simp at h2; omega
      have hc : canon s.data.toList ∧ s.size ≤ 10 := by
        rw [← hl]
        exact ⟨⟨hall, hne, .inl (by omega)⟩, hw2.2⟩
      unfold figM
      rw [if_pos hc, ← hl, hn']
end Go.Proofs.YtgkmbbiebmamaaaDoor.Am
namespace Go.Proofs.YtgkmbbiebmamaaaDoor.Am
open Go
set_option maxRecDepth 100000
set_option maxHeartbeats 1000000
set_option linter.unusedSimpArgs false
set_option linter.unusedVariables false
theorem withinM_b {n a b : Int} (h : withinM n a b = true) : a ≤ n ∧ n ≤ b := by
  unfold withinM at h
  simp only [Bool.and_eq_true, decide_eq_true_eq] at h
  omega
noncomputable def intM (s : ByteArray) : Int × Bool :=
  if 1 < s.size ∧ byteAt s 0 = 45 then (if withinM (figM (s.extract 1 s.size)) 1 1000000000 = true then (-figM (s.extract 1 s.size), true) else (0, false))
  else (if withinM (figM s) 0 1000000000 = true then (figM s, true) else (0, false))
theorem p_sIntGet : Plain Tryd.prog 40 := ⟨_, Tryd.func40, rfl, by decide⟩
theorem s_sIntGet (s : ByteArray) (hs : s.size ≤ 1099511627776) : Spec Tryd.prog 40 [.t (.str s)] (fun r => r = .tup [I (intM s).1, Bo (intM s).2]) := by
  refine Spec.of tysOk mixed Tryd.func40 rfl (by decide) ?_
  simp -implicitDefEqProofs only [go_sem, Tryd.f40]
  have plain : ¬ (1 < s.size ∧ byteAt s 0 = 45) → intM s = (if withinM (figM s) 0 1000000000 = true then (figM s, true) else (0, false)) := fun h => by unfold intM; rw [if_neg h]
  refine BrA_i (fun h1 => ?_) (fun h1 => ?_) <;> simp -implicitDefEqProofs only [go_sem]
  · have h1 : 1 < s.size := by have := of_decide_eq_true h1; omega
    have p0 : (0 : Int) < s.size := by omega
    have p1 : (1 : Int) ≤ s.size := by omega
    simp -implicitDefEqProofs only [go_sem, p0, Int.le_refl]
    refine BrA_i (fun h2 => ?_) (fun h2 => ?_) <;> simp -implicitDefEqProofs only [go_sem]
    · have h2 := of_decide_eq_true h2
      have e : intM s = (if withinM (figM (s.extract 1 s.size)) 1 1000000000 = true then (-figM (s.extract 1 s.size), true) else (0, false)) := by unfold intM; rw [if_pos ⟨h1, h2⟩]
      simp -implicitDefEqProofs only [go_sem, p1, Int.le_refl]
      refine CallW.one (s_l1Figures (s.extract 1 s.size) (by rw [ByteArray.size_extract]; omega)) p_l1Figures (by first | (simp -implicitDefEqProofs only [go_sem]; done) | ((conv => lhs; simp -implicitDefEqProofs only [go_sem]); done) | (simp -implicitDefEqProofs only [go_sem]; rfl) | rfl) (by first | trivial | (simp [DeepR, DeepV, DeepVs, DeepC, DeepCs, T.scal]; done)) ?_
      simp -implicitDefEqProofs only [go_sem]
      refine CallW.one (s_l1In (figM (s.extract 1 s.size)) 1 1000000000) p_l1In (by first | (simp -implicitDefEqProofs only [go_sem]; done) | ((conv => lhs; simp -implicitDefEqProofs only [go_sem]); done) | (simp -implicitDefEqProofs only [go_sem]; rfl) | rfl) (by first | trivial | (simp [DeepR, DeepV, DeepVs, DeepC, DeepCs, T.scal]; done)) ?_
      rw [e]
      cases hw : withinM (figM (s.extract 1 s.size)) 1 1000000000
      · simp -implicitDefEqProofs only [go_sem, Bool.not_false, Bool.false_eq_true, if_false]
      · have hb := withinM_b hw
        have wn : IntKind.i64.wrap (0 - figM (s.extract 1 s.size)) = -figM (s.extract 1 s.size) := by rw [wrap64 (by omega) (by omega)]; omega
        simp -implicitDefEqProofs only [go_sem, Bool.not_true, if_true, wn]
    · have h2 := of_decide_eq_false h2
      rw [plain (fun hh => h2 hh.2)]
      refine CallW.one (s_l1Figures s hs) p_l1Figures (by first | (simp -implicitDefEqProofs only [go_sem]; done) | ((conv => lhs; simp -implicitDefEqProofs only [go_sem]); done) | (simp -implicitDefEqProofs only [go_sem]; rfl) | rfl) (by first | trivial | (simp [DeepR, DeepV, DeepVs, DeepC, DeepCs, T.scal]; done)) ?_
      simp -implicitDefEqProofs only [go_sem]
      refine CallW.one (s_l1In (figM s) 0 1000000000) p_l1In (by first | (simp -implicitDefEqProofs only [go_sem]; done) | ((conv => lhs; simp -implicitDefEqProofs only [go_sem]); done) | (simp -implicitDefEqProofs only [go_sem]; rfl) | rfl) (by first | trivial | (simp [DeepR, DeepV, DeepVs, DeepC, DeepCs, T.scal]; done)) ?_
      cases hw : withinM (figM s) 0 1000000000
      · simp -implicitDefEqProofs only [go_sem, Bool.not_false, Bool.false_eq_true, if_false]
      · simp -implicitDefEqProofs only [go_sem, Bool.not_true, if_true]
  · have h1 : ¬ 1 < s.size := by have := of_decide_eq_false h1; omega
    rw [plain (fun hh => h1 hh.1)]
    refine CallW.one (s_l1Figures s hs) p_l1Figures (by first | (simp -implicitDefEqProofs only [go_sem]; done) | ((conv => lhs; simp -implicitDefEqProofs only [go_sem]); done) | (simp -implicitDefEqProofs only [go_sem]; rfl) | rfl) (by first | trivial | (simp [DeepR, DeepV, DeepVs, DeepC, DeepCs, T.scal]; done)) ?_
    simp -implicitDefEqProofs only [go_sem]
    refine CallW.one (s_l1In (figM s) 0 1000000000) p_l1In (by first | (simp -implicitDefEqProofs only [go_sem]; done) | ((conv => lhs; simp -implicitDefEqProofs only [go_sem]); done) | (simp -implicitDefEqProofs only [go_sem]; rfl) | rfl) (by first | trivial | (simp [DeepR, DeepV, DeepVs, DeepC, DeepCs, T.scal]; done)) ?_
    cases hw : withinM (figM s) 0 1000000000
    · simp -implicitDefEqProofs only [go_sem, Bool.not_false, Bool.false_eq_true, if_false]
    · simp -implicitDefEqProofs only [go_sem, Bool.not_true, if_true]
end Go.Proofs.YtgkmbbiebmamaaaDoor.Am
namespace Go.Proofs.YtgkmbbiebmamaaaDoor.Am
open Go Go.Proofs Go.Shelf Go.RowKit Go.Sort
set_option maxRecDepth 100000
set_option maxHeartbeats 1000000
set_option linter.unusedSimpArgs false
set_option linter.unusedVariables false
def layItoa_ren : Go.Shelf.Ren := ⟨fun | 171 => 54 | 243 => 68 | 246 => 78 | 283 => 87 | 284 => 88 | 285 => 89 | 286 => 90 | 129 => 97 | 317 => 96 | 318 => 98 | 319 => 99 | 320 => 100 | 337 => 101 | 338 => 102 | n => n, fun | 3 => 3 | 9 => 9 | 2 => 2 | 4 => 4 | 171 => 101 | 0 => 0 | 53 => 94 | 37 => 32 | 5 => 5 | 173 => 104 | 212 => 115 | 51 => 106 | 20 => 20 | 213 => 116 | 46 => 93 | 232 => 119 | 233 => 120 | n => n, fun | 17 => 3 | 18 => 4 | 19 => 5 | n => n⟩
theorem layItoa : LaysM.n171 Tryd.prog layItoa_ren := {
  mixed := by kernel_rfl
  f129 := Tryd.func97.trans (congrArg some (by kernel_rfl))
  f171 := Tryd.func54.trans (congrArg some (by kernel_rfl))
  f243 := Tryd.func68.trans (congrArg some (by kernel_rfl))
  f246 := Tryd.func78.trans (congrArg some (by kernel_rfl))
  f283 := Tryd.func87.trans (congrArg some (by kernel_rfl))
  f284 := Tryd.func88.trans (congrArg some (by kernel_rfl))
  f285 := Tryd.func89.trans (congrArg some (by kernel_rfl))
  f286 := Tryd.func90.trans (congrArg some (by kernel_rfl))
  f317 := Tryd.func96.trans (congrArg some (by kernel_rfl))
  f318 := Tryd.func98.trans (congrArg some (by kernel_rfl))
  f319 := Tryd.func99.trans (congrArg some (by kernel_rfl))
  f320 := Tryd.func100.trans (congrArg some (by kernel_rfl))
  f337 := Tryd.func101.trans (congrArg some (by kernel_rfl))
  f338 := Tryd.func102.trans (congrArg some (by kernel_rfl))
  t0 := Tryd.underlying0
  a0 := Tryd.isAgg0
  z0 := Tryd.sizeOf0
  v0 := Tryd.zeroValue0
  t2 := Tryd.underlying2
  a2 := Tryd.isAgg2
  z2 := Tryd.sizeOf2
  v2 := Tryd.zeroValue2
  t3 := Tryd.underlying3
  a3 := Tryd.isAgg3
  z3 := Tryd.sizeOf3
  v3 := Tryd.zeroValue3
  t4 := Tryd.underlying4
  a4 := Tryd.isAgg4
  z4 := Tryd.sizeOf4
  v4 := Tryd.zeroValue4
  t5 := Tryd.underlying5
  a5 := Tryd.isAgg5
  z5 := Tryd.sizeOf5
  v5 := Tryd.zeroValue5
  t9 := Tryd.underlying9
  a9 := Tryd.isAgg9
  z9 := Tryd.sizeOf9
  v9 := Tryd.zeroValue9
  t20 := Tryd.underlying20
  a20 := Tryd.isAgg20
  z20 := Tryd.sizeOf20
  v20 := Tryd.zeroValue20
  t37 := Tryd.underlying32
  a37 := Tryd.isAgg32
  z37 := Tryd.sizeOf32
  v37 := Tryd.zeroValue32
  t46 := Tryd.underlying93
  a46 := Tryd.isAgg93
  z46 := Tryd.sizeOf93
  v46 := Tryd.zeroValue93
  t51 := Tryd.underlying106
  a51 := Tryd.isAgg106
  z51 := Tryd.sizeOf106
  v51 := Tryd.zeroValue106
  t53 := Tryd.underlying94
  a53 := Tryd.isAgg94
  z53 := Tryd.sizeOf94
  v53 := Tryd.zeroValue94
  t171 := Tryd.underlying101
  a171 := Tryd.isAgg101
  z171 := Tryd.sizeOf101
  v171 := Tryd.zeroValue101
  t173 := Tryd.underlying104
  a173 := Tryd.isAgg104
  z173 := Tryd.sizeOf104
  v173 := Tryd.zeroValue104
  t212 := Tryd.underlying115
  a212 := Tryd.isAgg115
  z212 := Tryd.sizeOf115
  v212 := Tryd.zeroValue115
  t213 := Tryd.underlying116
  a213 := Tryd.isAgg116
  z213 := Tryd.sizeOf116
  t232 := Tryd.underlying119
  a232 := Tryd.isAgg119
  z232 := Tryd.sizeOf119
  v232 := Tryd.zeroValue119
  t233 := Tryd.underlying120
  a233 := Tryd.isAgg120
  z233 := Tryd.sizeOf120
  v233 := Tryd.zeroValue120
  g17 := by kernel_rfl
  g18 := by kernel_rfl
  g19 := by kernel_rfl
  i0 := by kernel_rfl
  i2 := by kernel_rfl
  i3 := by kernel_rfl
  i4 := by kernel_rfl
  i5 := by kernel_rfl
  i9 := by kernel_rfl
  i20 := by kernel_rfl
  i37 := by kernel_rfl
  i46 := by kernel_rfl
  i51 := by kernel_rfl
  i53 := by kernel_rfl
  i171 := by kernel_rfl
  i173 := by kernel_rfl
  i212 := by kernel_rfl
  i232 := by kernel_rfl
  i233 := by kernel_rfl
  m17 := by kernel_rfl
  m18 := by kernel_rfl
  m19 := by kernel_rfl
}
theorem WStep.grow' (w : World) (k : Nat) (os : Array Obj) : WStep w (grow (w.drewN k) os) none := by
  refine ⟨rfl, rfl, rfl, ?_, ?_, fun b hb _ => ?_⟩
  · exact DrLe.of_le (by simp only [grow, World.drewN]; omega)
  · simp [grow, World.drewN]
  · simp only [grow, World.drewN]
    rw [Array.getElem?_append_left hb]
theorem Spec.of_grow {P : Program} {f : FuncId} {args : List AV} {r : T} {v : Value} (hr : ∀ w D, Rd w D r v) (h : ∀ (w : World) (D : Dm) (vs : List Value), DmOk w D → AVr.AVrs (inCx w D) args vs → Calls P f vs.toArray w fun e w' => e = .returned v ∧ ∃ k os, w' = grow (w.drewN k) os) : Spec P f args (fun x => x = .t r) :=
  fun w D vs hD hv => (h w D vs hD hv).mono fun e w' ⟨he, k, os, hw⟩ => by
    subst hw
    exact ⟨v, .t r, he, rfl, WStep.grow' w k os, fun _ => none, (fun b p hb => by cases hb), hr _ _⟩
def itoaB (n : Int) : ByteArray := ⟨(Lib.itoa n).toArray⟩
theorem s_Itoa (n : Int) (h0 : -9223372036854775808 ≤ n) (h1 : n ≤ 9223372036854775807) : Spec Tryd.prog 54 [I n] (fun r => r = .t (.str (itoaB n))) := by
  refine Spec.of_grow (fun w D => .str _) fun w D vs hD hv => ?_
  match vs, hv with
  | [v], ⟨hv, _⟩ =>
    have hv' : v = .int .i64 n := by cases hv; rfl
    subst hv'
    exact Any.strconv_Itoa layItoa n h0 h1 w hD.gl.pow
theorem dec_list (n : Nat) : (decM n).data.toList = Lib.decDigits n := by
  induction n using Nat.strongRecOn with
  | _ n ih =>
    by_cases h : n < 10
    · obtain ⟨b, h1, h2⟩ := dig_list n h
      rw [decM_lt h, h1, Lib.decDigits, dif_pos h]
      congr 1
      apply UInt8.toNat_inj.1
      rw [h2]; simp [UInt8.toNat_ofNat']; omega
    · obtain ⟨b, h1, h2⟩ := dig_list (n % 10) (by omega)
      rw [decM_ge h, ByteArray.data_append, Array.toList_append, ih (n / 10) (by omega), h1]
      conv => rhs; rw [Lib.decDigits, dif_neg h]
      congr 2
      apply UInt8.toNat_inj.1
      rw [h2]; simp [UInt8.toNat_ofNat']; omega
theorem itoa_dec (n : Nat) : itoaB n = decM n := by
  have h : (itoaB n).data.toList = (decM n).data.toList := by
    rw [dec_list]
    unfold itoaB Lib.itoa
    rw [if_neg (by omega)]
    simp
  exact ByteArray.ext (Array.toList_inj.1 h)
end Go.Proofs.YtgkmbbiebmamaaaDoor.Am
namespace Go.Proofs.YtgkmbbiebmamaaaDoor.Am
open Go Go.Proofs Go.Shelf Go.RowKit Go.Sort
set_option maxRecDepth 100000
set_option maxHeartbeats 1000000
set_option linter.unusedSimpArgs false
set_option linter.unusedVariables false
def layAtoi_ren : Go.Shelf.Ren := ⟨fun | 172 => 34 | 244 => 57 | 245 => 58 | 247 => 70 | 279 => 71 | 280 => 72 | 281 => 73 | 282 => 74 | 287 => 83 | 316 => 84 | 171 => 54 | 205 => 85 | 321 => 93 | 322 => 94 | 243 => 68 | 246 => 78 | 283 => 87 | 284 => 88 | 285 => 89 | 286 => 90 | 129 => 97 | 317 => 96 | 318 => 98 | 319 => 99 | 320 => 100 | 337 => 101 | 338 => 102 | n => n, fun | 9 => 9 | 3 => 3 | 75 => 55 | 76 => 56 | 4 => 4 | 5 => 5 | 167 => 82 | 37 => 32 | 0 => 0 | 85 => 83 | 2 => 2 | 168 => 85 | 53 => 94 | 175 => 95 | 46 => 93 | 210 => 99 | 127 => 110 | 145 => 113 | 143 => 111 | 21 => 21 | 171 => 101 | 173 => 104 | 212 => 115 | 51 => 106 | 20 => 20 | 213 => 116 | 232 => 119 | 233 => 120 | 80 => 121 | n => n, fun | 15 => 1 | 16 => 2 | 17 => 3 | 18 => 4 | 19 => 5 | n => n⟩
theorem layAtoi : LaysC.n172 Tryd.prog layAtoi_ren := {
  mixed := by kernel_rfl
  f129 := Tryd.func97.trans (congrArg some (by kernel_rfl))
  f171 := Tryd.func54.trans (congrArg some (by kernel_rfl))
  f172 := Tryd.func34.trans (congrArg some (by kernel_rfl))
  f205 := Tryd.func85.trans (congrArg some (by kernel_rfl))
  f243 := Tryd.func68.trans (congrArg some (by kernel_rfl))
  f244 := Tryd.func57.trans (congrArg some (by kernel_rfl))
  f245 := Tryd.func58.trans (congrArg some (by kernel_rfl))
  f246 := Tryd.func78.trans (congrArg some (by kernel_rfl))
  f247 := Tryd.func70.trans (congrArg some (by kernel_rfl))
  f279 := Tryd.func71.trans (congrArg some (by kernel_rfl))
  f280 := Tryd.func72.trans (congrArg some (by kernel_rfl))
  f281 := Tryd.func73.trans (congrArg some (by kernel_rfl))
  f282 := Tryd.func74.trans (congrArg some (by kernel_rfl))
  f283 := Tryd.func87.trans (congrArg some (by kernel_rfl))
  f284 := Tryd.func88.trans (congrArg some (by kernel_rfl))
  f285 := Tryd.func89.trans (congrArg some (by kernel_rfl))
  f286 := Tryd.func90.trans (congrArg some (by kernel_rfl))
  f287 := Tryd.func83.trans (congrArg some (by kernel_rfl))
  f316 := Tryd.func84.trans (congrArg some (by kernel_rfl))
  f317 := Tryd.func96.trans (congrArg some (by kernel_rfl))
  f318 := Tryd.func98.trans (congrArg some (by kernel_rfl))
  f319 := Tryd.func99.trans (congrArg some (by kernel_rfl))
  f320 := Tryd.func100.trans (congrArg some (by kernel_rfl))
  f321 := Tryd.func93.trans (congrArg some (by kernel_rfl))
  f322 := Tryd.func94.trans (congrArg some (by kernel_rfl))
  f337 := Tryd.func101.trans (congrArg some (by kernel_rfl))
  f338 := Tryd.func102.trans (congrArg some (by kernel_rfl))
  t0 := Tryd.underlying0
  a0 := Tryd.isAgg0
  z0 := Tryd.sizeOf0
  v0 := Tryd.zeroValue0
  t2 := Tryd.underlying2
  a2 := Tryd.isAgg2
  z2 := Tryd.sizeOf2
  v2 := Tryd.zeroValue2
  t3 := Tryd.underlying3
  a3 := Tryd.isAgg3
  z3 := Tryd.sizeOf3
  v3 := Tryd.zeroValue3
  t4 := Tryd.underlying4
  a4 := Tryd.isAgg4
  z4 := Tryd.sizeOf4
  v4 := Tryd.zeroValue4
  t5 := Tryd.underlying5
  a5 := Tryd.isAgg5
  z5 := Tryd.sizeOf5
  v5 := Tryd.zeroValue5
  t9 := Tryd.underlying9
  a9 := Tryd.isAgg9
  z9 := Tryd.sizeOf9
  v9 := Tryd.zeroValue9
  t20 := Tryd.underlying20
  a20 := Tryd.isAgg20
  z20 := Tryd.sizeOf20
  v20 := Tryd.zeroValue20
  t21 := Tryd.underlying21
  a21 := Tryd.isAgg21
  z21 := Tryd.sizeOf21
  v21 := Tryd.zeroValue21
  t37 := Tryd.underlying32
  a37 := Tryd.isAgg32
  z37 := Tryd.sizeOf32
  v37 := Tryd.zeroValue32
  t46 := Tryd.underlying93
  a46 := Tryd.isAgg93
  z46 := Tryd.sizeOf93
  v46 := Tryd.zeroValue93
  t51 := Tryd.underlying106
  a51 := Tryd.isAgg106
  z51 := Tryd.sizeOf106
  v51 := Tryd.zeroValue106
  t53 := Tryd.underlying94
  a53 := Tryd.isAgg94
  z53 := Tryd.sizeOf94
  v53 := Tryd.zeroValue94
  t75 := Tryd.underlying55
  a75 := Tryd.isAgg55
  z75 := Tryd.sizeOf55
  v75 := Tryd.zeroValue55
  t76 := Tryd.underlying56
  a76 := Tryd.isAgg56
  z76 := Tryd.sizeOf56
  v76 := Tryd.zeroValue56
  t85 := Tryd.underlying83
  a85 := Tryd.isAgg83
  z85 := Tryd.sizeOf83
  v85 := Tryd.zeroValue83
  t127 := Tryd.underlying110
  a127 := Tryd.isAgg110
  z127 := Tryd.sizeOf110
  v127 := Tryd.zeroValue110
  t143 := Tryd.underlying111
  a143 := Tryd.isAgg111
  z143 := Tryd.sizeOf111
  v143 := Tryd.zeroValue111
  t145 := Tryd.underlying113
  a145 := Tryd.isAgg113
  z145 := Tryd.sizeOf113
  v145 := Tryd.zeroValue113
  t167 := Tryd.underlying82
  a167 := Tryd.isAgg82
  z167 := Tryd.sizeOf82
  v167 := Tryd.zeroValue82
  t168 := Tryd.underlying85
  a168 := Tryd.isAgg85
  z168 := Tryd.sizeOf85
  v168 := Tryd.zeroValue85
  t171 := Tryd.underlying101
  a171 := Tryd.isAgg101
  z171 := Tryd.sizeOf101
  v171 := Tryd.zeroValue101
  t173 := Tryd.underlying104
  a173 := Tryd.isAgg104
  z173 := Tryd.sizeOf104
  v173 := Tryd.zeroValue104
  t175 := Tryd.underlying95
  a175 := Tryd.isAgg95
  z175 := Tryd.sizeOf95
  v175 := Tryd.zeroValue95
  t210 := Tryd.underlying99
  a210 := Tryd.isAgg99
  z210 := Tryd.sizeOf99
  v210 := Tryd.zeroValue99
  t212 := Tryd.underlying115
  a212 := Tryd.isAgg115
  z212 := Tryd.sizeOf115
  v212 := Tryd.zeroValue115
  t213 := Tryd.underlying116
  a213 := Tryd.isAgg116
  z213 := Tryd.sizeOf116
  t232 := Tryd.underlying119
  a232 := Tryd.isAgg119
  z232 := Tryd.sizeOf119
  v232 := Tryd.zeroValue119
  t233 := Tryd.underlying120
  a233 := Tryd.isAgg120
  z233 := Tryd.sizeOf120
  v233 := Tryd.zeroValue120
  g15 := by kernel_rfl
  g16 := by kernel_rfl
  g17 := by kernel_rfl
  g18 := by kernel_rfl
  g19 := by kernel_rfl
  t80 := Tryd.underlying121
  a80 := Tryd.isAgg121
  z80 := Tryd.sizeOf121
  v80 := Tryd.zeroValue121
  i0 := by kernel_rfl
  i2 := by kernel_rfl
  i3 := by kernel_rfl
  i4 := by kernel_rfl
  i5 := by kernel_rfl
  i9 := by kernel_rfl
  i20 := by kernel_rfl
  i21 := by kernel_rfl
  i37 := by kernel_rfl
  i46 := by kernel_rfl
  i51 := by kernel_rfl
  i53 := by kernel_rfl
  i75 := by kernel_rfl
  i76 := by kernel_rfl
  i80 := by kernel_rfl
  i85 := by kernel_rfl
  i127 := by kernel_rfl
  i143 := by kernel_rfl
  i145 := by kernel_rfl
  i167 := by kernel_rfl
  i168 := by kernel_rfl
  i171 := by kernel_rfl
  i173 := by kernel_rfl
  i175 := by kernel_rfl
  i210 := by kernel_rfl
  i212 := by kernel_rfl
  i232 := by kernel_rfl
  i233 := by kernel_rfl
  m15 := by kernel_rfl
  m16 := by kernel_rfl
  m17 := by kernel_rfl
  m18 := by kernel_rfl
  m19 := by kernel_rfl
  c0 := Eq.refl (some false)
  c2 := Eq.refl (some true)
  c3 := Eq.refl (some true)
  c4 := Eq.refl (some true)
  c5 := Eq.refl (some true)
  c9 := Eq.refl (some true)
  c20 := Eq.refl (some true)
  c21 := Eq.refl (some true)
  c37 := Eq.refl (some false)
  c46 := Eq.refl (some true)
  c51 := Eq.refl (some true)
  c53 := Eq.refl (some true)
  c75 := Eq.refl (some true)
  c76 := Eq.refl (some false)
  c80 := Eq.refl (some false)
  c85 := Eq.refl (some false)
  c127 := Eq.refl (some true)
  c143 := Eq.refl (some true)
  c145 := Eq.refl (some true)
  c167 := Eq.refl (some true)
  c168 := Eq.refl (some true)
  c171 := Eq.refl (some true)
  c173 := Eq.refl (some false)
  c175 := Eq.refl (some false)
  c210 := Eq.refl (some true)
  c212 := Eq.refl (some true)
  c213 := Eq.refl (some true)
  c232 := Eq.refl (some true)
  c233 := Eq.refl (some true)
}
theorem WStep.of_below {w w' : World} (h : Below w.heap.size w w') : WStep w w' none := ⟨h.os, h.tape, h.output, trivial, h.size, fun b hb _ => h.block b hb⟩
theorem fold_ge : ∀ (l : List UInt8) (a : Nat), a ≤ l.foldl (fun a b => 10 * a + (b.toNat - 48)) a
  | [], a => Nat.le_refl _
  | b :: l, a => by
    rw [List.foldl_cons]
    exact Nat.le_trans (by omega) (fold_ge l _)
theorem parse_dec : ∀ (l : List UInt8) (a : Nat), (∀ b ∈ l, digB b = true) → l.foldl (fun a b => 10 * a + (b.toNat - 48)) a < 1000000000000000000 → Lib.parseUint10 a l = .ok (l.foldl (fun a b => 10 * a + (b.toNat - 48)) a)
  | [], a, _, _ => rfl
  | c :: l, a, hd, hb => by
    have hc := hd c (by simp)
    simp only [digB, Bool.and_eq_true, decide_eq_true_eq] at hc
    rw [List.foldl_cons] at hb ⊢
    have h1 := fold_ge l (10 * a + (c.toNat - 48))
    unfold Lib.parseUint10
    rw [if_pos hc, if_neg (by omega), if_neg (by omega), show a * 10 + (c.toNat - 48) = 10 * a + (c.toNat - 48) by omega]
    exact parse_dec l _ (fun b hb => hd b (by simp [hb])) hb
theorem atoi_dec (k : Nat) (hk : k < 100000000000000000) : Lib.atoiAll (decL k) = .ok (k : Int) := by
  have hne := decL_ne k
  have hd := decL_dig k
  have hv : (decL k).foldl (fun a b => 10 * a + (b.toNat - 48)) 0 = k := bval_decL k
  have hp := parse_dec (decL k) 0 hd (by rw [hv]; omega)
  rw [hv] at hp
  cases hl : decL k with
  | nil => exact absurd hl hne
  | cons c r =>
    rw [hl] at hp hd
    have hc := hd c (by simp)
    simp only [digB, Bool.and_eq_true, decide_eq_true_eq] at hc
    unfold Lib.atoiAll
    have e1 : (if c.toNat = 43 ∨ c.toNat = 45 then r else c :: r) = c :: r := if_neg (by omega)
    simp only [e1]
    have e2 : Lib.parseMag (c :: r) = .ok k := by unfold Lib.parseMag; rw [if_neg (by simp)]; exact hp
    rw [e2]
    have e3 : ¬ c.toNat = 45 := by omega
    have e4 : ¬ 9223372036854775808 ≤ k := by omega
    simp [e3, e4]
end Go.Proofs.YtgkmbbiebmamaaaDoor.Am
namespace Go.Proofs.YtgkmbbiebmamaaaDoor.Am
open Go Go.Proofs Go.Shelf Go.RowKit Go.Sort
set_option maxRecDepth 100000
set_option maxHeartbeats 4000000
set_option linter.unusedSimpArgs false
set_option linter.unusedVariables false
theorem Spec.at {P : Program} {f : FuncId} {args : List AV} {r : T} (h : Spec P f args (fun x => x = .t r)) {w : World} (hG : Glob w) {vs : List Value} (hv : AVr.AVrs (inCx w fun _ => False) args vs) :
    Calls P f vs.toArray w fun e w' => ∃ v, e = .returned v ∧ (∃ D, Rd w' D r v) ∧ WStep w w' none :=
  (h w _ vs ⟨fun _ h => h.elim, hG⟩ hv).mono fun e w' ⟨v, r', he, hr, hs, col, _, hres⟩ => by
    subst hr
    exact ⟨v, he, ⟨_, hres⟩, hs⟩
theorem Glob.step {w w' : World} (h : Glob w) (hs : WStep w w' none) : Glob w' := h.mono fun b hb => hs.block b (h.lt hb) (by simp)
theorem w_Itoa (n : Int) (h0 : -9223372036854775808 ≤ n) (h1 : n ≤ 9223372036854775807) (w : World) (hG : Glob w) : Calls Tryd.prog 54 #[.int .i64 n] w fun e w' => e = .returned (.string (itoaB n)) ∧ WStep w w' none :=
  (Spec.at (s_Itoa n h0 h1) hG (vs := [.int .i64 n]) ⟨.int _ _, trivial⟩).mono fun e w' ⟨v, he, ⟨D, hr⟩, hs⟩ => by
    cases hr; exact ⟨he, hs⟩
theorem w_within (n a b : Int) (w : World) (hG : Glob w) : Calls Tryd.prog 53 #[.int .i64 n, .int .i64 a, .int .i64 b] w fun e w' => e = .returned (.bool (withinM n a b)) ∧ WStep w w' none :=
  (Spec.at (s_within n a b) hG (vs := [.int .i64 n, .int .i64 a, .int .i64 b]) ⟨.int _ _, .int _ _, .int _ _, trivial⟩).mono fun e w' ⟨v, he, ⟨D, hr⟩, hs⟩ => by
    cases hr; exact ⟨he, hs⟩
theorem w_Atoi_ok (s : ByteArray) (hs : s.size ≤ 281474976710656) (n : Int) (h : Lib.atoiAll s.data.toList = .ok n) (w : World) : Calls Tryd.prog 34 #[.string s] w fun e w' => e = .returned (.tuple #[.int .i64 n, .nilIface]) ∧ WStep w w' none :=
  (Any.strconv_Atoi_ok layAtoi s (by omega) n h w).mono fun e w' ⟨he, hw⟩ => ⟨he, by
    rcases hw with rfl | ⟨t, rfl⟩
    · exact WStep.same _
    · exact WStep.of_below (Lib.bytesWorld_below w _ _)⟩
theorem w_Atoi_err (s : ByteArray) (hs : s.size ≤ 281474976710656) (h : ∀ n, Lib.atoiAll s.data.toList ≠ .ok n) (w : World) (hG : Glob w) : Calls Tryd.prog 34 #[.string s] w fun e w' => ∃ (n : Int) (t : TypeId) (p : Value), e = .returned (.tuple #[.int .i64 n, .iface t p]) ∧ WStep w w' none := by
  rcases h2 : Lib.atoiAll s.data.toList with n | _ | _
  · exact absurd h2 (h n)
  · obtain ⟨tp, p, hp⟩ := hG.syn
    refine (Any.strconv_Atoi_syntax_var layAtoi s hs h2 tp p w hp).mono fun e w' => ?_
    rintro ⟨N, rfl, _, _, hb⟩
    exact ⟨_, _, _, rfl, WStep.of_below hb⟩
  · obtain ⟨tp, p, hp⟩ := hG.rng
    refine (Any.strconv_Atoi_range_var layAtoi s hs h2 tp p w hp).mono fun e w' => ?_
    rintro ⟨N, rfl, _, _, hb⟩
    exact ⟨_, _, _, rfl, WStep.of_below hb⟩
theorem w_IntGet_err (s : ByteArray) (hs : s.size ≤ 281474976710656) (h : ∀ n, Lib.atoiAll s.data.toList ≠ .ok n) (w : World) (hG : Glob w) : Calls Tryd.prog 27 #[.string s] w fun e w' => e = .returned (.tuple #[.int .i64 0, .bool false]) ∧ WStep w w' none := by
  have mixed := mixed
  go_enter Tryd.func27, Tryd.ntmps27
  go_wp2_with (refine (w_Atoi_err s hs h _ hG).mono ?_; rintro e W1 ⟨n, t, p, rfl, hW⟩)
  go_ret2
  exact ⟨rfl, hW⟩
theorem w_IntGet_far (s : ByteArray) (hs : s.size ≤ 281474976710656) (v : Int) (h : Lib.atoiAll s.data.toList = .ok v) (hc : withinM v (-1000000000) 1000000000 = false) (w : World) (hG : Glob w) : Calls Tryd.prog 27 #[.string s] w fun e w' => e = .returned (.tuple #[.int .i64 0, .bool false]) ∧ WStep w w' none := by
  have mixed := mixed
  obtain ⟨vb0, vb1⟩ := Lib.atoiAll_bounds h
  go_enter Tryd.func27, Tryd.ntmps27
  go_wp2_with (first
    | (refine (w_Atoi_ok s hs v h _).mono ?_; rintro e W1 ⟨rfl, hW⟩)
    | (refine (w_within v _ _ _ (hG.step hW)).mono ?_; rw [hc]; rintro e W2 ⟨rfl, hW2⟩)
    | (refine (w_Itoa v vb0 vb1 _ ((hG.step hW).step hW2)).mono ?_; rintro e W3 ⟨rfl, hW3⟩))
  all_goals first
    | (go_ret2; exact ⟨rfl, hW.trans hW2⟩)
    | (exfalso; rename_i hq; apply he; have h2 : (itoaB v).data.toList = s.data.toList := (by rw [← ByteArray.toList_eq, ← ByteArray.toList_eq]; simpa using hq); exact ByteArray.ext (Array.toList_inj.1 h2))
    | (exfalso; rename_i hq; simp [he] at hq)
theorem w_IntGet_yes (s : ByteArray) (hs : s.size ≤ 281474976710656) (v : Int) (h : Lib.atoiAll s.data.toList = .ok v) (hc : withinM v (-1000000000) 1000000000 = true) (he : itoaB v = s) (w : World) (hG : Glob w) : Calls Tryd.prog 27 #[.string s] w fun e w' => e = .returned (.tuple #[.int .i64 v, .bool true]) ∧ WStep w w' none := by
  have mixed := mixed
  obtain ⟨vb0, vb1⟩ := Lib.atoiAll_bounds h
  go_enter Tryd.func27, Tryd.ntmps27
  go_wp2_with (first
    | (refine (w_Atoi_ok s hs v h _).mono ?_; rintro e W1 ⟨rfl, hW⟩)
    | (refine (w_within v _ _ _ (hG.step hW)).mono ?_; rw [hc]; rintro e W2 ⟨rfl, hW2⟩)
    | (refine (w_Itoa v vb0 vb1 _ ((hG.step hW).step hW2)).mono ?_; rintro e W3 ⟨rfl, hW3⟩))
  all_goals first
    | (go_ret2; exact ⟨rfl, (hW.trans hW2).trans hW3⟩)
    | (exfalso; rename_i hq; apply he; have h2 : (itoaB v).data.toList = s.data.toList := (by rw [← ByteArray.toList_eq, ← ByteArray.toList_eq]; simpa using hq); exact ByteArray.ext (Array.toList_inj.1 h2))
    | (exfalso; rename_i hq; simp [he] at hq)
theorem w_IntGet_no (s : ByteArray) (hs : s.size ≤ 281474976710656) (v : Int) (h : Lib.atoiAll s.data.toList = .ok v) (hc : withinM v (-1000000000) 1000000000 = true) (he : itoaB v ≠ s) (w : World) (hG : Glob w) : Calls Tryd.prog 27 #[.string s] w fun e w' => e = .returned (.tuple #[.int .i64 0, .bool false]) ∧ WStep w w' none := by
  have mixed := mixed
  obtain ⟨vb0, vb1⟩ := Lib.atoiAll_bounds h
  go_enter Tryd.func27, Tryd.ntmps27
  go_wp2_with (first
    | (refine (w_Atoi_ok s hs v h _).mono ?_; rintro e W1 ⟨rfl, hW⟩)
    | (refine (w_within v _ _ _ (hG.step hW)).mono ?_; rw [hc]; rintro e W2 ⟨rfl, hW2⟩)
    | (refine (w_Itoa v vb0 vb1 _ ((hG.step hW).step hW2)).mono ?_; rintro e W3 ⟨rfl, hW3⟩))
  all_goals first
    | (go_ret2; exact ⟨rfl, (hW.trans hW2).trans hW3⟩)
    | (exfalso; rename_i hq; apply he; have h2 : (itoaB v).data.toList = s.data.toList := (by rw [← ByteArray.toList_eq, ← ByteArray.toList_eq]; simpa using hq); exact ByteArray.ext (Array.toList_inj.1 h2))
    | (exfalso; rename_i hq; simp [he] at hq)
end Go.Proofs.YtgkmbbiebmamaaaDoor.Am
namespace Go.Proofs.YtgkmbbiebmamaaaDoor.Am
open Go
set_option maxRecDepth 100000
set_option maxHeartbeats 1000000
set_option linter.unusedSimpArgs false
set_option linter.unusedVariables false
theorem byte0 {s : ByteArray} {c : UInt8} {r : List UInt8} (h : s.data.toList = c :: r) : byteAt s 0 = (c.toNat : Int) := by
  have h0 : 0 < s.data.toList.length := by rw [h]; simp
  have e := byteAt_nat (s := s) (i := 0) h0
  simp only [h, List.getElem_cons_zero] at e
  exact e
theorem dec_head (m : Nat) : ∃ c r, decL m = c :: r ∧ 48 ≤ c.toNat ∧ c.toNat ≤ 57 := by
  have hd := decL_dig m
  cases hl : decL m with
  | nil => exact absurd hl (decL_ne m)
  | cons c r =>
    have := hd c (by rw [hl]; simp)
    simp only [digB, Bool.and_eq_true, decide_eq_true_eq] at this
    exact ⟨c, r, rfl, this.1, this.2⟩
theorem neg_list (m : Nat) (h : 1 ≤ m) : (itoaB (-(m : Int))).data.toList = 45 :: decL m := by
  unfold itoaB Lib.itoa
  rw [if_pos (by omega)]
  simp [dec_list]
theorem intM_dec (m : Nat) (h : m ≤ 1000000000) : intM (decM m) = ((m : Int), true) := by
  obtain ⟨c, r, e, h1, h2⟩ := dec_head m
  unfold intM
  rw [if_neg (by rw [byte0 e]; omega), figM_dec m (by omega), if_pos]
  unfold withinM; simp only [Bool.and_eq_true, decide_eq_true_eq]; omega
theorem extract1 {s : ByteArray} {c : UInt8} {r : List UInt8} (h : s.data.toList = c :: r) : (s.extract 1 s.size).data.toList = r := by
  rw [ByteArray.data_extract]
  simp only [Array.toList_extract, List.extract_eq_take_drop, h]
  have hs : s.size = r.length + 1 := by rw [size_list, h]; rfl
  rw [hs]; simp
theorem intM_neg (m : Nat) (h1 : 1 ≤ m) (h : m ≤ 1000000000) : intM (itoaB (-(m : Int))) = (-(m : Int), true) := by
  have e := neg_list m h1
  have hx : (itoaB (-(m : Int))).extract 1 (itoaB (-(m : Int))).size = decM m := ByteArray.ext (Array.toList_inj.1 (extract1 e))
  have hs : 1 < (itoaB (-(m : Int))).size := by
    have := List.length_pos_iff.2 (decL_ne m)
    rw [size_list, e, List.length_cons]; omega
  unfold intM
  rw [if_pos ⟨hs, by rw [byte0 e]; rfl⟩, hx, figM_dec m (by omega), if_pos]
  unfold withinM; simp only [Bool.and_eq_true, decide_eq_true_eq]; omega
theorem int_cases {n : Int} (h : withinM n (-1000000000) 1000000000 = true) : (∃ m : Nat, n = m ∧ m ≤ 1000000000) ∨ ∃ m : Nat, n = -(m : Int) ∧ 1 ≤ m ∧ m ≤ 1000000000 := by
  have := withinM_b h
  by_cases h0 : 0 ≤ n
  · exact .inl ⟨n.toNat, by omega, by omega⟩
  · exact .inr ⟨(-n).toNat, by omega, by omega, by omega⟩
theorem intM_yes {n : Int} (h : withinM n (-1000000000) 1000000000 = true) : intM (itoaB n) = (n, true) := by
  rcases int_cases h with ⟨m, rfl, hm⟩ | ⟨m, rfl, h1, hm⟩
  · rw [itoa_dec, intM_dec m hm]
  · exact intM_neg m h1 hm
theorem intM_no {s : ByteArray} (h : ∀ n, withinM n (-1000000000) 1000000000 = true → itoaB n ≠ s) : intM s = (0, false) := by
  unfold intM
  split
  · rename_i hc
    split
    · rename_i hw
      exfalso
      have hb := withinM_b hw
      obtain ⟨m, e1, e2, _⟩ := figM_some (by omega : 0 ≤ figM (s.extract 1 s.size))
      rw [e1] at hb
      refine h (-(m : Int)) (by unfold withinM; simp only [Bool.and_eq_true, decide_eq_true_eq]; omega) (ByteArray.ext (Array.toList_inj.1 ?_))
      rw [neg_list m (by omega)]
      cases hl : s.data.toList with
      | nil => have := hc.1; rw [size_list, hl] at this; simp at this
      | cons c r =>
        have e3 := extract1 hl
        rw [e2] at e3
        have e4 := byte0 hl
        rw [hc.2] at e4
        have : c = 45 := by apply UInt8.toNat_inj.1; show _ = 45; omega
        rw [this]; congr 1
    · rfl
  · split
    · rename_i hw
      exfalso
      have hb := withinM_b hw
      obtain ⟨m, e1, e2, _⟩ := figM_some hb.1
      rw [e1] at hb
      exact h m (by unfold withinM; simp only [Bool.and_eq_true, decide_eq_true_eq]; omega) (by rw [itoa_dec, ← e2])
    · rfl
theorem atoi_itoa {n : Int} (h : withinM n (-1000000000) 1000000000 = true) : Lib.atoiAll (itoaB n).data.toList = .ok n := by
  rcases int_cases h with ⟨m, rfl, hm⟩ | ⟨m, rfl, h1, hm⟩
  · rw [itoa_dec]; exact atoi_dec m (by omega)
  · rw [neg_list m h1]
    have hv : (decL m).foldl (fun a b => 10 * a + (b.toNat - 48)) 0 = m := bval_decL m
    have hp := parse_dec (decL m) 0 (decL_dig m) (by rw [hv]; omega)
    rw [hv] at hp
    have e2 : Lib.parseMag (decL m) = .ok m := by unfold Lib.parseMag; rw [if_neg (decL_ne m)]; exact hp
    unfold Lib.atoiAll
    have e1 : (if (45 : UInt8).toNat = 43 ∨ (45 : UInt8).toNat = 45 then decL m else 45 :: decL m) = decL m := if_pos (.inr rfl)
    simp only [e1, e2]
    have e4 : ¬ 9223372036854775808 < m := by omega
    simp [e4]
theorem p_IntGet : Plain Tryd.prog 27 := ⟨_, Tryd.func27, rfl, by decide⟩
theorem s_IntGet (s : ByteArray) (hs : s.size ≤ 281474976710656) : Spec Tryd.prog 27 [.t (.str s)] (fun r => r = .tup [I (intM s).1, Bo (intM s).2]) := by
  intro w D vs hD hv
  match vs, hv with
  | [v], ⟨hv, _⟩ =>
    have hv' : v = .string s := by cases hv; rfl
    subst hv'
    have out : ∀ (n : Int) (b : Bool) (w' : World), WStep w w' none → Out w D w' (.tup [I n, Bo b]) (.tuple #[.int .i64 n, .bool b]) := fun n b w' hw =>
      ⟨hw, fun _ => none, (fun b p hb => by cases hb), [.int .i64 n, .bool b], rfl, .int _ _, .bool _, trivial⟩
    by_cases hk : ∃ n, Lib.atoiAll s.data.toList = .ok n
    · obtain ⟨n, hn⟩ := hk
      have other : (withinM n (-1000000000) 1000000000 = true → itoaB n ≠ s) → intM s = (0, false) := fun hh => intM_no fun k hw e => by
        have h2 := atoi_itoa hw
        rw [e, hn] at h2
        injection h2 with h2
        subst h2
        exact hh hw e
      cases hc : withinM n (-1000000000) 1000000000
      · rw [other (fun hw => by rw [hc] at hw; cases hw)]
        exact (w_IntGet_far s hs n hn hc w hD.gl).mono fun e w' ⟨he, hw⟩ => ⟨_, _, he, rfl, out _ _ w' hw⟩
      · by_cases he : itoaB n = s
        · have := intM_yes hc
          rw [he] at this
          rw [this]
          exact (w_IntGet_yes s hs n hn hc he w hD.gl).mono fun e w' ⟨he, hw⟩ => ⟨_, _, he, rfl, out _ _ w' hw⟩
        · rw [other (fun _ => he)]
          exact (w_IntGet_no s hs n hn hc he w hD.gl).mono fun e w' ⟨he, hw⟩ => ⟨_, _, he, rfl, out _ _ w' hw⟩
    · rw [intM_no fun k hw e => hk ⟨k, by rw [← e]; exact atoi_itoa hw⟩]
      exact (w_IntGet_err s hs (fun n hn => hk ⟨n, hn⟩) w hD.gl).mono fun e w' ⟨he, hw⟩ => ⟨_, _, he, rfl, out _ _ w' hw⟩
end Go.Proofs.YtgkmbbiebmamaaaDoor.Am
namespace Go.Proofs.YtgkmbbiebmamaaaDoor.Am
open Go
set_option linter.unusedSimpArgs false
set_option linter.unusedVariables false
theorem bl_irrefl : ∀ x : List UInt8, Op.bytesLess x x = false
  | [] => rfl
  | a :: x => by simp [Op.bytesLess, bl_irrefl x]
theorem bl_trans : ∀ {x y z : List UInt8}, Op.bytesLess x y = true → Op.bytesLess y z = true → Op.bytesLess x z = true
  | _, [], _, h, _ => by simp [Op.bytesLess] at h
  | _, _ :: _, [], _, h => by simp [Op.bytesLess] at h
  | [], _ :: _, _ :: _, _, _ => rfl
  | a :: x, b :: y, c :: z, h, h' => by
    simp only [Op.bytesLess, Bool.or_eq_true, Bool.and_eq_true, decide_eq_true_eq, beq_iff_eq] at h h' ⊢
    rcases h with h | ⟨rfl, h⟩
    · rcases h' with h' | ⟨rfl, h'⟩
      · exact .inl (UInt8.lt_trans h h')
      · exact .inl h
    · rcases h' with h' | ⟨rfl, h'⟩
      · exact .inl h'
      · exact .inr ⟨rfl, bl_trans h h'⟩
theorem bl_total : ∀ {x y : List UInt8}, x ≠ y → Op.bytesLess x y = false → Op.bytesLess y x = true
  | [], [], h, _ => absurd rfl h
  | [], _ :: _, _, h => by simp [Op.bytesLess] at h
  | _ :: _, [], _, _ => rfl
  | a :: x, b :: y, h, h' => by
    simp only [Op.bytesLess, Bool.or_eq_false_iff, Bool.and_eq_false_iff, decide_eq_false_iff_not, beq_eq_false_iff_ne, ne_eq] at h'
    simp only [Op.bytesLess, Bool.or_eq_true, Bool.and_eq_true, decide_eq_true_eq, beq_iff_eq]
    obtain ⟨h1, h2⟩ := h'
    by_cases e : a = b
    · subst e
      refine .inr ⟨rfl, bl_total (fun e => h (by rw [e])) (by simpa using h2)⟩
    · have hne : a.toNat ≠ b.toNat := fun h => e (UInt8.toNat_inj.1 h)
      have h3 : a.toNat < b.toNat ∨ b.toNat < a.toNat := by omega
      rcases h3 with h3 | h3
      · exact absurd (UInt8.lt_iff_toNat_lt.2 h3) h1
      · exact .inl (UInt8.lt_iff_toNat_lt.2 h3)
theorem bytesLt_irrefl (a : ByteArray) : bytesLt a a = false := bl_irrefl _
theorem bytesLt_trans {a b c : ByteArray} (h : bytesLt a b = true) (h' : bytesLt b c = true) : bytesLt a c = true := bl_trans h h'
theorem bytesLt_total {a b : ByteArray} (h : a ≠ b) (h' : bytesLt a b = false) : bytesLt b a = true := by
  refine bl_total (fun e => h ?_) h'
  have := bytesEq_iff a b
  unfold bytesEq at this
  rw [e] at this
  simpa using this
end Go.Proofs.YtgkmbbiebmamaaaDoor.Am
namespace Go.Proofs.YtgkmbbiebmamaaaDoor.Am
open Go
set_option maxRecDepth 100000
set_option maxHeartbeats 1000000
set_option linter.unusedSimpArgs false
set_option linter.unusedVariables false
def cmpS (a b : ByteArray) : Int := if bytesLt a b = true then -1 else if a = b then 0 else 1
theorem cmpS_lt (a b : ByteArray) : decide (cmpS a b < 0) = bytesLt a b := by
  unfold cmpS
  cases h : bytesLt a b
  · by_cases e : a = b <;> simp [e]
  · simp
theorem p_isNaNS : Plain Tryd.prog 64 := ⟨_, Tryd.func64, rfl, by decide⟩
theorem s_isNaNS (n : ByteArray) : Spec Tryd.prog 64 [.t (.str n)] (fun r => r = Bo false) := by
  refine Spec.of tysOk mixed Tryd.func64 rfl (by decide) ?_
  simp -implicitDefEqProofs only [go_sem, Tryd.f64]
theorem p_compareS : Plain Tryd.prog 48 := ⟨_, Tryd.func48, rfl, by decide⟩
theorem s_compareS (a b : ByteArray) : Spec Tryd.prog 48 [.t (.str a), .t (.str b)] (fun r => r = I (cmpS a b)) := by
  refine Spec.of tysOk mixed Tryd.func48 rfl (by decide) ?_
  simp -implicitDefEqProofs only [go_sem, Tryd.f48]
  refine .one (s_isNaNS _) p_isNaNS rfl trivial ?_
  simp -implicitDefEqProofs only [go_sem]
  refine .one (s_isNaNS _) p_isNaNS rfl trivial ?_
  simp -implicitDefEqProofs only [go_sem]
  refine BrA_i (fun h => ?_) (fun h => ?_)
  · simp -implicitDefEqProofs only [go_sem]; simp [cmpS, h]
  · simp -implicitDefEqProofs only [go_sem]
    refine BrA_i (fun h2 => ?_) (fun h2 => ?_) <;> simp -implicitDefEqProofs only [go_sem] <;> simp_all [cmpS]
theorem cmpS_refl (a : ByteArray) : cmpS a a = 0 := by
  unfold cmpS; rw [bytesLt_irrefl]; simp
end Go.Proofs.YtgkmbbiebmamaaaDoor.Am
namespace Go.Proofs.YtgkmbbiebmamaaaDoor.Am
open Go
set_option maxRecDepth 100000
set_option maxHeartbeats 1000000
set_option linter.unusedSimpArgs false
set_option linter.unusedVariables false
noncomputable def cmpT (nums down : Bool) (x y : ByteArray) : Int :=
  let c := if nums = true then cmpM (intM x).1 (intM y).1 else cmpS x y
  if down = true then -c else c
theorem p_sortFn : Plain Tryd.prog 47 := ⟨_, Tryd.func47, rfl, by decide⟩
theorem s_sortFn (x y : ByteArray) (nums down : Bool) (hx : x.size ≤ 281474976710656) (hy : y.size ≤ 281474976710656) : Spec Tryd.prog 47 [.t (.str x), .t (.str y), .rop false [.bool nums] 0, .rop false [.bool down] 0] (fun r => r = I (cmpT nums down x y)) := by
  refine Spec.of tysOk mixed Tryd.func47 rfl (by decide) ?_
  have ws : IntKind.i64.wrap (0 - cmpS x y) = -cmpS x y := by
    unfold cmpS; split <;> (try split) <;> rfl
  have wm : IntKind.i64.wrap (0 - cmpM (intM x).1 (intM y).1) = -cmpM (intM x).1 (intM y).1 := by
    unfold cmpM; split <;> (try split) <;> rfl
  simp -implicitDefEqProofs only [go_sem, Tryd.f47]
  refine CallW.one (s_compareS x y) p_compareS (by first | (simp -implicitDefEqProofs only [go_sem]; done) | ((conv => lhs; simp -implicitDefEqProofs only [go_sem]); done) | (simp -implicitDefEqProofs only [go_sem]; rfl) | rfl) (by first | trivial | (simp [DeepR, DeepV, DeepVs, DeepC, DeepCs, T.scal]; done)) ?_
  cases nums
  · simp -implicitDefEqProofs only [go_sem]
    cases down
    · simp -implicitDefEqProofs only [go_sem]
      simp [cmpT]
    · simp -implicitDefEqProofs only [go_sem, ws]
      simp [cmpT]
  · simp -implicitDefEqProofs only [go_sem]
    refine CallW.one (s_IntGet x hx) p_IntGet (by first | (simp -implicitDefEqProofs only [go_sem]; done) | ((conv => lhs; simp -implicitDefEqProofs only [go_sem]); done) | (simp -implicitDefEqProofs only [go_sem]; rfl) | rfl) (by first | trivial | (simp [DeepR, DeepV, DeepVs, DeepC, DeepCs, T.scal]; done)) ?_
    simp -implicitDefEqProofs only [go_sem]
    refine CallW.one (s_IntGet y hy) p_IntGet (by first | (simp -implicitDefEqProofs only [go_sem]; done) | ((conv => lhs; simp -implicitDefEqProofs only [go_sem]); done) | (simp -implicitDefEqProofs only [go_sem]; rfl) | rfl) (by first | trivial | (simp [DeepR, DeepV, DeepVs, DeepC, DeepCs, T.scal]; done)) ?_
    simp -implicitDefEqProofs only [go_sem]
    refine CallW.one (s_compare (intM x).1 (intM y).1) p_compare (by first | (simp -implicitDefEqProofs only [go_sem]; done) | ((conv => lhs; simp -implicitDefEqProofs only [go_sem]); done) | (simp -implicitDefEqProofs only [go_sem]; rfl) | rfl) (by first | trivial | (simp [DeepR, DeepV, DeepVs, DeepC, DeepCs, T.scal]; done)) ?_
    cases down
    · simp -implicitDefEqProofs only [go_sem]
      simp [cmpT]
    · simp -implicitDefEqProofs only [go_sem, wm]
      simp [cmpT]
end Go.Proofs.YtgkmbbiebmamaaaDoor.Am
namespace Go.Proofs.YtgkmbbiebmamaaaDoor.Am
open Go
set_option maxRecDepth 100000
set_option linter.unusedSimpArgs false
set_option linter.unusedVariables false
def Idt.row (x : Idt) : List T := [.int .i64 x.t, .int .i64 x.n]
def lG {α : Type} (G : α → Prop) (xs : List α) : Prop := xs.length ≤ 140737488351232 ∧ ∀ x ∈ xs, G x
def Pr.G (x : Pr) : Prop := x.k.size ≤ 140737488351232 ∧ x.v.size ≤ 140737488351232
def It.G (x : It) : Prop := lG Pr.G x.fields
def Wt.G (x : Wt) : Prop := x.who.size ≤ 140737488351232
def Gr.G (x : Gr) : Prop := x.name.size ≤ 140737488351232 ∧ lG Wt.G x.waits
def Stm.G (x : Stm) : Prop := lG It.G x.items ∧ lG Gr.G x.groups
end Go.Proofs.YtgkmbbiebmamaaaDoor.Am
namespace Go.Proofs.YtgkmbbiebmamaaaDoor.Am
open Go
set_option maxRecDepth 100000
set_option linter.unusedSimpArgs false
set_option linter.unusedVariables false
abbrev Tx := ByteArray
abbrev Or := List Tx
def Tx.row (x : Tx) : List T := [.str x]
def Tx.w (x : Tx) : Nat := x.size
def Or.row (x : Or) : List T := [.list false 1 (x.map Tx.row)]
def Or.rowO (x : Or) : List T := [.list true 1 (x.map Tx.row)]
def Or.w (x : Or) : Nat := wAll Tx.w x
def Tx.G (x : Tx) : Prop := x.size ≤ 140737488351232
def Or.G (x : Or) : Prop := lG Tx.G x
@[ext] structure Sc where
  text : ByteArray
  num : Int
deriving DecidableEq
@[ext] structure En where
  key : ByteArray
  till : Int
  kind : Int
  text : ByteArray
  list : List Tx
  scores : List Sc
  fields : List Pr
deriving DecidableEq
@[ext] structure Bs where
  now : Int
  ents : List En
deriving DecidableEq
@[ext] structure Cl where
  multi : Bool
  wrong : Bool
  queue : List Or
  watch : List Tx
  touch : Bool
  hears : List Tx
deriving DecidableEq
@[ext] structure Sv where
  base : Bs
  file : ByteArray
  cls : List Cl
deriving DecidableEq
@[ext] structure Ld where
  srv : Sv
  hist : Int
deriving DecidableEq
@[ext] structure Fo where
  hist : Int
  text : ByteArray
  base : Bs
deriving DecidableEq
@[ext] structure Pac where
  full : Bool
  hist : Int
  pos : Int
  text : ByteArray
  now : Int
deriving DecidableEq
def Sc.row (x : Sc) : List T := [.str x.text, .int .i64 x.num]
def Sc.w (x : Sc) : Nat := x.text.size
def Sc.G (x : Sc) : Prop := x.text.size ≤ 140737488351232
def En.row (x : En) : List T := [.str x.key, .int .i64 x.till, .int .i64 x.kind, .str x.text, .list false 1 (x.list.map Tx.row), .list false 2 (x.scores.map Sc.row), .list false 2 (x.fields.map Pr.row)]
def En.rowO (x : En) : List T := [.str x.key, .int .i64 x.till, .int .i64 x.kind, .str x.text, .list true 1 (x.list.map Tx.row), .list true 2 (x.scores.map Sc.row), .list true 2 (x.fields.map Pr.row)]
def En.w (x : En) : Nat := x.key.size + x.text.size + wAll Tx.w x.list + wAll Sc.w x.scores + wAll Pr.w x.fields
def En.G (x : En) : Prop := x.key.size ≤ 140737488351232 ∧ x.text.size ≤ 140737488351232 ∧ lG Tx.G x.list ∧ lG Sc.G x.scores ∧ lG Pr.G x.fields
def Bs.row (x : Bs) : List T := [.int .i64 x.now, .list false 7 (x.ents.map En.row)]
def Bs.rowO (x : Bs) : List T := [.int .i64 x.now, .list true 7 (x.ents.map En.rowO)]
def Bs.w (x : Bs) : Nat := wAll En.w x.ents
def Bs.G (x : Bs) : Prop := lG En.G x.ents
def Cl.row (x : Cl) : List T := [.bool x.multi, .bool x.wrong, .list false 1 (x.queue.map Or.row), .list false 1 (x.watch.map Tx.row), .bool x.touch, .list false 1 (x.hears.map Tx.row)]
def Cl.rowO (x : Cl) : List T := [.bool x.multi, .bool x.wrong, .list true 1 (x.queue.map Or.rowO), .list true 1 (x.watch.map Tx.row), .bool x.touch, .list true 1 (x.hears.map Tx.row)]
def Cl.w (x : Cl) : Nat := wAll Or.w x.queue + wAll Tx.w x.watch + wAll Tx.w x.hears
def Cl.G (x : Cl) : Prop := lG Or.G x.queue ∧ lG Tx.G x.watch ∧ lG Tx.G x.hears
def Sv.row (x : Sv) : List T := [.int .i64 x.base.now, .list false 7 (x.base.ents.map En.row), .str x.file, .list false 6 (x.cls.map Cl.row)]
def Sv.rowO (x : Sv) : List T := [.int .i64 x.base.now, .list true 7 (x.base.ents.map En.rowO), .str x.file, .list true 6 (x.cls.map Cl.rowO)]
def Sv.w (x : Sv) : Nat := Bs.w x.base + x.file.size + wAll Cl.w x.cls
def Sv.G (x : Sv) : Prop := Bs.G x.base ∧ x.file.size ≤ 140737488351232 ∧ lG Cl.G x.cls
def Ld.row (x : Ld) : List T := [.int .i64 x.srv.base.now, .list false 7 (x.srv.base.ents.map En.row), .str x.srv.file, .list false 6 (x.srv.cls.map Cl.row), .int .i64 x.hist]
def Ld.rowO (x : Ld) : List T := [.int .i64 x.srv.base.now, .list true 7 (x.srv.base.ents.map En.rowO), .str x.srv.file, .list true 6 (x.srv.cls.map Cl.rowO), .int .i64 x.hist]
def Ld.w (x : Ld) : Nat := Sv.w x.srv
def Ld.G (x : Ld) : Prop := Sv.G x.srv
def Fo.row (x : Fo) : List T := [.int .i64 x.hist, .str x.text, .int .i64 x.base.now, .list false 7 (x.base.ents.map En.row)]
def Fo.rowO (x : Fo) : List T := [.int .i64 x.hist, .str x.text, .int .i64 x.base.now, .list true 7 (x.base.ents.map En.rowO)]
def Fo.w (x : Fo) : Nat := x.text.size + Bs.w x.base
def Fo.G (x : Fo) : Prop := x.text.size ≤ 140737488351232 ∧ Bs.G x.base
def Pac.row (x : Pac) : List T := [.bool x.full, .int .i64 x.hist, .int .i64 x.pos, .str x.text, .int .i64 x.now]
def Pac.w (x : Pac) : Nat := x.text.size
def Pac.G (x : Pac) : Prop := x.text.size ≤ 140737488351232
theorem Tx.mk_rows (l : List Tx) : (l.map Tx.row).map (List.map (T.mk false)) = l.map Tx.row := Am.mk_rows _ (fun _ => rfl) l
theorem Or.mk_rows (l : List Or) : (l.map Or.row).map (List.map (T.mk false)) = l.map Or.row := Am.mk_rows _ (fun x => by simp only [Or.row, List.map_cons, List.map_nil, T.mk_list, T.mk_int, T.mk_str, T.mk_bool, Pr.mk_rows, Tx.mk_rows]) l
theorem Or.mk_rowsO (l : List Or) : (l.map Or.rowO).map (List.map (T.mk false)) = l.map Or.row := by
  rw [List.map_map]; exact List.map_congr_left fun x _ => by simp only [Function.comp, Or.rowO, Or.row, List.map_cons, List.map_nil, T.mk_list, T.mk_int, T.mk_str, T.mk_bool, Pr.mk_rows, Tx.mk_rows]
theorem Sc.mk_rows (l : List Sc) : (l.map Sc.row).map (List.map (T.mk false)) = l.map Sc.row := Am.mk_rows _ (fun x => by simp only [Sc.row, List.map_cons, List.map_nil, T.mk_list, T.mk_int, T.mk_str, T.mk_bool, Pr.mk_rows, Tx.mk_rows, Or.mk_rows]) l
theorem En.mk_rows (l : List En) : (l.map En.row).map (List.map (T.mk false)) = l.map En.row := Am.mk_rows _ (fun x => by simp only [En.row, List.map_cons, List.map_nil, T.mk_list, T.mk_int, T.mk_str, T.mk_bool, Pr.mk_rows, Tx.mk_rows, Or.mk_rows, Sc.mk_rows]) l
theorem En.mk_rowsO (l : List En) : (l.map En.rowO).map (List.map (T.mk false)) = l.map En.row := by
  rw [List.map_map]; exact List.map_congr_left fun x _ => by simp only [Function.comp, En.rowO, En.row, List.map_cons, List.map_nil, T.mk_list, T.mk_int, T.mk_str, T.mk_bool, Pr.mk_rows, Tx.mk_rows, Or.mk_rows, Sc.mk_rows, Or.mk_rowsO]
theorem Cl.mk_rows (l : List Cl) : (l.map Cl.row).map (List.map (T.mk false)) = l.map Cl.row := Am.mk_rows _ (fun x => by simp only [Cl.row, List.map_cons, List.map_nil, T.mk_list, T.mk_int, T.mk_str, T.mk_bool, Pr.mk_rows, Tx.mk_rows, Or.mk_rows, Sc.mk_rows, En.mk_rows]) l
theorem Cl.mk_rowsO (l : List Cl) : (l.map Cl.rowO).map (List.map (T.mk false)) = l.map Cl.row := by
  rw [List.map_map]; exact List.map_congr_left fun x _ => by simp only [Function.comp, Cl.rowO, Cl.row, List.map_cons, List.map_nil, T.mk_list, T.mk_int, T.mk_str, T.mk_bool, Pr.mk_rows, Tx.mk_rows, Or.mk_rows, Sc.mk_rows, En.mk_rows, Or.mk_rowsO, En.mk_rowsO]
attribute [go_sem] Tx.mk_rows Or.mk_rows Or.mk_rowsO Sc.mk_rows En.mk_rows En.mk_rowsO Cl.mk_rows Cl.mk_rowsO
end Go.Proofs.YtgkmbbiebmamaaaDoor.Am
namespace Go.Proofs.YtgkmbbiebmamaaaDoor.Am
open Go
set_option maxRecDepth 100000
set_option maxHeartbeats 1000000
set_option linter.unusedSimpArgs false
set_option linter.unusedVariables false
theorem set_getD_ne {l : List (List T)} {i k : Nat} (h : i ≠ k) (r : List T) : (l.set k r).getD i [] = l.getD i [] := by
  rw [List.getD_eq_getElem?_getD, List.getD_eq_getElem?_getD, List.getElem?_set_ne (Ne.symm h)]
noncomputable def ltT (nums down : Bool) (x y : Tx) : Bool := decide (cmpT nums down x y < 0)
theorem ltT_eq (nums down : Bool) (x y : Tx) : ltT nums down x y = decide (cmpT nums down x y < 0) := rfl
theorem insB_mem {α : Type} {lt : α → α → Bool} {x y : α} : ∀ {l : List α}, y ∈ insB lt x l → y = x ∨ y ∈ l
  | [], h => by simpa [insB] using h
  | z :: l, h => by
    unfold insB at h
    split at h
    · rcases List.mem_cons.1 h with h | h
      · exact .inr (by simp [h])
      · exact (insB_mem h).imp id fun h => by simp [h]
    · rcases List.mem_cons.1 h with h | h
      · exact .inl h
      · exact .inr h
theorem sortR_mem {α : Type} {lt : α → α → Bool} {y : α} : ∀ {l acc : List α}, y ∈ l.foldl (insR lt) acc → y ∈ acc ∨ y ∈ l
  | [], acc, h => .inl h
  | x :: l, acc, h => by
    rw [List.foldl_cons] at h
    rcases sortR_mem h with h | h
    · unfold insR at h
      rcases insB_mem (List.mem_reverse.1 h) with h | h
      · exact .inr (by simp [h])
      · exact .inl (List.mem_reverse.1 h)
    · exact .inr (by simp [h])
theorem p_insTx : Plain Tryd.prog 75 := ⟨_, Tryd.func75, rfl, by decide⟩
theorem s_insTx (nums down : Bool) (gs : List Tx) (hsz0 : ∀ x ∈ gs, x.size ≤ 40) (hs : gs.length < 1000) : SpecO Tryd.prog 75 [.refw 9000, I 0, I gs.length, .fn 47 [.ptr 9001 0 0, .ptr 9002 0 0]] [(9000, .rows 1 (gs.map Tx.row)), (9001, .box [Bo nums]), (9002, .box [Bo down])] (fun r h => r = .tup [] ∧ h = [(9000, .rows 1 ((sortR (ltT nums down) gs).map Tx.row)), (9001, .box [Bo nums]), (9002, .box [Bo down])]) := by
  refine SpecO.of tysOk mixed Tryd.func75 rfl (by decide) ?_
  have w0 : IntKind.i64.wrap (0 + 1) = ((1 : Nat) : Int) := by rw [wrap64 (by omega) (by omega)]; omega
  simp -implicitDefEqProofs only [go_sem, Tryd.f75, w0]
  refine LoopW.slotsM [true, true, true, true, false, false, false, false, true, false, false, false, false, false, false, false, false, false, false, false, false, false, false, false, false, false, false, false, false, false, false, false, false, false, false, false, false, false, false, false, false, false, false, false, false, false, false, false, false, false, false, false, false] (α := Nat) (fun i => [(8, I i)]) (fun i => [(9000, .rows 1 ((sortR (ltT nums down) (gs.take i) ++ gs.drop i).map Tx.row)), (9001, .box [Bo nums]), (9002, .box [Bo down])]) (fun i => gs.length - i) (fun i => 1 ≤ i ∧ (i ≤ gs.length ∨ i = 1)) 1 (by simp -implicitDefEqProofs only [go_sem, LeTs_undef, LeTs_same, LeTs_nil]; try simp [LeTs]) (by simp -implicitDefEqProofs only [go_sem, sortR_one]) ⟨by omega, .inr rfl⟩ ?_
  rintro i ⟨hi1, hi2⟩
  simp -implicitDefEqProofs only [go_sem]
  refine BrA_i (fun h => ?_) (fun h => ?_) <;> simp -implicitDefEqProofs only [go_sem]
  · skip
    have h : i < gs.length := by simp at h; omega
    have h0i : (0 : Int) ≤ i := by omega
    have h1i : (i : Int) < gs.length := by omega
    have wi : IntKind.i64.wrap ((i : Int) + 1) = ((i + 1 : Nat) : Int) := by rw [wrap64 (by omega) (by omega)]; omega
    have hDl : (sortR (ltT nums down) (gs.take i)).length = i := by rw [sortR_len, List.length_take]; omega
    have hD0 : Mid (ltT nums down) (sortR (ltT nums down) (gs.take i)) gs[i] (gs.drop (i + 1)) (sortR (ltT nums down) (gs.take i) ++ gs.drop i) i := by
      have := Mid.start (lt := ltT nums down) (sortR (ltT nums down) (gs.take i)) gs[i] (gs.drop (i + 1))
      rw [hDl] at this
      rwa [List.drop_eq_getElem_cons h]
    have hszS : ∀ x ∈ sortR (ltT nums down) (gs.take i) ++ gs.drop i, x.size ≤ 40 := fun x hx => by
      rcases List.mem_append.1 hx with hx | hx
      · rcases sortR_mem hx with hx | hx
        · cases hx
        · exact hsz0 x (List.mem_of_mem_take hx)
      · exact hsz0 x (List.mem_of_mem_drop hx)
    refine LoopW.slotsM [true, true, true, true, false, false, false, false, true, true, false, false, false, false, false, false, false, false, false, false, false, false, false, false, false, false, false, false, false, false, false, false, false, false, false, false, false, false, false, false, false, false, false, false, false, false, false, false, false, false, false, false, false] (α := List Tx × Nat) (fun x => [(9, I x.2)]) (fun x => [(9000, .rows 1 (x.1.map Tx.row)), (9001, .box [Bo nums]), (9002, .box [Bo down])]) (fun x => x.2) (fun x => Mid (ltT nums down) (sortR (ltT nums down) (gs.take i)) gs[i] (gs.drop (i + 1)) x.1 x.2 ∧ ∀ x0 ∈ x.1, x0.size ≤ 40) (sortR (ltT nums down) (gs.take i) ++ gs.drop i, i) (by simp -implicitDefEqProofs only [go_sem, LeTs_undef, LeTs_same, LeTs_nil]; try simp [LeTs]) (by simp -implicitDefEqProofs only [go_sem]) ⟨hD0, hszS⟩ ?_
    rintro ⟨D, j⟩ ⟨hD, hsz⟩
    simp only at hD hsz
    have hl := hD.len
    rw [hDl, List.length_drop] at hl
    clear hD0
    simp -implicitDefEqProofs only [go_sem]
    cases j with
    | zero =>
      have e0 : decide (((0 : Nat) : Int) > 0) = false := by simp
      refine RegD_to sch_75_4 ?sx tysOk (by kernel_rfl) ?ga ?gb
      case ga => simp -implicitDefEqProofs only [go_sem, e0]; exact rfl
      simp -implicitDefEqProofs only [go_sem]
      have e := hD.end fun k h1 hk => by omega
      subst e
      refine .to [257, 258, 259] (i + 1) rfl ?_ ?_ (by omega) ⟨by omega, .inl (by omega)⟩
      · simp -implicitDefEqProofs only [go_sem, LeTs_undef, LeTs_same, LeTs_nil, wi]
      · simp -implicitDefEqProofs only [go_sem, sortR_take gs h]
    | succ j =>
      have hj1 : j + 1 < D.length := by omega
      have hj0 : j < D.length := by omega
      have e0 : decide (((j + 1 : Nat) : Int) > 0) = true := by simp
      have i1 : (0 : Int) ≤ ((j + 1 : Nat) : Int) := by omega
      have i2 : ((j + 1 : Nat) : Int) < D.length := by omega
      have i3 : (0 : Int) ≤ (j : Int) := by omega
      have i4 : (j : Int) < D.length := by omega
      have wj : IntKind.i64.wrap (((j + 1 : Nat) : Int) - 1) = (j : Int) := by rw [wrap64 (by omega) (by omega)]; omega
      have r1 := row_getD Tx.row D hj1
      have r0 := row_getD Tx.row D hj0
      obtain ⟨x1, hx1⟩ : ∃ x, x = D[j + 1] := ⟨_, rfl⟩
      obtain ⟨x0, hx0⟩ : ∃ x, x = D[j] := ⟨_, rfl⟩
      rw [← hx1] at r1
      rw [← hx0] at r0
      simp only [Tx.row] at r1 r0
      refine RegD_to sch_75_4 ?sx1 tysOk (by kernel_rfl) ?ga1 ?gb1
      case ga1 =>
        simp -implicitDefEqProofs only [go_sem, e0, i1, i2, i3, i4, wj, r0, r1]
        refine ⟨hj1, hj0, ?_⟩
        refine CallW.one (s_sortFn x1 x0 nums down (by have := hsz _ (List.getElem_mem hj1); rw [← hx1] at this; omega) (by have := hsz _ (List.getElem_mem hj0); rw [← hx0] at this; omega)) p_sortFn (by first | (simp -implicitDefEqProofs only [go_sem]; done) | ((conv => lhs; simp -implicitDefEqProofs only [go_sem]); done) | (simp -implicitDefEqProofs only [go_sem]; rfl) | rfl) (by first | trivial | (simp [DeepR, DeepV, DeepVs, DeepC, DeepCs, T.scal]; done)) ?_
        simp -implicitDefEqProofs only [go_sem, ← ltT_eq]
        exact rfl
      simp -implicitDefEqProofs only [go_sem]
      refine BrA_i (fun h2 => ?_) (fun h2 => ?_) <;> simp -implicitDefEqProofs only [go_sem]
      · have r01 := fun r => (set_getD_ne (l := List.map Tx.row D) (i := j) (k := j + 1) (by omega) r).trans r0
        refine RegD_to sch_75_6 ?sx2 tysOk (by kernel_rfl) ?ga2 ?gb2
        case ga2 =>
          simp -implicitDefEqProofs only [go_sem, i1, i2, i3, i4, wj, r0, r1, r01]
          refine ⟨hj0, hj1, hj1, hj0, ?_⟩
          exact rfl
        simp -implicitDefEqProofs only [go_sem, wj]
        refine .to [257, 258, 259] ((D.set (j + 1) D[j]).set j D[j + 1], j) rfl ?_ ?_ (by simp) ⟨(hD.step hj1 (by rw [← hx1, ← hx0]; exact h2)), fun x hx => (List.mem_or_eq_of_mem_set hx).elim (fun hx => (List.mem_or_eq_of_mem_set hx).elim (hsz x) (fun e => by rw [e]; exact hsz _ (List.getElem_mem hj0))) (fun e => by rw [e]; exact hsz _ (List.getElem_mem hj1))⟩
        · simp -implicitDefEqProofs only [go_sem, LeTs_undef, LeTs_same, LeTs_nil]
        · simp -implicitDefEqProofs only [go_sem, List.map_set, ← hx0, ← hx1, Tx.row]
      · have e := hD.end fun k h1 hk => by
          obtain rfl : k = j := by omega
          rw [← hx1, ← hx0]; exact h2
        clear r0 r1 hx0 hx1
        subst e
        refine .to [257, 258, 259] (i + 1) rfl ?_ ?_ (by omega) ⟨by omega, .inl (by omega)⟩
        · simp -implicitDefEqProofs only [go_sem, LeTs_undef, LeTs_same, LeTs_nil, wi]
        · simp -implicitDefEqProofs only [go_sem, sortR_take gs h]
  · have h : gs.length ≤ i := by simp at h; omega
    rw [List.take_of_length_le h, List.drop_eq_nil_of_le h, List.append_nil]
    exact ⟨(sortR_len gs).symm, rfl⟩
theorem p_stableTx : Plain Tryd.prog 63 := ⟨_, Tryd.func63, rfl, by decide⟩
theorem s_stableTx (nums down : Bool) (gs : List Tx) (hsz0 : ∀ x ∈ gs, x.size ≤ 40) (hs : gs.length < 20) : SpecO Tryd.prog 63 [.refw 9000, I gs.length, .fn 47 [.ptr 9001 0 0, .ptr 9002 0 0]] [(9000, .rows 1 (gs.map Tx.row)), (9001, .box [Bo nums]), (9002, .box [Bo down])] (fun r h => r = .tup [] ∧ h = [(9000, .rows 1 ((sortR (ltT nums down) gs).map Tx.row)), (9001, .box [Bo nums]), (9002, .box [Bo down])]) := by
  refine SpecO.of tysOk mixed Tryd.func63 rfl (by decide) ?_
  have hl : (sortR (ltT nums down) gs).length = gs.length := sortR_len gs
  have e0 : decide ((20 : Int) ≤ gs.length) = false := by simp; omega
  have e1 : decide ((20 : Int) < gs.length) = false := by simp; omega
  simp -implicitDefEqProofs only [go_sem, Tryd.f63]
  refine LoopW.slotsM [true, true, true, false, false, false, true, true, true, false, false, false, false, false, false, false, false, false, false, false, false, false, false, false, false, false, false, false, false, false, false, false, false, false, false, false, false, false, false, false, false, false, false, false, false, false, false, false, false, false, false, false, false, false, false, false, false, false, false, false, false, false, false] (α := Nat) (fun _ => []) (fun _ => []) (fun _ => 0) (fun _ => True) 0 (by simp -implicitDefEqProofs only [go_sem, LeTs_undef, LeTs_same, LeTs_nil]; try simp [LeTs]) rfl trivial ?_
  rintro _ _
  simp -implicitDefEqProofs only [go_sem, e0]
  refine CallW.o [(9000, 9000), (9001, 9001), (9002, 9002)] (s_insTx nums down gs hsz0 (by omega)) p_insTx o75 rfl (by (conv => lhs; simp -implicitDefEqProofs only [go_sem]) <;> rfl) (by (simp -implicitDefEqProofs only [go_sem]) <;> rfl) ?_
  rintro _ _ ⟨rfl, rfl⟩
  simp -implicitDefEqProofs only [go_sem]
  refine LoopW.slotsM [true, true, true, false, false, false, true, false, false, false, false, false, false, false, false, false, false, false, false, false, false, false, false, false, false, false, false, false, false, false, false, false, false, false, false, false, false, false, false, false, false, false, false, false, false, false, false, false, false, false, false, false, false, false, false, false, false, false, false, false, false, false, false] (α := Nat) (fun _ => []) (fun _ => []) (fun _ => 0) (fun _ => True) 0 (by simp -implicitDefEqProofs only [go_sem, LeTs_undef, LeTs_same, LeTs_nil]; try simp [LeTs]) rfl trivial ?_
  rintro _ _
  simp -implicitDefEqProofs only [go_sem, e1, hl]
theorem p_SortTx : Plain Tryd.prog 46 := ⟨_, Tryd.func46, rfl, by decide⟩
theorem s_SortTx (nums down : Bool) (gs : List Tx) (hsz0 : ∀ x ∈ gs, x.size ≤ 40) (hs : gs.length < 20) : SpecO Tryd.prog 46 [.refw 9000, .fn 47 [.ptr 9001 0 0, .ptr 9002 0 0]] [(9000, .rows 1 (gs.map Tx.row)), (9001, .box [Bo nums]), (9002, .box [Bo down])] (fun r h => r = .tup [] ∧ h = [(9000, .rows 1 ((sortR (ltT nums down) gs).map Tx.row)), (9001, .box [Bo nums]), (9002, .box [Bo down])]) := by
  refine SpecO.of tysOk mixed Tryd.func46 rfl (by decide) ?_
  have hl : (sortR (ltT nums down) gs).length = gs.length := sortR_len gs
  simp -implicitDefEqProofs only [go_sem, Tryd.f46]
  refine CallW.o [(9000, 9000), (9001, 9001), (9002, 9002)] (s_stableTx nums down gs hsz0 hs) p_stableTx o63 rfl (by (conv => lhs; simp -implicitDefEqProofs only [go_sem]) <;> rfl) (by (simp -implicitDefEqProofs only [go_sem]) <;> rfl) ?_
  rintro _ _ ⟨rfl, rfl⟩
  simp -implicitDefEqProofs only [go_sem, hl]
end Go.Proofs.YtgkmbbiebmamaaaDoor.Am
namespace Go.Proofs.YtgkmbbiebmamaaaDoor.Am
open Go
set_option maxRecDepth 100000
set_option linter.unusedSimpArgs false
set_option linter.unusedVariables false
theorem p_szStringS : Plain Tryd.prog 18 := ⟨_, Tryd.func18, rfl, by decide⟩
theorem s_szStringS (xs : List Tx) (n : Int) (h0 : 0 ≤ n) (h1 : n ≤ 1048576) (hs : lG Tx.G xs) : Spec Tryd.prog 18 [.t (.list false 1 (xs.map Tx.row)), I n] (fun r => r = I (cutM n (wAll Tx.w xs))) := by
  have hk : wAll Tx.w xs = xs.length + wSum Tx.w xs := rfl
  obtain ⟨hs, hsG⟩ := hs
  refine Spec.of tysOk mixed Tryd.func18 rfl (by decide) ?_
  have w1 : IntKind.i64.wrap (n - (xs.length : Int)) = n - xs.length := wrap64 (by omega) (by omega)
  simp -implicitDefEqProofs only [go_sem, Tryd.f18, w1]
  refine BrA_i (fun h2 => ?_) (fun h2 => ?_) <;> simp -implicitDefEqProofs only [go_sem]
  · simp at h2
    have : n < wAll Tx.w xs := by omega
    simp [cutM, this]
  · simp at h2
    refine LoopW.slots (α := Nat) (fun i => [(5, I i), (1, I (n - xs.length - wSum Tx.w (xs.take i)))]) (fun _ => []) (fun i => xs.length - i) (fun i => i ≤ xs.length ∧ 0 ≤ n - xs.length - wSum Tx.w (xs.take i)) 0 (by simp -implicitDefEqProofs only [go_sem]; simp [wSum]) rfl (by simp [wSum]; omega) ?_
    rintro i ⟨hi, hz⟩
    simp -implicitDefEqProofs only [go_sem]
    refine BrA_i (fun h => ?_) (fun h => ?_)
    · have h : i < xs.length := by simp at h; omega
      have hw1 : IntKind.i64.wrap ((i : Int) + 1) = ((i + 1 : Nat) : Int) := by rw [wrap64 (by omega) (by omega)]; omega
      have e1 := wSum_take Tx.w xs h
      have e2 := wSum_le Tx.w xs (i + 1)
      simp -implicitDefEqProofs only [go_sem, row_getD _ _ h, Tx.row]
      refine ⟨⟨by omega, by omega⟩, ?_⟩
      have hG : xs[i].size ≤ 140737488351232 := hsG _ (List.getElem_mem h)
      have hwi : Tx.w xs[i] = xs[i].size := rfl
      have hsb : IntKind.i64.wrap (n - xs.length - wSum Tx.w (xs.take i) - ((xs[i].size : Nat) : Int)) = n - xs.length - wSum Tx.w (xs.take i) - ((xs[i].size : Nat) : Int) := wrap64 (by omega) (by omega)
      simp -implicitDefEqProofs only [go_sem, hsb]
      refine BrA_i (fun h3 => ?_) (fun h3 => ?_) <;> simp -implicitDefEqProofs only [go_sem]
      · have h3 : n - xs.length - wSum Tx.w (xs.take i) < Tx.w xs[i] := by have := of_decide_eq_true h3; omega
        have : n < wAll Tx.w xs := by omega
        simp [cutM, this]
      · have h3 : ¬ n - xs.length - wSum Tx.w (xs.take i) < Tx.w xs[i] := by have := of_decide_eq_false h3; omega
        refine .to [] (i + 1) rfl ?_ ?_ (by omega) ⟨h, by omega⟩ <;> (try simp -implicitDefEqProofs only [go_sem, LeTs_undef, LeTs_same, LeTs_nil, hw1, hsb, e1])
        refine LeTs_cons _ _ _ _ ?_ ?_
        · congr 2; omega
        · simp -implicitDefEqProofs only [go_sem, LeTs_undef, LeTs_same, LeTs_nil]
    · simp -implicitDefEqProofs only [go_sem]
      have h : i = xs.length := by simp at h; omega
      subst h
      rw [List.take_length] at hz ⊢
      have : ¬ n < wAll Tx.w xs := by omega
      simp only [cutM, this, if_false]
      congr 2
      omega
end Go.Proofs.YtgkmbbiebmamaaaDoor.Am
namespace Go.Proofs.YtgkmbbiebmamaaaDoor.Am
open Go
set_option maxRecDepth 100000
set_option linter.unusedSimpArgs false
set_option linter.unusedVariables false
theorem p_toStringS : Plain Tryd.prog 20 := ⟨_, Tryd.func20, rfl, by decide⟩
theorem s_toStringS (xs : List Tx) (hx : xs.length ≤ 1048576) : Spec Tryd.prog 20 [.t (.list false 1 (xs.map Tx.row))] (fun r => r = .own (.list true 1 (xs.map Tx.row))) := by
  refine Spec.of tysOk mixed Tryd.func20 rfl (by decide) ?_
  simp -implicitDefEqProofs only [go_sem, Tryd.f20]
  refine ⟨⟨by omega, by unfold roomy; omega⟩, ?_⟩
  refine LoopW.slots (α := Nat) (fun i => [(4, I i)]) (fun i => [(56, .rows 1 (fillR Tx.row [T.str ⟨#[]⟩] xs i))]) (fun i => xs.length - i) (fun i => i ≤ xs.length) 0 rfl (by simp -implicitDefEqProofs only [go_sem, fill_0]) (by omega) ?_
  intro i hi
  simp -implicitDefEqProofs only [go_sem]
  refine BrA_i (fun h => ?_) (fun h => ?_)
  · have h : i < xs.length := by simp at h; omega
    have hw1 : IntKind.i64.wrap ((i : Int) + 1) = ((i + 1 : Nat) : Int) := by rw [wrap64 (by omega) (by omega)]; omega
    simp -implicitDefEqProofs only [go_sem, row_getD _ _ h, Tx.row]
    refine ⟨⟨by omega, by omega⟩, ?_⟩
    simp -implicitDefEqProofs only [go_sem, fill_len _ _ _ hi, fill_getD _ _ _ h]
    have e := fill_set Tx.row [T.str ⟨#[]⟩] xs h
    simp only [Tx.row] at e
    refine ⟨⟨by omega, by omega⟩, h, .to [] (i + 1) rfl ?_ ?_ (by omega) h⟩ <;> simp -implicitDefEqProofs only [go_sem, LeTs_undef, LeTs_same, LeTs_nil, hw1, e]
  · simp -implicitDefEqProofs only [go_sem]
    have h : i = xs.length := by simp at h; omega
    subst h
    rw [fill_all]
    try exact ⟨by decide, rfl⟩
end Go.Proofs.YtgkmbbiebmamaaaDoor.Am
namespace Go.Proofs.YtgkmbbiebmamaaaDoor.Am
open Go
set_option maxRecDepth 100000
set_option linter.unusedSimpArgs false
set_option linter.unusedVariables false
theorem p_eqStringS : Plain Tryd.prog 22 := ⟨_, Tryd.func22, rfl, by decide⟩
theorem s_eqStringS (xs ys : List Tx) (hx : xs.length < 4611686018427387904) : Spec Tryd.prog 22 [.t (.list false 1 (xs.map Tx.row)), .t (.list false 1 (ys.map Tx.row))] (fun r => r = Bo (decide (xs = ys))) := by
  refine Spec.of tysOk mixed Tryd.func22 rfl (by decide) ?_
  simp -implicitDefEqProofs only [go_sem, Tryd.f22]
  refine BrA_i (fun h => ?_) (fun h => ?_) <;> simp -implicitDefEqProofs only [go_sem]
  · have hl : xs.length = ys.length := by simp at h; omega
    refine LoopW.slots (α := Nat) (fun i => [(5, I i)]) (fun _ => []) (fun i => xs.length - i) (fun i => i ≤ xs.length ∧ ∀ j (h : j < xs.length), j < i → xs[j] = ys[j]) 0 rfl rfl (by simp) ?_
    rintro i ⟨hi, hz⟩
    simp -implicitDefEqProofs only [go_sem]
    refine BrA_i (fun h => ?_) (fun h => ?_)
    · have h : i < xs.length := by simp at h; omega
      have h' : i < ys.length := by omega
      have hw1 : IntKind.i64.wrap ((i : Int) + 1) = ((i + 1 : Nat) : Int) := by rw [wrap64 (by omega) (by omega)]; omega
      simp -implicitDefEqProofs only [go_sem]
      refine RegD_of sch_22_6 tysOk (by kernel_rfl) ?_
      simp -implicitDefEqProofs only [go_sem, row_getD _ _ h, row_getD _ _ h', Tx.row]
      refine ⟨⟨by omega, by omega⟩, ⟨by omega, by omega⟩, ?_⟩
      refine BrA_i (fun h1 => ?_) (fun h1 => ?_) <;> simp -implicitDefEqProofs only [go_sem]
      · refine .to [] (i + 1) rfl ?_ ?_ (by omega) ⟨h, fun j hj hl => ?_⟩ <;> (try simp -implicitDefEqProofs only [go_sem, LeTs_undef, LeTs_same, LeTs_nil, hw1])
        rcases Nat.lt_succ_iff_lt_or_eq.1 hl with hl | rfl
        · exact hz j hj hl
        · simpa using h1
      · have : xs ≠ ys := fun e => by subst e; simp at h1
        simp [this]
    · simp -implicitDefEqProofs only [go_sem]
      have : xs = ys := List.ext_getElem hl fun j h1 h2 => hz j h1 (by simp at h; omega)
      simp [this]
  · have : xs ≠ ys := fun e => by subst e; simp at h
    simp [this]
end Go.Proofs.YtgkmbbiebmamaaaDoor.Am
namespace Go.Proofs.YtgkmbbiebmamaaaDoor.Am
open Go
set_option maxRecDepth 100000
set_option linter.unusedSimpArgs false
set_option linter.unusedVariables false
def Pr.mw (x : Pr) : Nat := 2
def Pr.m (x : Pr) (k : Int) : Pr := ⟨mt (k), mt (k + 1)⟩
def It.mw (x : It) : Nat := 2 + wSum Pr.mw x.fields
def It.m (x : It) (k : Int) : It := ⟨⟨k, k + 1⟩, mkAll Pr.m Pr.mw x.fields (k + 2)⟩
def Wt.mw (x : Wt) : Nat := 5
def Wt.m (x : Wt) (k : Int) : Wt := ⟨⟨k, k + 1⟩, mt (k + 2), k + 3, k + 4⟩
def Gr.mw (x : Gr) : Nat := 3 + wSum Wt.mw x.waits
def Gr.m (x : Gr) (k : Int) : Gr := ⟨mt (k), ⟨k + 1, k + 2⟩, mkAll Wt.m Wt.mw x.waits (k + 3)⟩
end Go.Proofs.YtgkmbbiebmamaaaDoor.Am
namespace Go.Proofs.YtgkmbbiebmamaaaDoor.Am
open Go
set_option maxRecDepth 100000
set_option linter.unusedSimpArgs false
set_option linter.unusedVariables false
def Tx.mw (x : Tx) : Nat := 1
def Tx.m (x : Tx) (k : Int) : Tx := mt (k)
theorem p_markStringS : Plain Tryd.prog 23 := ⟨_, Tryd.func23, rfl, by decide⟩
theorem s_markStringS (xs : List Tx) (k : Int) (hk : 0 ≤ k) (hb : k + (wSum Tx.mw xs : Nat) < 10000000000000000) (hx : xs.length < 10000000000000000) : SpecO Tryd.prog 23 [.refw 9000, I k] [(9000, .rows 1 (xs.map Tx.row))]
    (fun r h => r = I (k + (wSum Tx.mw xs : Nat)) ∧ h = [(9000, .rows 1 ((mkAll Tx.m Tx.mw xs k).map Tx.row))]) := by
  refine SpecO.of tysOk mixed Tryd.func23 rfl (by decide) ?_
  have hl : ((mkAll Tx.m Tx.mw xs k).map Tx.row).length = (xs.map Tx.row).length := by rw [List.length_map, List.length_map, mkAll_len]
  simp -implicitDefEqProofs only [go_sem, Tryd.f23]
  refine LoopW.slotsL (α := Nat) (fun i => [(5, I i), (1, I (k + (wSum Tx.mw (xs.take i) : Nat)))]) (fun i => [(9000, .rows 1 (mixR ((mkAll Tx.m Tx.mw xs k).map Tx.row) (xs.map Tx.row) i))]) (fun i => xs.length - i) (fun i => i ≤ xs.length) 0 ?_ ?_ (by omega) ?_
  · simp -implicitDefEqProofs only [go_sem, LeTs_undef, LeTs_same, LeTs_nil]
    simp [LeTs, wSum]
  · simp -implicitDefEqProofs only [go_sem, mix_0]
  intro i hi
  have hw := wSum_le Tx.mw xs i
  have hml : (mixR ((mkAll Tx.m Tx.mw xs k).map Tx.row) (xs.map Tx.row) i).length = xs.length := by rw [mix_len hl (by simpa using hi), List.length_map]
  simp -implicitDefEqProofs only [go_sem, hml]
  refine BrA_i (fun h => ?_) (fun h => ?_) <;> simp -implicitDefEqProofs only [go_sem]
  · have h : i < xs.length := by simp at h; omega
    have hw1 := wSum_take Tx.mw xs h
    have hw2 := wSum_le Tx.mw xs (i + 1)
    obtain ⟨K, hK⟩ : ∃ K : Int, K = k + (wSum Tx.mw (xs.take i) : Nat) := ⟨_, rfl⟩
    have hK1 : k + (wSum Tx.mw (xs.take (i + 1)) : Nat) = K + (Tx.mw xs[i] : Nat) := by rw [hw1, hK]; omega
    rw [← hK]
    have hmw : Tx.mw xs[i] = 1 := rfl
    have h0i : (0 : Int) ≤ i := by omega
    have h1i : (i : Int) < xs.length := by omega
    have hg : (mixR ((mkAll Tx.m Tx.mw xs k).map Tx.row) (xs.map Tx.row) i).getD i [] = [.str xs[i]] := by rw [mix_getD hl (by simpa using h), row_getD _ _ h]; rfl
    have hn : ((mkAll Tx.m Tx.mw xs k).map Tx.row).getD i [] = [.str (mt (K))] := by rw [mkAll_getD _ _ _ _ _ h, ← hK]; rfl
    have hst := mix_set hl (i := i) (by simpa using h)
    rw [hn] at hst
    have hsg : ∀ r, ((mixR ((mkAll Tx.m Tx.mw xs k).map Tx.row) (xs.map Tx.row) i).set i r).getD i [] = r := fun r => set_getD (by omega) r
    have wi : IntKind.i64.wrap ((i : Int) + 1) = ((i + 1 : Nat) : Int) := by rw [wrap64 (by omega) (by omega)]; omega
    have w0 : IntKind.i64.wrap (K + 1) = K + 1 := by rw [wrap64 (by omega) (by omega)]
    simp -implicitDefEqProofs only [go_sem, hml, h0i, h1i, h, hg, hsg, wi, w0]
    refine .one (s_markText _ (by omega)) p_markText rfl trivial ?_
    simp -implicitDefEqProofs only [go_sem, hml, h0i, h1i, h, hg, hsg, wi, w0]
    refine .to [] (i + 1) rfl ?_ ?_ (by omega) (by omega)
    · simp -implicitDefEqProofs only [go_sem, LeTs_undef, LeTs_same, LeTs_nil, hK1, hmw]
      try simp [LeTs]
      try omega
    · try simp -implicitDefEqProofs only [go_sem, hst]
  · have h : i = xs.length := by simp at h; omega
    subst h
    have hm : mixR ((mkAll Tx.m Tx.mw xs k).map Tx.row) (xs.map Tx.row) xs.length = ((mkAll Tx.m Tx.mw xs k).map Tx.row) := by
      have := mix_all hl; rwa [List.length_map] at this
    simp -implicitDefEqProofs only [go_sem, hm, List.take_length, mkAll_len]
theorem p_heldStringS : Plain Tryd.prog 24 := ⟨_, Tryd.func24, rfl, by decide⟩
theorem s_heldStringS (xs : List Tx) (k : Int) (hk : 0 ≤ k) (hb : k + (wSum Tx.mw xs : Nat) < 10000000000000000) (hx : xs.length < 10000000000000000) : Spec Tryd.prog 24 [.t (.list false 1 ((mkAll Tx.m Tx.mw xs k).map Tx.row)), I k]
    (fun r => r = I (k + (wSum Tx.mw xs : Nat))) := by
  refine Spec.of tysOk mixed Tryd.func24 rfl (by decide) ?_
  simp -implicitDefEqProofs only [go_sem, Tryd.f24, mkAll_len]
  refine LoopW.slotsL (α := Nat) (fun i => [(5, I i), (1, I (k + (wSum Tx.mw (xs.take i) : Nat)))]) (fun i => []) (fun i => xs.length - i) (fun i => i ≤ xs.length) 0 ?_ rfl (by omega) ?_
  · simp -implicitDefEqProofs only [go_sem, LeTs_undef, LeTs_same, LeTs_nil]
    simp [LeTs, wSum]
  intro i hi
  have hw := wSum_le Tx.mw xs i
  simp -implicitDefEqProofs only [go_sem, mkAll_len]
  refine BrA_i (fun h => ?_) (fun h => ?_) <;> simp -implicitDefEqProofs only [go_sem]
  · have h : i < xs.length := by simp at h; omega
    have hw1 := wSum_take Tx.mw xs h
    have hw2 := wSum_le Tx.mw xs (i + 1)
    obtain ⟨K, hK⟩ : ∃ K : Int, K = k + (wSum Tx.mw (xs.take i) : Nat) := ⟨_, rfl⟩
    have hK1 : k + (wSum Tx.mw (xs.take (i + 1)) : Nat) = K + (Tx.mw xs[i] : Nat) := by rw [hw1, hK]; omega
    rw [← hK]
    have hmw : Tx.mw xs[i] = 1 := rfl
    have h0i : (0 : Int) ≤ i := by omega
    have h1i : (i : Int) < xs.length := by omega
    have hn : ((mkAll Tx.m Tx.mw xs k).map Tx.row).getD i [] = [.str (mt (K))] := by rw [mkAll_getD _ _ _ _ _ h, ← hK]; rfl
    have wi : IntKind.i64.wrap ((i : Int) + 1) = ((i + 1 : Nat) : Int) := by rw [wrap64 (by omega) (by omega)]; omega
    have w0 : IntKind.i64.wrap (K + 1) = K + 1 := by rw [wrap64 (by omega) (by omega)]
    simp -implicitDefEqProofs only [go_sem, mkAll_len, h0i, h1i, h, hn, wi, eq_self, decide_true, beq_self_eq_true, Bool.not_true, w0]
    (first | refine RegD_of sch_24_4 tysOk (by decide +kernel) ?_)
    simp -implicitDefEqProofs only [go_sem, mkAll_len, h0i, h1i, h, hn, wi, eq_self, decide_true, beq_self_eq_true, Bool.not_true, w0]
    refine .one (s_markText _ (by omega)) p_markText rfl trivial ?_
    simp -implicitDefEqProofs only [go_sem, mkAll_len, h0i, h1i, h, hn, wi, eq_self, decide_true, beq_self_eq_true, Bool.not_true, w0]
    refine .to [] (i + 1) rfl ?_ rfl (by omega) (by omega)
    · simp -implicitDefEqProofs only [go_sem, LeTs_undef, LeTs_same, LeTs_nil, hK1, hmw]
      try simp [LeTs]
      try omega
  · have h : i = xs.length := by simp at h; omega
    subst h
    simp -implicitDefEqProofs only [go_sem, List.take_length, mkAll_len]
def Or.mw (x : Or) : Nat := wSum Tx.mw x
def Or.m (x : Or) (k : Int) : Or := mkAll Tx.m Tx.mw x (k)
def Sc.mw (x : Sc) : Nat := 2
def Sc.m (x : Sc) (k : Int) : Sc := ⟨mt (k), k + 1⟩
def En.mw (x : En) : Nat := 4 + wSum Tx.mw x.list + wSum Sc.mw x.scores + wSum Pr.mw x.fields
def En.m (x : En) (k : Int) : En := ⟨mt (k), k + 1, k + 2, mt (k + 3), mkAll Tx.m Tx.mw x.list (k + 4), mkAll Sc.m Sc.mw x.scores (k + 4 + (wSum Tx.mw x.list : Nat)), mkAll Pr.m Pr.mw x.fields (k + 4 + (wSum Tx.mw x.list : Nat) + (wSum Sc.mw x.scores : Nat))⟩
def Cl.mw (x : Cl) : Nat := 3 + wSum Or.mw x.queue + wSum Tx.mw x.watch + wSum Tx.mw x.hears
def Cl.m (x : Cl) (k : Int) : Cl := ⟨decide ((k).tmod 3 = 0), decide ((k + 1).tmod 3 = 0), mkAll Or.m Or.mw x.queue (k + 2), mkAll Tx.m Tx.mw x.watch (k + 2 + (wSum Or.mw x.queue : Nat)), decide ((k + 2 + (wSum Or.mw x.queue : Nat) + (wSum Tx.mw x.watch : Nat)).tmod 3 = 0), mkAll Tx.m Tx.mw x.hears (k + 3 + (wSum Or.mw x.queue : Nat) + (wSum Tx.mw x.watch : Nat))⟩
def Bs.mw (x : Bs) : Nat := wSum En.mw x.ents
def Bs.m (x : Bs) (k : Int) : Bs := ⟨x.now, mkAll En.m En.mw x.ents (k)⟩
def Sv.mw (x : Sv) : Nat := Bs.mw x.base + wSum Cl.mw x.cls
def Sv.m (x : Sv) (k : Int) : Sv := ⟨Bs.m x.base (k), x.file, mkAll Cl.m Cl.mw x.cls (k + (Bs.mw x.base : Nat))⟩
def Ld.mw (x : Ld) : Nat := Sv.mw x.srv
def Ld.m (x : Ld) (k : Int) : Ld := ⟨Sv.m x.srv (k), x.hist⟩
def Fo.mw (x : Fo) : Nat := Bs.mw x.base
def Fo.m (x : Fo) (k : Int) : Fo := ⟨x.hist, x.text, Bs.m x.base (k)⟩
end Go.Proofs.YtgkmbbiebmamaaaDoor.Am
namespace Go.Proofs.YtgkmbbiebmamaaaDoor.Am
open Go
set_option maxRecDepth 100000
set_option maxHeartbeats 1000000
set_option linter.unusedSimpArgs false
set_option linter.unusedVariables false
theorem all_no {α : Type} {p : α → Bool} {l : List α} {i : Nat} (h : i < l.length) (hp : p l[i] = false) : l.all p = false := by
  cases ha : l.all p
  · rfl
  · have := List.all_eq_true.1 ha _ (List.getElem_mem h)
    rw [hp] at this; cases this
theorem all_yes {α : Type} {p : α → Bool} {l : List α} (h : ∀ i (h : i < l.length), p l[i] = true) : l.all p = true := by
  rw [List.all_eq_true]
  intro x hx
  obtain ⟨i, hi, rfl⟩ := List.mem_iff_getElem.1 hx
  exact h i hi
def txOk (t : Tx) : Bool := decide (t.size ≤ 40)
def textsOkM (l : List Tx) (most : Int) : Bool := l.all txOk && decide ((l.length : Int) ≤ most)
theorem p_textsOk : Plain Tryd.prog 62 := ⟨_, Tryd.func62, rfl, by decide⟩
theorem s_textsOk (l : List Tx) (most : Int) (hs : l.length ≤ 1099511627776) : Spec Tryd.prog 62 [.t (.list false 1 (l.map Tx.row)), I most] (fun r => r = Bo (textsOkM l most)) := by
  refine Spec.of tysOk mixed Tryd.func62 rfl (by decide) ?_
  simp -implicitDefEqProofs only [go_sem, Tryd.f62]
  refine LoopW.slotsM [true, true, false, false, false, false, false, true, true, true, false, false, false, false, false, false, false, false, false, false, false] (α := Nat) (fun i => [(9, I i)]) (fun i => []) (fun i => l.length - i) (fun i => i ≤ l.length ∧ ∀ j (h : j < l.length), j < i → txOk l[j] = true) 0 (by simp -implicitDefEqProofs only [go_sem, LeTs_undef, LeTs_same, LeTs_nil]; try simp [LeTs]) rfl ⟨by omega, fun _ _ h => by omega⟩ ?_
  rintro i ⟨hi, hj⟩
  simp -implicitDefEqProofs only [go_sem]
  refine BrA_i (fun h => ?_) (fun h => ?_) <;> simp -implicitDefEqProofs only [go_sem]
  · skip
    have h : i < l.length := by simp at h; omega
    have h0i : (0 : Int) ≤ i := by omega
    have h1i : (i : Int) < l.length := by omega
    have wi : IntKind.i64.wrap ((i : Int) + 1) = ((i + 1 : Nat) : Int) := by rw [wrap64 (by omega) (by omega)]; omega
    have hr := row_getD Tx.row l h
    simp only [Tx.row] at hr
    simp -implicitDefEqProofs only [go_sem, h, h0i, h1i, hr, wi]
    refine BrA_i (fun h2 => ?_) (fun h2 => ?_) <;> simp -implicitDefEqProofs only [go_sem, wi]
    · rw [textsOkM, all_no h (by have := of_decide_eq_true h2; simp [txOk]; omega)]; rfl
    · refine .to [] (i + 1) rfl ?_ ?_ (by omega) ⟨by omega, fun j hj2 hj3 => by
        by_cases hji : j < i
        · exact hj j hj2 hji
        · obtain rfl : j = i := by omega
          have := of_decide_eq_false h2
          simp [txOk]; omega⟩ <;> simp -implicitDefEqProofs only [go_sem, LeTs_undef, LeTs_same, LeTs_nil, wi]
  · have h : i = l.length := by simp at h; omega
    subst h
    rw [textsOkM, all_yes fun j h => hj j h h]; rfl
def listOkM (l : List Tx) : Bool := textsOkM l 16
theorem p_listOk : Plain Tryd.prog 44 := ⟨_, Tryd.func44, rfl, by decide⟩
theorem s_listOk (l : List Tx) (hs : l.length ≤ 1099511627776) : Spec Tryd.prog 44 [.t (.list false 1 (l.map Tx.row))] (fun r => r = Bo (listOkM l)) := by
  refine Spec.of tysOk mixed Tryd.func44 rfl (by decide) ?_
  simp -implicitDefEqProofs only [go_sem, Tryd.f44]
  refine CallW.one (s_textsOk l 16 hs) p_textsOk (by first | (simp -implicitDefEqProofs only [go_sem]; done) | ((conv => lhs; simp -implicitDefEqProofs only [go_sem]); done) | (simp -implicitDefEqProofs only [go_sem]; rfl) | rfl) (by first | trivial | (simp [DeepR, DeepV, DeepVs, DeepC, DeepCs, T.scal]; done)) ?_
  simp -implicitDefEqProofs only [go_sem]
  rfl
theorem p_l2Texts : Plain Tryd.prog 39 := ⟨_, Tryd.func39, rfl, by decide⟩
theorem s_l2Texts (l : List Tx) (hs : l.length ≤ 1099511627776) : Spec Tryd.prog 39 [.t (.list false 1 (l.map Tx.row))] (fun r => r = Bo (listOkM l)) := by
  refine Spec.of tysOk mixed Tryd.func39 rfl (by decide) ?_
  simp -implicitDefEqProofs only [go_sem, Tryd.f39]
  refine LoopW.slotsM [true, false, false, true, false, false, false, false, false, false, false, false, false, false, false, false, false, false, false] (α := Nat) (fun i => [(3, I i)]) (fun i => []) (fun i => l.length - i) (fun i => i ≤ l.length ∧ ∀ j (h : j < l.length), j < i → txOk l[j] = true) 0 (by simp -implicitDefEqProofs only [go_sem, LeTs_undef, LeTs_same, LeTs_nil]; try simp [LeTs]) rfl ⟨by omega, fun _ _ h => by omega⟩ ?_
  rintro i ⟨hi, hj⟩
  simp -implicitDefEqProofs only [go_sem]
  refine BrA_i (fun h => ?_) (fun h => ?_) <;> simp -implicitDefEqProofs only [go_sem]
  · skip
    have h : i < l.length := by simp at h; omega
    have h0i : (0 : Int) ≤ i := by omega
    have h1i : (i : Int) < l.length := by omega
    have wi : IntKind.i64.wrap ((i : Int) + 1) = ((i + 1 : Nat) : Int) := by rw [wrap64 (by omega) (by omega)]; omega
    have hr := row_getD Tx.row l h
    simp only [Tx.row] at hr
    simp -implicitDefEqProofs only [go_sem, h, h0i, h1i, hr, wi]
    refine BrA_i (fun h2 => ?_) (fun h2 => ?_) <;> simp -implicitDefEqProofs only [go_sem, wi]
    · rw [listOkM, textsOkM, all_no h (by have := of_decide_eq_true h2; simp [txOk]; omega)]; rfl
    · refine .to [] (i + 1) rfl ?_ ?_ (by omega) ⟨by omega, fun j hj2 hj3 => by
        by_cases hji : j < i
        · exact hj j hj2 hji
        · obtain rfl : j = i := by omega
          have := of_decide_eq_false h2
          simp [txOk]; omega⟩ <;> simp -implicitDefEqProofs only [go_sem, LeTs_undef, LeTs_same, LeTs_nil, wi]
  · have h : i = l.length := by simp at h; omega
    subst h
    rw [listOkM, textsOkM, all_yes fun j h => hj j h h]; rfl
theorem shared_Tx (l : List Tx) : sharedRows (l.map Tx.row) = l.map Tx.row := by
  unfold sharedRows
  rw [List.map_map]; exact List.map_congr_left fun x _ => rfl
theorem p_l2Copy : Plain Tryd.prog 41 := ⟨_, Tryd.func41, rfl, by decide⟩
theorem s_l2Copy (l : List Tx) (hs : l.length ≤ 1048576) : Spec Tryd.prog 41 [.t (.list false 1 (l.map Tx.row))] (fun r => r = .own (.list true 1 (l.map Tx.row))) := by
  refine Spec.of tysOk mixed Tryd.func41 rfl (by decide) ?_
  simp -implicitDefEqProofs only [go_sem, Tryd.f41, shared_Tx]
  unfold roomy; omega
theorem p_copied : Plain Tryd.prog 45 := ⟨_, Tryd.func45, rfl, by decide⟩
theorem s_copied (l : List Tx) (hs : l.length ≤ 1048576) : Spec Tryd.prog 45 [.t (.list false 1 (l.map Tx.row))] (fun r => r = .own (.list true 1 (l.map Tx.row))) := by
  refine Spec.of tysOk mixed Tryd.func45 rfl (by decide) ?_
  simp -implicitDefEqProofs only [go_sem, Tryd.f45, shared_Tx]
  unfold roomy; omega
theorem p_l2Turn : Plain Tryd.prog 43 := ⟨_, Tryd.func43, rfl, by decide⟩
theorem s_l2Turn (l : List Tx) (hs : l.length ≤ 1048576) : Spec Tryd.prog 43 [.t (.list false 1 (l.map Tx.row))] (fun r => r = .own (.list true 1 (l.reverse.map Tx.row))) := by
  refine Spec.of tysOk mixed Tryd.func43 rfl (by decide) ?_
  simp -implicitDefEqProofs only [go_sem, Tryd.f43]
  have w0 : IntKind.i64.wrap ((l.length : Int) - 1) = (l.length : Int) - 1 := wrap64 (by omega) (by omega)
  simp -implicitDefEqProofs only [go_sem, w0]
  refine LoopW.slotsM [true, false, false, true, true, false, false, false, false, false, false, false, false, false, false, false, false, false, false, false, false] (α := Nat) (fun k => [(4, I ((k : Int) - 1))]) (fun k => [(40, .rows 1 ((l.drop k).reverse.map Tx.row))]) (fun k => k) (fun k => k ≤ l.length) l.length (by simp -implicitDefEqProofs only [go_sem, LeTs_undef, LeTs_same, LeTs_nil]; try simp [LeTs]) (by simp; rfl) (by omega) ?_
  intro k hk
  simp -implicitDefEqProofs only [go_sem]
  refine BrA_i (fun h => ?_) (fun h => ?_) <;> simp -implicitDefEqProofs only [go_sem]
  · have h : 0 < k := by have := of_decide_eq_true h; omega
    obtain ⟨i, rfl⟩ : ∃ i, k = i + 1 := ⟨k - 1, by omega⟩
    have hi : i < l.length := by omega
    have e0 : ((i + 1 : Nat) : Int) - 1 = (i : Int) := by omega
    have h0i : (0 : Int) ≤ i := by omega
    have h1i : (i : Int) < l.length := by omega
    have hr := row_getD Tx.row l hi
    simp only [Tx.row] at hr
    have wi : IntKind.i64.wrap ((i : Int) - 1) = (i : Int) - 1 := wrap64 (by omega) (by omega)
    simp -implicitDefEqProofs only [go_sem, e0, h0i, h1i, hr, hi]
    have hlen : (l.drop (i + 1)).length ≤ 1048576 := by rw [List.length_drop]; omega
    have ed : (l.drop i).reverse = (l.drop (i + 1)).reverse ++ [l[i]] := by
      rw [List.drop_eq_getElem_cons hi, List.reverse_cons]
    refine ⟨by unfold roomy; rw [List.length_reverse]; omega, ?_⟩
    refine .to [144, 152] i rfl ?_ ?_ (by omega) (by omega)
    · simp -implicitDefEqProofs only [go_sem, LeTs_undef, LeTs_same, LeTs_nil, wi]
    · simp -implicitDefEqProofs only [go_sem, ed, List.map_append, List.map_cons, List.map_nil, Tx.row]
  · have h : k = 0 := by have := of_decide_eq_false h; omega
    subst h
    simp
end Go.Proofs.YtgkmbbiebmamaaaDoor.Am
namespace Go.Proofs.YtgkmbbiebmamaaaDoor.Am
open Go
set_option maxRecDepth 100000
set_option maxHeartbeats 1000000
set_option linter.unusedSimpArgs false
set_option linter.unusedVariables false
noncomputable def lessT (nums : Bool) (x y : Tx) : Bool := if nums = true ∧ (intM x).1 ≠ (intM y).1 then decide ((intM x).1 < (intM y).1) else bytesLt x y
theorem p_l8Less : Plain Tryd.prog 42 := ⟨_, Tryd.func42, rfl, by decide⟩
theorem s_l8Less (x y : Tx) (nums : Bool) (hx : x.size ≤ 1099511627776) (hy : y.size ≤ 1099511627776) : Spec Tryd.prog 42 [.t (.str x), .t (.str y), Bo nums] (fun r => r = Bo (lessT nums x y)) := by
  refine Spec.of tysOk mixed Tryd.func42 rfl (by decide) ?_
  simp -implicitDefEqProofs only [go_sem, Tryd.f42]
  cases nums
  · simp -implicitDefEqProofs only [go_sem]
    simp [lessT]
  · simp -implicitDefEqProofs only [go_sem]
    refine CallW.one (s_sIntGet x hx) p_sIntGet (by first | (simp -implicitDefEqProofs only [go_sem]; done) | ((conv => lhs; simp -implicitDefEqProofs only [go_sem]); done) | (simp -implicitDefEqProofs only [go_sem]; rfl) | rfl) (by first | trivial | (simp [DeepR, DeepV, DeepVs, DeepC, DeepCs, T.scal]; done)) ?_
    simp -implicitDefEqProofs only [go_sem]
    refine CallW.one (s_sIntGet y hy) p_sIntGet (by first | (simp -implicitDefEqProofs only [go_sem]; done) | ((conv => lhs; simp -implicitDefEqProofs only [go_sem]); done) | (simp -implicitDefEqProofs only [go_sem]; rfl) | rfl) (by first | trivial | (simp [DeepR, DeepV, DeepVs, DeepC, DeepCs, T.scal]; done)) ?_
    simp -implicitDefEqProofs only [go_sem]
    refine BrA_i (fun h => ?_) (fun h => ?_) <;> simp -implicitDefEqProofs only [go_sem]
    · have h := of_decide_eq_true h
      simp [lessT, h]
    · have h := of_decide_eq_false h
      simp [lessT, h]
end Go.Proofs.YtgkmbbiebmamaaaDoor.Am
namespace Go.Proofs.YtgkmbbiebmamaaaDoor.Am
open Go
set_option maxRecDepth 100000
set_option maxHeartbeats 1000000
set_option linter.unusedSimpArgs false
set_option linter.unusedVariables false
noncomputable def plT (nums : Bool) : List Tx → Tx → Nat
  | [], _ => 0
  | y :: l, x => if lessT nums x y = true then 0 else plT nums l x + 1
noncomputable def insT (nums : Bool) (l : List Tx) (x : Tx) : List Tx := l.take (plT nums l x) ++ x :: l.drop (plT nums l x)
theorem plT_le (nums : Bool) : ∀ (l : List Tx) (x : Tx), plT nums l x ≤ l.length
  | [], _ => Nat.le_refl _
  | y :: l, x => by
    have := plT_le nums l x
    simp only [plT, List.length_cons]; split <;> omega
theorem plT_of {nums : Bool} {x : Tx} : ∀ {l : List Tx} {i : Nat}, i ≤ l.length → (∀ j (h : j < l.length), j < i → lessT nums x l[j] = false) → (∀ h : i < l.length, lessT nums x l[i] = true) → plT nums l x = i
  | [], i, hi, _, _ => by simp at hi; simp [plT, hi]
  | y :: l, 0, _, _, hs => by
    have := hs (by simp)
    simp only [List.getElem_cons_zero] at this
    simp [plT, this]
  | y :: l, i + 1, hi, hj, hs => by
    have h0 := hj 0 (by simp) (by omega)
    simp only [List.getElem_cons_zero] at h0
    simp only [plT, h0, Bool.false_eq_true, if_false]
    rw [plT_of (l := l) (i := i) (by simpa using hi) (fun j h hji => by have := hj (j + 1) (by simpa using h) (by omega); rwa [List.getElem_cons_succ] at this) (fun h => by have := hs (by simpa using h); rwa [List.getElem_cons_succ] at this)]
theorem insT_len (nums : Bool) (l : List Tx) (x : Tx) : (insT nums l x).length = l.length + 1 := by
  have := plT_le nums l x
  simp only [insT, List.length_append, List.length_take, List.length_cons, List.length_drop]; omega
theorem deep_txT (l : List Tx) : Deep (.list true 1 (l.map Tx.row)) := .list _ _ fun r hr x hx => by
  obtain ⟨y, _, rfl⟩ := List.mem_map.1 hr
  simp only [Tx.row, List.mem_cons, List.not_mem_nil, or_false] at hx
  subst hx; exact .sc _ trivial
theorem insT_mem {nums : Bool} {l : List Tx} {x y : Tx} (h : y ∈ insT nums l x) : y = x ∨ y ∈ l := by
  unfold insT at h
  rcases List.mem_append.1 h with h | h
  · exact .inr (List.mem_of_mem_take h)
  · rcases List.mem_cons.1 h with h | h
    · exact .inl h
    · exact .inr (List.mem_of_mem_drop h)
theorem fold_mem {nums : Bool} {y : Tx} : ∀ {l acc : List Tx}, y ∈ l.foldl (insT nums) acc → y ∈ acc ∨ y ∈ l
  | [], acc, h => .inl h
  | x :: l, acc, h => by
    rw [List.foldl_cons] at h
    rcases fold_mem h with h | h
    · rcases insT_mem h with h | h
      · exact .inr (by simp [h])
      · exact .inl h
    · exact .inr (by simp [h])
noncomputable def sortT (nums : Bool) (l : List Tx) : List Tx := l.foldl (insT nums) []
theorem sortT_len (nums : Bool) : ∀ (l acc : List Tx), (l.foldl (insT nums) acc).length = acc.length + l.length
  | [], acc => by simp
  | x :: l, acc => by rw [List.foldl_cons, sortT_len nums l, insT_len, List.length_cons]; omega
noncomputable def sortM (l : List Tx) (nums down : Bool) : List Tx × Bool :=
  if listOkM l = true then (if nums = true ∧ (l.all fun x => (intM x).2) = false then (l, false) else (if down = true then (sortT nums l).reverse else sortT nums l, true)) else ([], false)
abbrev sortTR (x : List Tx × Bool) : AV := .tup [.own (.list true 1 (x.1.map Tx.row)), Bo x.2]
theorem listOkM_len {l : List Tx} (h : listOkM l = true) : l.length ≤ 16 := by
  unfold listOkM textsOkM at h
  simp only [Bool.and_eq_true, decide_eq_true_eq] at h
  omega
theorem listOkM_at {l : List Tx} (h : listOkM l = true) {i : Nat} (hi : i < l.length) : l[i].size ≤ 40 := by
  unfold listOkM textsOkM at h
  simp only [Bool.and_eq_true, decide_eq_true_eq] at h
  have := List.all_eq_true.1 h.1 _ (List.getElem_mem hi)
  simpa [txOk] using this
theorem p_sListSort : Plain Tryd.prog 19 := ⟨_, Tryd.func19, rfl, by decide⟩
theorem s_sListSort (l : List Tx) (nums down : Bool) (hs : l.length ≤ 1048576) : Spec Tryd.prog 19 [.t (.list false 1 (l.map Tx.row)), Bo nums, Bo down] (fun r => r = sortTR (sortM l nums down)) := by
  refine Spec.of tysOk mixed Tryd.func19 rfl (by decide) ?_
  simp -implicitDefEqProofs only [go_sem, Tryd.f19]
  refine CallW.one (s_l2Texts l (by omega)) p_l2Texts (by first | (simp -implicitDefEqProofs only [go_sem]; done) | ((conv => lhs; simp -implicitDefEqProofs only [go_sem]); done) | (simp -implicitDefEqProofs only [go_sem]; rfl) | rfl) (by first | trivial | (simp [DeepR, DeepV, DeepVs, DeepC, DeepCs, T.scal]; done)) ?_
  cases hok : listOkM l
  · simp -implicitDefEqProofs only [go_sem, hok, Bool.not_false]
    simp [sortM, hok]
  have h16 := listOkM_len hok
  simp -implicitDefEqProofs only [go_sem, hok, Bool.not_true]
  refine LoopW.slotsM [true, true, true, false, false, false, false, false, true, true, false, false, false, false, false, false, false, false, false, false, false, false, false, false, false, false, false, false, false, false, false, false, false, false, false, false, false, false, false, false, false, false, false, false, false, false, false, false, false, false, false, false, false, false, false, false, false, false, false, false, false, false, false, false, false, false, false, false, false, false, false, false, false, false, false, false, false] (α := Nat) (fun i => [(9, I i)]) (fun i => [(104, .rows 1 (((l.take i).foldl (insT nums) []).map Tx.row))]) (fun i => l.length - i) (fun i => i ≤ l.length ∧ (nums = true → ∀ j (h : j < l.length), j < i → (intM l[j]).2 = true)) 0 (by simp -implicitDefEqProofs only [go_sem, LeTs_undef, LeTs_same, LeTs_nil]; try simp [LeTs]) rfl ⟨by omega, fun _ _ _ h => by omega⟩ ?_
  rintro i ⟨hi, hz⟩
  simp -implicitDefEqProofs only [go_sem]
  refine BrA_i (fun h => ?_) (fun h => ?_) <;> simp -implicitDefEqProofs only [go_sem]
  · skip
    have h : i < l.length := by simp at h; omega
    have h0i : (0 : Int) ≤ i := by omega
    have h1i : (i : Int) < l.length := by omega
    have wi : IntKind.i64.wrap ((i : Int) + 1) = ((i + 1 : Nat) : Int) := by rw [wrap64 (by omega) (by omega)]; omega
    have hr := row_getD Tx.row l h
    simp only [Tx.row] at hr
    have h40 := listOkM_at hok h
    obtain ⟨acc, hacc⟩ : ∃ acc, acc = (l.take i).foldl (insT nums) [] := ⟨_, rfl⟩
    have hal : acc.length = i := by rw [hacc, sortT_len, List.length_take]; simp; omega
    rw [← hacc]
    simp -implicitDefEqProofs only [go_sem, h, h0i, h1i, hr]
    refine CallW.one (s_sIntGet (l[i]) (by omega)) p_sIntGet (by first | (simp -implicitDefEqProofs only [go_sem]; done) | ((conv => lhs; simp -implicitDefEqProofs only [go_sem]); done) | (simp -implicitDefEqProofs only [go_sem]; rfl) | rfl) (by first | trivial | (simp [DeepR, DeepV, DeepVs, DeepC, DeepCs, T.scal]; done)) ?_
    have all : nums = true → (intM l[i]).2 = true → ∀ j (h : j < l.length), j < i + 1 → (intM l[j]).2 = true := fun hn hi2 j h5 h6 => by
      by_cases e : j < i
      · exact hz hn j h5 e
      · obtain rfl : j = i := by omega
        exact hi2
    have bad : nums = true → (intM l[i]).2 = false → sortM l nums down = (l, false) := fun hn hf => by
      have hall : (l.all fun x => (intM x).2) = false := by
        rw [← Bool.not_eq_true, List.all_eq_true]
        intro hc
        have := hc _ (List.getElem_mem h)
        rw [hf] at this; cases this
      unfold sortM
      rw [if_pos hok, if_pos ⟨hn, hall⟩]
    have next : (nums = true → (intM l[i]).2 = true) → ∀ j (h : j < l.length), nums = true → j < i + 1 → (intM l[j]).2 = true := fun hh j h5 hn h6 => all hn (hh hn) j h5 h6
    obtain ⟨b, hb⟩ : ∃ b, b = (intM l[i]).2 := ⟨_, rfl⟩
    rw [← hb] at bad next ⊢
    clear all hb
    cases nums
    · simp -implicitDefEqProofs only [go_sem]
      have nx := next (by simp)
      have hmx : ∀ x ∈ acc, x.size ≤ 40 := by
        rw [hacc]
        intro x hx
        rcases fold_mem hx with hm | hm
        · cases hm
        · obtain ⟨q, hq, e⟩ := List.getElem_of_mem (List.mem_of_mem_take hm)
          have := listOkM_at hok hq
          rw [e] at this; exact this
      have hsz : ∀ (j : Nat) (hj : j < acc.length), acc[j].size ≤ 40 := fun j hj => hmx _ (List.getElem_mem hj)
      clear bad next
      refine LoopW.slotsM [true, true, true, false, false, false, false, false, true, true, false, false, true, false, false, false, false, false, false, false, false, false, false, false, false, false, false, false, false, false, false, false, false, false, false, false, false, false, false, false, false, false, false, false, false, false, false, false, false, false, false, false, false, false, false, false, false, false, false, false, false, false, false, false, false, false, false, false, false, false, false, false, false, false, false, false, false] (α := Nat) (fun k => [(12, I k)]) (fun k => [(104, .rows 1 (acc.map Tx.row))]) (fun k => acc.length - k) (fun k => k ≤ acc.length ∧ ∀ j (h : j < acc.length), j < k → lessT false l[i] acc[j] = false) 0 (by simp -implicitDefEqProofs only [go_sem, LeTs_undef, LeTs_same, LeTs_nil]; try simp [LeTs]) rfl ⟨by omega, fun _ _ h => by omega⟩ ?_
      rintro k ⟨hk, hj⟩
      have h0k : (0 : Int) ≤ k := by omega
      have hkl : (k : Int) ≤ acc.length := by omega
      have wk : IntKind.i64.wrap ((k : Int) + 1) = ((k + 1 : Nat) : Int) := by rw [wrap64 (by omega) (by omega)]; omega
      have e1 : sharedRows (List.take (k - Int.toNat 0) (List.drop (Int.toNat 0) (List.map Tx.row acc))) = (acc.take k).map Tx.row := by
        rw [show Int.toNat 0 = 0 from rfl, Nat.sub_zero, List.drop_zero, ← List.map_take, shared_Tx]
      have e2 : sharedRows (List.take (acc.length - k) (List.drop k (List.map Tx.row acc))) = (acc.drop k).map Tx.row := by
        rw [← List.map_drop, List.take_of_length_le (by simp), shared_Tx]
      have fin : plT false acc l[i] = k → (acc.take k).map Tx.row ++ [[T.str l[i]]] ++ (acc.drop k).map Tx.row = (insT false acc l[i]).map Tx.row := fun e => by
        rw [insT, e, List.map_append, List.map_cons, List.append_assoc]; rfl
      have ef : (l.take (i + 1)).foldl (insT false) [] = insT false acc l[i] := by
        rw [List.take_add_one, List.getElem?_eq_getElem h, List.foldl_append, ← hacc]; rfl
      simp -implicitDefEqProofs only [go_sem]
      refine RegD_of sch_19_11 tysOk (by kernel_rfl) ?_
      simp -implicitDefEqProofs only [go_sem]
      refine BrA_i (fun h5 => ?_) (fun h5 => ?_) <;> simp -implicitDefEqProofs only [go_sem, h0i, h1i, hr]
      · have h5 : k < acc.length := by have := of_decide_eq_true h5; omega
        have h1k : (k : Int) < acc.length := by omega
        have hrk := row_getD Tx.row acc h5
        simp only [Tx.row] at hrk
        simp -implicitDefEqProofs only [go_sem, h5, h0k, h1k, hrk, h0i, h1i, hr]
        refine CallW.one (s_l8Less (l[i]) (acc[k]) false (by omega) (by have := hsz k h5; omega)) p_l8Less (by first | (simp -implicitDefEqProofs only [go_sem]; done) | ((conv => lhs; simp -implicitDefEqProofs only [go_sem]); done) | (simp -implicitDefEqProofs only [go_sem]; rfl) | rfl) (by first | trivial | (simp [DeepR, DeepV, DeepVs, DeepC, DeepCs, T.scal]; done)) ?_
        cases g : lessT false l[i] acc[k]
        · simp -implicitDefEqProofs only [go_sem, Bool.not_false, wk]
          refine .to [425, 426, 427] (k + 1) rfl ?_ ?_ (by omega) ⟨by omega, fun j hj2 hj3 => by
            by_cases hji : j < k
            · exact hj j hj2 hji
            · obtain rfl : j = k := by omega
              exact g⟩ <;> simp -implicitDefEqProofs only [go_sem, LeTs_undef, LeTs_same, LeTs_nil, wk]
        · simp -implicitDefEqProofs only [go_sem, Bool.not_true]
          have e3 := fin (plT_of hk hj (fun _ => g))
          refine RegD_of sch_19_13 tysOk (by kernel_rfl) ?_
          simp -implicitDefEqProofs only [go_sem, h0k, hkl, h0i, h1i, hr, e1, e2, e3]
          refine ⟨by omega, by unfold roomy; simp; omega, by unfold roomy; simp; omega, by unfold roomy; simp; omega, ?_⟩
          simp -implicitDefEqProofs only [go_sem, wi]
          refine .toR [104] [(464, 104)] (i + 1) rfl rfl ?_ ?_ (by omega) ⟨by omega, fun hn j hj hlt => nx j hj (by first | exact hn.elim | rfl) hlt⟩
          · simp -implicitDefEqProofs only [go_sem, LeTs_undef, LeTs_same, LeTs_nil]
          · simp -implicitDefEqProofs only [go_sem, ef]
      · have h5 : k = acc.length := by have := of_decide_eq_false h5; omega
        have e3 := fin (plT_of hk hj (fun h => by omega))
        refine RegD_of sch_19_13 tysOk (by kernel_rfl) ?_
        simp -implicitDefEqProofs only [go_sem, h0k, hkl, h0i, h1i, hr, e1, e2, e3]
        refine ⟨by omega, by unfold roomy; simp; omega, by unfold roomy; simp; omega, by unfold roomy; simp; omega, ?_⟩
        simp -implicitDefEqProofs only [go_sem, wi]
        refine .toR [104] [(464, 104)] (i + 1) rfl rfl ?_ ?_ (by omega) ⟨by omega, fun hn j hj hlt => nx j hj (by first | exact hn.elim | rfl) hlt⟩
        · simp -implicitDefEqProofs only [go_sem, LeTs_undef, LeTs_same, LeTs_nil]
        · simp -implicitDefEqProofs only [go_sem, ef]
    · cases b
      · simp -implicitDefEqProofs only [go_sem, Bool.not_false]
        refine CallW.onep (s_l2Copy l hs) p_l2Copy (by first | (simp -implicitDefEqProofs only [go_sem]; done) | ((conv => lhs; simp -implicitDefEqProofs only [go_sem]); done) | (simp -implicitDefEqProofs only [go_sem]; rfl) | rfl) rfl ?_
        rw [bad rfl rfl]
        simp -implicitDefEqProofs only [go_sem]
      · simp -implicitDefEqProofs only [go_sem, Bool.not_true]
        have nx := next (by simp)
        have hmx : ∀ x ∈ acc, x.size ≤ 40 := by
          rw [hacc]
          intro x hx
          rcases fold_mem hx with hm | hm
          · cases hm
          · obtain ⟨q, hq, e⟩ := List.getElem_of_mem (List.mem_of_mem_take hm)
            have := listOkM_at hok hq
            rw [e] at this; exact this
        have hsz : ∀ (j : Nat) (hj : j < acc.length), acc[j].size ≤ 40 := fun j hj => hmx _ (List.getElem_mem hj)
        clear bad next
        refine LoopW.slotsM [true, true, true, false, false, false, false, false, true, true, false, false, true, false, false, false, false, false, false, false, false, false, false, false, false, false, false, false, false, false, false, false, false, false, false, false, false, false, false, false, false, false, false, false, false, false, false, false, false, false, false, false, false, false, false, false, false, false, false, false, false, false, false, false, false, false, false, false, false, false, false, false, false, false, false, false, false] (α := Nat) (fun k => [(12, I k)]) (fun k => [(104, .rows 1 (acc.map Tx.row))]) (fun k => acc.length - k) (fun k => k ≤ acc.length ∧ ∀ j (h : j < acc.length), j < k → lessT true l[i] acc[j] = false) 0 (by simp -implicitDefEqProofs only [go_sem, LeTs_undef, LeTs_same, LeTs_nil]; try simp [LeTs]) rfl ⟨by omega, fun _ _ h => by omega⟩ ?_
        rintro k ⟨hk, hj⟩
        have h0k : (0 : Int) ≤ k := by omega
        have hkl : (k : Int) ≤ acc.length := by omega
        have wk : IntKind.i64.wrap ((k : Int) + 1) = ((k + 1 : Nat) : Int) := by rw [wrap64 (by omega) (by omega)]; omega
        have e1 : sharedRows (List.take (k - Int.toNat 0) (List.drop (Int.toNat 0) (List.map Tx.row acc))) = (acc.take k).map Tx.row := by
          rw [show Int.toNat 0 = 0 from rfl, Nat.sub_zero, List.drop_zero, ← List.map_take, shared_Tx]
        have e2 : sharedRows (List.take (acc.length - k) (List.drop k (List.map Tx.row acc))) = (acc.drop k).map Tx.row := by
          rw [← List.map_drop, List.take_of_length_le (by simp), shared_Tx]
        have fin : plT true acc l[i] = k → (acc.take k).map Tx.row ++ [[T.str l[i]]] ++ (acc.drop k).map Tx.row = (insT true acc l[i]).map Tx.row := fun e => by
          rw [insT, e, List.map_append, List.map_cons, List.append_assoc]; rfl
        have ef : (l.take (i + 1)).foldl (insT true) [] = insT true acc l[i] := by
          rw [List.take_add_one, List.getElem?_eq_getElem h, List.foldl_append, ← hacc]; rfl
        simp -implicitDefEqProofs only [go_sem]
        refine RegD_of sch_19_11 tysOk (by kernel_rfl) ?_
        simp -implicitDefEqProofs only [go_sem]
        refine BrA_i (fun h5 => ?_) (fun h5 => ?_) <;> simp -implicitDefEqProofs only [go_sem, h0i, h1i, hr]
        · have h5 : k < acc.length := by have := of_decide_eq_true h5; omega
          have h1k : (k : Int) < acc.length := by omega
          have hrk := row_getD Tx.row acc h5
          simp only [Tx.row] at hrk
          simp -implicitDefEqProofs only [go_sem, h5, h0k, h1k, hrk, h0i, h1i, hr]
          refine CallW.one (s_l8Less (l[i]) (acc[k]) true (by omega) (by have := hsz k h5; omega)) p_l8Less (by first | (simp -implicitDefEqProofs only [go_sem]; done) | ((conv => lhs; simp -implicitDefEqProofs only [go_sem]); done) | (simp -implicitDefEqProofs only [go_sem]; rfl) | rfl) (by first | trivial | (simp [DeepR, DeepV, DeepVs, DeepC, DeepCs, T.scal]; done)) ?_
          cases g : lessT true l[i] acc[k]
          · simp -implicitDefEqProofs only [go_sem, Bool.not_false, wk]
            refine .to [425, 426, 427] (k + 1) rfl ?_ ?_ (by omega) ⟨by omega, fun j hj2 hj3 => by
              by_cases hji : j < k
              · exact hj j hj2 hji
              · obtain rfl : j = k := by omega
                exact g⟩ <;> simp -implicitDefEqProofs only [go_sem, LeTs_undef, LeTs_same, LeTs_nil, wk]
          · simp -implicitDefEqProofs only [go_sem, Bool.not_true]
            have e3 := fin (plT_of hk hj (fun _ => g))
            refine RegD_of sch_19_13 tysOk (by kernel_rfl) ?_
            simp -implicitDefEqProofs only [go_sem, h0k, hkl, h0i, h1i, hr, e1, e2, e3]
            refine ⟨by omega, by unfold roomy; simp; omega, by unfold roomy; simp; omega, by unfold roomy; simp; omega, ?_⟩
            simp -implicitDefEqProofs only [go_sem, wi]
            refine .toR [104] [(464, 104)] (i + 1) rfl rfl ?_ ?_ (by omega) ⟨by omega, fun hn j hj hlt => nx j hj (by first | exact hn.elim | rfl) hlt⟩
            · simp -implicitDefEqProofs only [go_sem, LeTs_undef, LeTs_same, LeTs_nil]
            · simp -implicitDefEqProofs only [go_sem, ef]
        · have h5 : k = acc.length := by have := of_decide_eq_false h5; omega
          have e3 := fin (plT_of hk hj (fun h => by omega))
          refine RegD_of sch_19_13 tysOk (by kernel_rfl) ?_
          simp -implicitDefEqProofs only [go_sem, h0k, hkl, h0i, h1i, hr, e1, e2, e3]
          refine ⟨by omega, by unfold roomy; simp; omega, by unfold roomy; simp; omega, by unfold roomy; simp; omega, ?_⟩
          simp -implicitDefEqProofs only [go_sem, wi]
          refine .toR [104] [(464, 104)] (i + 1) rfl rfl ?_ ?_ (by omega) ⟨by omega, fun hn j hj hlt => nx j hj (by first | exact hn.elim | rfl) hlt⟩
          · simp -implicitDefEqProofs only [go_sem, LeTs_undef, LeTs_same, LeTs_nil]
          · simp -implicitDefEqProofs only [go_sem, ef]
  · have h : i = l.length := by have := of_decide_eq_false h; omega
    subst h
    have hsrt : sortM l nums down = (if down = true then (sortT nums l).reverse else sortT nums l, true) := by
      unfold sortM
      rw [if_pos hok, if_neg]
      rintro ⟨hn, hf⟩
      rw [← Bool.not_eq_true, List.all_eq_true] at hf
      refine hf fun x hx => ?_
      obtain ⟨q, hq, e⟩ := List.getElem_of_mem hx
      rw [← e]; exact hz hn q hq hq
    rw [hsrt, List.take_length]
    have hlen : (sortT nums l).length ≤ 1048576 := by rw [sortT, sortT_len]; simp; omega
    rw [show l.foldl (insT nums) [] = sortT nums l from rfl]
    cases down
    · simp -implicitDefEqProofs only [go_sem]
    · simp -implicitDefEqProofs only [go_sem]
      refine CallW.one (s_l2Turn (sortT nums l) hlen) p_l2Turn (by first | (simp -implicitDefEqProofs only [go_sem]; done) | ((conv => lhs; simp -implicitDefEqProofs only [go_sem]); done) | (simp -implicitDefEqProofs only [go_sem]; rfl) | rfl) (deep_txT _) ?_
      simp -implicitDefEqProofs only [go_sem]
end Go.Proofs.YtgkmbbiebmamaaaDoor.Am
namespace Go.Proofs.YtgkmbbiebmamaaaDoor.Am
open Go
set_option maxRecDepth 100000
set_option maxHeartbeats 1000000
set_option linter.unusedSimpArgs false
set_option linter.unusedVariables false
theorem p_ListSort : Plain Tryd.prog 21 := ⟨_, Tryd.func21, rfl, by decide⟩
theorem s_ListSort (l : List Tx) (nums down : Bool) (hs : l.length ≤ 1048576) : Spec Tryd.prog 21 [.t (.list false 1 (l.map Tx.row)), Bo nums, Bo down] (fun r => r = sortTR (if listOkM l = true then (if nums = true ∧ (l.all fun x => (intM x).2) = false then (l, false) else (sortR (ltT nums down) l, true)) else ([], false))) := by
  refine Spec.of tysOk mixed Tryd.func21 rfl (by decide) ?_
  simp -implicitDefEqProofs only [go_sem, Tryd.f21]
  refine CallW.one (s_listOk l (by omega)) p_listOk (by first | (simp -implicitDefEqProofs only [go_sem]; done) | ((conv => lhs; simp -implicitDefEqProofs only [go_sem]); done) | (simp -implicitDefEqProofs only [go_sem]; rfl) | rfl) (by first | trivial | (simp [DeepR, DeepV, DeepVs, DeepC, DeepCs, T.scal]; done)) ?_
  cases hok : listOkM l
  · simp -implicitDefEqProofs only [go_sem, Bool.not_false]
    simp
  have h16 := listOkM_len hok
  simp -implicitDefEqProofs only [go_sem, Bool.not_true]
  refine CallW.one (s_copied l hs) p_copied (by first | (simp -implicitDefEqProofs only [go_sem]; done) | ((conv => lhs; simp -implicitDefEqProofs only [go_sem]); done) | (simp -implicitDefEqProofs only [go_sem]; rfl) | rfl) (deep_txT _) ?_
  simp -implicitDefEqProofs only [go_sem]
  have hsz : ∀ x ∈ l, x.size ≤ 40 := fun x hx => by
    obtain ⟨q, hq, e⟩ := List.getElem_of_mem hx
    rw [← e]; exact listOkM_at hok hq
  cases nums
  · simp -implicitDefEqProofs only [go_sem]
    refine CallW.o [(9000, 145), (9001, 32), (9002, 40)] (s_SortTx false down l hsz (by omega)) p_SortTx o46 rfl (by (conv => lhs; simp -implicitDefEqProofs only [go_sem]) <;> rfl) (by (simp -implicitDefEqProofs only [go_sem]) <;> rfl) ?_
    rintro _ _ ⟨rfl, rfl⟩
    simp -implicitDefEqProofs only [go_sem]
    simp
  · simp -implicitDefEqProofs only [go_sem]
    refine LoopW.slotsM [false, false, false, false, true, true, false, false, true, false, false, false, false, false, false, false, false, false, false, false, true, true, true, false, false, false, false, false, false, false, false, false, false, false, false, false, false, false, false] (α := Nat) (fun i => [(22, I i)]) (fun i => [(145, .rows 1 (l.map Tx.row)), (32, .box [Bo true]), (40, .box [Bo down])]) (fun i => l.length - i) (fun i => i ≤ l.length ∧ ∀ j (h : j < l.length), j < i → (intM l[j]).2 = true) 0 (by simp -implicitDefEqProofs only [go_sem, LeTs_undef, LeTs_same, LeTs_nil]; try simp [LeTs]) rfl ⟨by omega, fun _ _ h => by omega⟩ ?_
    rintro i ⟨hi, hz⟩
    simp -implicitDefEqProofs only [go_sem]
    refine BrA_i (fun h => ?_) (fun h => ?_) <;> simp -implicitDefEqProofs only [go_sem]
    · skip
      have h : i < l.length := by simp at h; omega
      have h0i : (0 : Int) ≤ i := by omega
      have h1i : (i : Int) < l.length := by omega
      have wi : IntKind.i64.wrap ((i : Int) + 1) = ((i + 1 : Nat) : Int) := by rw [wrap64 (by omega) (by omega)]; omega
      have hr := row_getD Tx.row l h
      simp only [Tx.row] at hr
      have h40 := listOkM_at hok h
      simp -implicitDefEqProofs only [go_sem, h, h0i, h1i, hr]
      refine CallW.one (s_IntGet (l[i]) (by omega)) p_IntGet (by first | (simp -implicitDefEqProofs only [go_sem]; done) | ((conv => lhs; simp -implicitDefEqProofs only [go_sem]); done) | (simp -implicitDefEqProofs only [go_sem]; rfl) | rfl) (by first | trivial | (simp [DeepR, DeepV, DeepVs, DeepC, DeepCs, T.scal]; done)) ?_
      cases hb : (intM l[i]).2
      · simp -implicitDefEqProofs only [go_sem, Bool.not_false]
        have hall : (l.all fun x => (intM x).2) = false := by
          rw [← Bool.not_eq_true, List.all_eq_true]
          intro hc
          have := hc _ (List.getElem_mem h)
          rw [hb] at this; cases this
        simp [hall]
      · simp -implicitDefEqProofs only [go_sem, Bool.not_true, wi]
        refine .to [225, 226, 227] (i + 1) rfl ?_ ?_ (by omega) ⟨by omega, fun j hj2 hj3 => by
          by_cases hji : j < i
          · exact hz j hj2 hji
          · obtain rfl : j = i := by omega
            exact hb⟩
        · simp -implicitDefEqProofs only [go_sem, LeTs_undef, LeTs_same, LeTs_nil, wi]
        · first | rfl | simp -implicitDefEqProofs only [go_sem, wi]
    · have h : i = l.length := by have := of_decide_eq_false h; omega
      have hall : (l.all fun x => (intM x).2) = true := by
        rw [List.all_eq_true]
        intro x hx
        obtain ⟨q, hq, e⟩ := List.getElem_of_mem hx
        rw [← e]; exact hz q hq (by omega)
      refine CallW.o [(9000, 145), (9001, 32), (9002, 40)] (s_SortTx true down l hsz (by omega)) p_SortTx o46 rfl (by (conv => lhs; simp -implicitDefEqProofs only [go_sem]) <;> rfl) (by (simp -implicitDefEqProofs only [go_sem]) <;> rfl) ?_
      rintro _ _ ⟨rfl, rfl⟩
      simp -implicitDefEqProofs only [go_sem]
      simp [hall]
end Go.Proofs.YtgkmbbiebmamaaaDoor.Am
namespace Go.Proofs.YtgkmbbiebmamaaaDoor.Am
open Go
set_option linter.unusedVariables false
set_option linter.unusedSimpArgs false
theorem intM_back {s : ByteArray} (h : (intM s).2 = true) : itoaB (intM s).1 = s := by
  by_cases hn : ∀ n, withinM n (-1000000000) 1000000000 = true → itoaB n ≠ s
  · rw [intM_no hn] at h; cases h
  · have ⟨n, hh⟩ := Classical.not_forall.1 hn
    have ⟨h1, h2⟩ : withinM n (-1000000000) 1000000000 = true ∧ itoaB n = s := by
      constructor
      · exact Classical.byContradiction fun hc => hh fun h => absurd h hc
      · exact Classical.byContradiction fun hc => hh fun _ => hc
    subst h2
    rw [intM_yes h1]
theorem intM_inj {a b : ByteArray} (ha : (intM a).2 = true) (hb : (intM b).2 = true) (h : (intM a).1 = (intM b).1) : a = b := by
  rw [← intM_back ha, ← intM_back hb, h]
theorem lessT_irrefl (nums : Bool) (x : Tx) : lessT nums x x = false := by
  unfold lessT; rw [if_neg (fun h => h.2 rfl)]; exact bytesLt_irrefl x
theorem lessT_trans {nums : Bool} {x y z : Tx} (h : lessT nums x y = true) (h' : lessT nums y z = true) : lessT nums x z = true := by
  unfold lessT at h h' ⊢
  by_cases hn : nums = true
  · simp only [hn, true_and] at h h' ⊢
    by_cases e1 : (intM x).1 = (intM y).1
    · by_cases e2 : (intM y).1 = (intM z).1
      · rw [if_neg (fun hh => hh e1)] at h
        rw [if_neg (fun hh => hh e2)] at h'
        rw [if_neg (fun hh => hh (e1.trans e2))]
        exact bytesLt_trans h h'
      · rw [if_pos e2] at h'
        rw [e1, if_pos e2]; exact h'
    · rw [if_pos e1] at h
      have h := of_decide_eq_true h
      by_cases e2 : (intM y).1 = (intM z).1
      · rw [if_pos (by omega)]; exact decide_eq_true (by omega)
      · rw [if_pos e2] at h'
        have h' := of_decide_eq_true h'
        rw [if_pos (by omega)]; exact decide_eq_true (by omega)
  · rw [if_neg (fun hh => hn hh.1)] at h h' ⊢
    exact bytesLt_trans h h'
theorem lessT_total {nums : Bool} {x y : Tx} (hne : x ≠ y) (h : lessT nums x y = false) : lessT nums y x = true := by
  unfold lessT at h ⊢
  by_cases e : nums = true ∧ (intM x).1 ≠ (intM y).1
  · rw [if_pos e] at h
    rw [if_pos ⟨e.1, fun hh => e.2 hh.symm⟩]
    have h := of_decide_eq_false h
    have := e.2
    exact decide_eq_true (by omega)
  · rw [if_neg e] at h
    rw [if_neg (fun hh => e ⟨hh.1, fun h2 => hh.2 h2.symm⟩)]
    exact bytesLt_total hne h
theorem lessT_asymm {nums : Bool} {x y : Tx} (h : lessT nums x y = true) : lessT nums y x = false := by
  rw [← Bool.not_eq_true]; intro h'
  have := lessT_trans h h'
  rw [lessT_irrefl] at this; cases this
theorem insT_cons (nums : Bool) (y : Tx) (l : List Tx) (x : Tx) : insT nums (y :: l) x = if lessT nums x y = true then x :: y :: l else y :: insT nums l x := by
  unfold insT
  simp only [plT]
  split
  · simp
  · simp
theorem insT_perm (nums : Bool) (l : List Tx) (x : Tx) : (insT nums l x).Perm (x :: l) := by
  unfold insT
  refine List.perm_middle.trans ?_
  rw [List.take_append_drop]
theorem foldT_perm (nums : Bool) : ∀ (l acc : List Tx), (l.foldl (insT nums) acc).Perm (acc ++ l)
  | [], acc => by simp
  | x :: l, acc => by
    rw [List.foldl_cons]
    refine (foldT_perm nums l _).trans ?_
    refine ((insT_perm nums acc x).append_right l).trans ?_
    exact List.perm_middle.symm
theorem sortT_perm (nums : Bool) (l : List Tx) : (sortT nums l).Perm l := by
  have := foldT_perm nums l []
  rwa [List.nil_append] at this
def UpT (nums : Bool) (l : List Tx) : Prop := l.Pairwise fun a b => lessT nums b a = false
theorem insT_up {nums : Bool} {x : Tx} : ∀ {l : List Tx}, UpT nums l → UpT nums (insT nums l x)
  | [], _ => by
    have : insT nums [] x = [x] := by simp [insT, plT]
    rw [this]; exact List.pairwise_singleton _ _
  | y :: l, h => by
    have ⟨h1, h2⟩ := List.pairwise_cons.1 h
    rw [insT_cons]
    split
    · rename_i hl
      refine List.pairwise_cons.2 ⟨fun z hz => ?_, h⟩
      rcases List.mem_cons.1 hz with rfl | hz
      · exact lessT_asymm hl
      · rw [← Bool.not_eq_true]; intro hzx
        have := lessT_trans hzx hl
        rw [h1 z hz] at this; cases this
    · rename_i hl
      refine List.pairwise_cons.2 ⟨fun z hz => ?_, insT_up h2⟩
      rcases insT_mem hz with rfl | hz
      · exact Bool.not_eq_true _ ▸ hl
      · exact h1 z hz
theorem foldT_up {nums : Bool} : ∀ {l acc : List Tx}, UpT nums acc → UpT nums (l.foldl (insT nums) acc)
  | [], _, h => h
  | x :: l, acc, h => by rw [List.foldl_cons]; exact foldT_up (insT_up h)
theorem sortT_up (nums : Bool) (l : List Tx) : UpT nums (sortT nums l) := foldT_up List.Pairwise.nil
noncomputable def ordT (nums down : Bool) (x y : Tx) : Bool := if down = true then lessT nums y x else lessT nums x y
theorem ordT_asymm {nums down : Bool} {x y : Tx} (h : ordT nums down x y = true) : ordT nums down y x = false := by
  unfold ordT at *
  cases down
  · simp only [Bool.false_eq_true, if_false] at *; exact lessT_asymm h
  · simp only [if_true] at *; exact lessT_asymm h
theorem ordT_neg {nums down : Bool} {x y z : Tx} (h : ordT nums down x y = false) (h' : ordT nums down y z = false) : ordT nums down x z = false := by
  rw [← Bool.not_eq_true]; intro hc
  unfold ordT at *
  cases down
  · simp only [Bool.false_eq_true, if_false] at *
    by_cases e : y = z
    · subst e; rw [h] at hc; cases hc
    · have := lessT_trans hc (lessT_total e h')
      rw [h] at this; cases this
  · simp only [if_true] at *
    by_cases e : z = y
    · subst e; rw [h] at hc; cases hc
    · have := lessT_trans (lessT_total e h') hc
      rw [h] at this; cases this
theorem ltT_ord {nums down : Bool} {x y : Tx} (hx : nums = true → (intM x).2 = true) (hy : nums = true → (intM y).2 = true) : ltT nums down x y = ordT nums down x y := by
  rw [ltT_eq]
  unfold cmpT ordT lessT
  cases nums
  · simp only [Bool.false_eq_true, if_false, false_and]
    cases down
    · simp only [Bool.false_eq_true, if_false]; exact cmpS_lt x y
    · simp only [if_true]
      have h2 := cmpS_lt x y
      by_cases e : x = y
      · subst e; rw [cmpS_refl, bytesLt_irrefl]; rfl
      · cases hb : bytesLt y x
        · have := bytesLt_total (Ne.symm e) hb
          have h3 : cmpS x y < 0 := by rw [this] at h2; exact of_decide_eq_true h2
          exact decide_eq_false (by omega)
        · have h4 : cmpS x y = 1 := by
            unfold cmpS
            rw [if_neg (by intro hh; have := bytesLt_trans hh hb; rw [bytesLt_irrefl] at this; cases this), if_neg e]
          rw [h4]; rfl
  · simp only [if_true, true_and]
    have hx := hx rfl
    have hy := hy rfl
    by_cases e : (intM x).1 = (intM y).1
    · have := intM_inj hx hy e
      subst this
      simp only [ne_eq, not_true, if_false, bytesLt_irrefl]
      have : cmpM (intM x).1 (intM x).1 = 0 := by unfold cmpM; simp
      rw [this]
      cases down <;> rfl
    · have e' : ¬ (intM y).1 = (intM x).1 := fun hh => e hh.symm
      simp only [ne_eq, e, e', not_false_iff, if_true]
      cases down
      · simp only [Bool.false_eq_true, if_false]
        unfold cmpM
        split <;> simp_all <;> omega
      · simp only [if_true]
        unfold cmpM
        split <;> simp_all <;> omega
theorem insB_congr {α : Type} {lt lt' : α → α → Bool} {x : α} : ∀ {l : List α}, (∀ y ∈ l, lt x y = lt' x y) → insB lt x l = insB lt' x l
  | [], _ => rfl
  | y :: l, h => by
    simp only [insB]
    rw [h y (by simp), insB_congr (l := l) fun z hz => h z (by simp [hz])]
theorem foldR_congr {α : Type} {lt lt' : α → α → Bool} {S : α → Prop} (h : ∀ x y, S x → S y → lt x y = lt' x y) : ∀ {l acc : List α}, (∀ x ∈ l, S x) → (∀ x ∈ acc, S x) → l.foldl (insR lt) acc = l.foldl (insR lt') acc
  | [], _, _, _ => rfl
  | x :: l, acc, hl, ha => by
    have e : insR lt acc x = insR lt' acc x := by
      unfold insR
      rw [insB_congr fun y hy => h x y (hl x (by simp)) (ha y (by simpa using hy))]
    rw [List.foldl_cons, List.foldl_cons, e]
    refine foldR_congr h (fun y hy => hl y (by simp [hy])) fun y hy => ?_
    unfold insR at hy
    rcases insB_mem (List.mem_reverse.1 hy) with rfl | hy
    · exact hl _ (by simp)
    · exact ha _ (by simpa using hy)
theorem insB_perm {α : Type} (lt : α → α → Bool) (x : α) : ∀ l : List α, (insB lt x l).Perm (x :: l)
  | [] => by simp [insB]
  | y :: l => by
    simp only [insB]
    split
    · exact ((insB_perm lt x l).cons y).trans (.swap x y l)
    · exact .refl _
theorem foldR_perm {α : Type} (lt : α → α → Bool) : ∀ (l acc : List α), (l.foldl (insR lt) acc).Perm (acc ++ l)
  | [], acc => by simp
  | x :: l, acc => by
    rw [List.foldl_cons]
    refine (foldR_perm lt l _).trans ?_
    have h1 : (insR lt acc x).Perm (x :: acc) := by
      unfold insR
      refine (List.reverse_perm _).trans ((insB_perm lt x _).trans ?_)
      exact (List.reverse_perm _).cons x
    exact (h1.append_right l).trans List.perm_middle.symm
theorem insB_down {nums down : Bool} {x : Tx} : ∀ {l : List Tx}, (l.Pairwise fun a b => ordT nums down a b = false) → (insB (ordT nums down) x l).Pairwise fun a b => ordT nums down a b = false
  | [], _ => List.pairwise_singleton _ _
  | y :: l, h => by
    have ⟨h1, h2⟩ := List.pairwise_cons.1 h
    simp only [insB]
    split
    · rename_i hl
      refine List.pairwise_cons.2 ⟨fun z hz => ?_, insB_down h2⟩
      rcases insB_mem hz with rfl | hz
      · exact ordT_asymm hl
      · exact h1 z hz
    · rename_i hl
      have hl : ordT nums down x y = false := Bool.not_eq_true _ ▸ hl
      refine List.pairwise_cons.2 ⟨fun z hz => ?_, h⟩
      rcases List.mem_cons.1 hz with rfl | hz
      · exact hl
      · exact ordT_neg hl (h1 z hz)
theorem foldR_up {nums down : Bool} : ∀ {l acc : List Tx}, (acc.Pairwise fun a b => ordT nums down b a = false) → (l.foldl (insR (ordT nums down)) acc).Pairwise fun a b => ordT nums down b a = false
  | [], _, h => h
  | x :: l, acc, h => by
    rw [List.foldl_cons]
    refine foldR_up ?_
    unfold insR
    rw [List.pairwise_reverse]
    exact insB_down (List.pairwise_reverse.2 h)
noncomputable def sortD (nums down : Bool) (l : List Tx) : List Tx := if down = true then (sortT nums l).reverse else sortT nums l
theorem sortD_perm (nums down : Bool) (l : List Tx) : (sortD nums down l).Perm l := by
  unfold sortD; split
  · exact (List.reverse_perm _).trans (sortT_perm nums l)
  · exact sortT_perm nums l
theorem sortD_up (nums down : Bool) (l : List Tx) : (sortD nums down l).Pairwise fun a b => ordT nums down b a = false := by
  have h := sortT_up nums l
  unfold sortD ordT
  cases down
  · simp only [Bool.false_eq_true, if_false]; exact h
  · simp only [if_true]
    exact List.pairwise_reverse.2 h
theorem ordT_eq {nums down : Bool} {a b : Tx} (h : ordT nums down b a = false) (h' : ordT nums down a b = false) : a = b := by
  refine Classical.byContradiction fun hc => ?_
  unfold ordT at h h'
  cases down
  · simp only [Bool.false_eq_true, if_false] at h h'
    rw [lessT_total hc h'] at h; cases h
  · simp only [if_true] at h h'
    rw [lessT_total hc h] at h'; cases h'
theorem sorted_eq {nums down : Bool} {l m : List Tx} (h : l.Perm m) (hl : l.Pairwise fun a b => ordT nums down b a = false) (hm : m.Pairwise fun a b => ordT nums down b a = false) : l = m :=
  h.eq_of_pairwise (fun a b _ _ h1 h2 => ordT_eq h1 h2) hl hm
theorem sortR_T {nums down : Bool} {l : List Tx} (h : nums = true → (l.all fun x => (intM x).2) = true) : sortR (ltT nums down) l = sortD nums down l := by
  have e : sortR (ltT nums down) l = sortR (ordT nums down) l :=
    foldR_congr (S := fun x => nums = true → (intM x).2 = true) (fun x y hx hy => ltT_ord hx hy) (fun x hx hn => List.all_eq_true.1 (h hn) x hx) (fun x hx => by cases hx)
  rw [e]
  refine sorted_eq (nums := nums) (down := down) ?_ (foldR_up List.Pairwise.nil) (sortD_up nums down l)
  have := foldR_perm (ordT nums down) l []
  rw [List.nil_append] at this
  exact this.trans (sortD_perm nums down l).symm
theorem p_ListSortM : Plain Tryd.prog 21 := p_ListSort
theorem s_ListSortM (l : List Tx) (nums down : Bool) (hs : l.length ≤ 1048576) : Spec Tryd.prog 21 [.t (.list false 1 (l.map Tx.row)), Bo nums, Bo down] (fun r => r = sortTR (sortM l nums down)) := by
  have h := s_ListSort l nums down hs
  have e : (if listOkM l = true then (if nums = true ∧ (l.all fun x => (intM x).2) = false then (l, false) else (sortR (ltT nums down) l, true)) else ([], false)) = sortM l nums down := by
    unfold sortM
    by_cases h1 : listOkM l = true
    · rw [if_pos h1, if_pos h1]
      by_cases h2 : nums = true ∧ (l.all fun x => (intM x).2) = false
      · rw [if_pos h2, if_pos h2]
      · rw [if_neg h2, if_neg h2, sortR_T fun hn => by
          rw [← Bool.not_eq_false]; exact fun hf => h2 ⟨hn, hf⟩]
        rfl
    · rw [if_neg h1, if_neg h1]
  rwa [e] at h
end Go.Proofs.YtgkmbbiebmamaaaDoor.Am
namespace Go.Proofs.YtgkmbbiebmamaaaDoor.Am
open Go
set_option maxRecDepth 100000
set_option maxHeartbeats 1000000
set_option linter.unusedSimpArgs false
set_option linter.unusedVariables false
theorem sortD_len (nums down : Bool) (l : List Tx) : (sortD nums down l).length = l.length := (sortD_perm nums down l).length_eq
theorem sortM_len (l : List Tx) (nums down : Bool) : (sortM l nums down).1.length ≤ l.length := by
  unfold sortM
  split
  · split
    · exact Nat.le_refl _
    · have := sortD_len nums down l
      unfold sortD at this
      exact Nat.le_of_eq this
  · simp
theorem deep_sortTR (x : List Tx × Bool) : DeepR (sortTR x) := ⟨deep_txT _, trivial, trivial⟩
theorem s_FnExactListSort (l : List Tx) (nums down : Bool) (hg : lG Tx.G l) : Spec Tryd.prog 6 [.t (.list false 1 (l.map Tx.row)), Bo nums, Bo down] (fun r => r = Bo true) := by
  refine Spec.of tysOk mixed Tryd.func6 rfl (by decide) ?_
  simp -implicitDefEqProofs only [go_sem, Tryd.f6]
  refine CallW.one (s_szStringS l 1048576 (by omega) (by omega) hg) p_szStringS (by first | (simp -implicitDefEqProofs only [go_sem]; done) | ((conv => lhs; simp -implicitDefEqProofs only [go_sem]); done) | (simp -implicitDefEqProofs only [go_sem]; rfl) | rfl) (by first | trivial | (simp [DeepR, DeepV, DeepVs, DeepC, DeepCs, T.scal]; done)) ?_
  simp -implicitDefEqProofs only [go_sem]
  refine BrA_i (fun h1 => ?_) (fun h1 => ?_) <;> simp -implicitDefEqProofs only [go_sem]
  have h1 : wAll Tx.w l ≤ 1048576 := by
    have : ¬ (1048576 : Int) < wAll Tx.w l := fun hh => by simp [(cutM_lt _ _).2 hh] at h1
    omega
  have hl : l.length ≤ 1048576 := Nat.le_trans (Nat.le_add_right _ _) h1
  have hM := sortM_len l nums down
  have m1 : wSum Tx.mw l = 1 * _ := wSum_const 1 _
  have m2 : wSum Tx.mw (sortM l nums down).1 = 1 * _ := wSum_const 1 _
  have n1 : ¬ (1 + (wSum Tx.mw l : Nat) : Int) < 0 := by omega
  have n2 : ¬ (1 + (wSum Tx.mw (sortM l nums down).1 : Nat) : Int) < 0 := by omega
  refine CallW.onep (s_toStringS l hl) p_toStringS (by first | (simp -implicitDefEqProofs only [go_sem]; done) | ((conv => lhs; simp -implicitDefEqProofs only [go_sem]); done) | (simp -implicitDefEqProofs only [go_sem]; rfl) | rfl) rfl ?_
  simp -implicitDefEqProofs only [go_sem]
  refine CallW.one (s_sListSort l nums down (by omega)) p_sListSort (by first | (simp -implicitDefEqProofs only [go_sem]; done) | ((conv => lhs; simp -implicitDefEqProofs only [go_sem]); done) | (simp -implicitDefEqProofs only [go_sem]; rfl) | rfl) (deep_sortTR _) ?_
  simp -implicitDefEqProofs only [go_sem]
  refine CallW.onep (s_toStringS l hl) p_toStringS (by first | (simp -implicitDefEqProofs only [go_sem]; done) | ((conv => lhs; simp -implicitDefEqProofs only [go_sem]); done) | (simp -implicitDefEqProofs only [go_sem]; rfl) | rfl) rfl ?_
  simp -implicitDefEqProofs only [go_sem]
  refine CallW.one (s_ListSortM l nums down (by omega)) p_ListSortM (by first | (simp -implicitDefEqProofs only [go_sem]; done) | ((conv => lhs; simp -implicitDefEqProofs only [go_sem]); done) | (simp -implicitDefEqProofs only [go_sem]; rfl) | rfl) (deep_sortTR _) ?_
  simp -implicitDefEqProofs only [go_sem]
  refine CallW.one (s_eqStringS (sortM l nums down).1 (sortM l nums down).1 (by omega)) p_eqStringS (by first | (simp -implicitDefEqProofs only [go_sem]; done) | ((conv => lhs; simp -implicitDefEqProofs only [go_sem]); done) | (simp -implicitDefEqProofs only [go_sem]; rfl) | rfl) (by first | trivial | (simp [DeepR, DeepV, DeepVs, DeepC, DeepCs, T.scal]; done)) ?_
  simp -implicitDefEqProofs only [go_sem, eq_self, decide_true, beq_self_eq_true, decide_false]
  refine CallW.onep (s_toStringS l hl) p_toStringS (by first | (simp -implicitDefEqProofs only [go_sem]; done) | ((conv => lhs; simp -implicitDefEqProofs only [go_sem]); done) | (simp -implicitDefEqProofs only [go_sem]; rfl) | rfl) rfl ?_
  simp -implicitDefEqProofs only [go_sem]
  refine CallW.one (s_eqStringS l l (by omega)) p_eqStringS (by first | (simp -implicitDefEqProofs only [go_sem]; done) | ((conv => lhs; simp -implicitDefEqProofs only [go_sem]); done) | (simp -implicitDefEqProofs only [go_sem]; rfl) | rfl) (by first | trivial | (simp [DeepR, DeepV, DeepVs, DeepC, DeepCs, T.scal]; done)) ?_
  simp -implicitDefEqProofs only [go_sem, eq_self, decide_true, beq_self_eq_true, decide_false]
  refine CallW.o [(9000, 257)] (s_markStringS l 1 (by omega) (by omega) (by omega)) p_markStringS o23 rfl (by conv => lhs; simp -implicitDefEqProofs only [go_sem]) (by simp -implicitDefEqProofs only [go_sem]) ?_
  rintro _ _ ⟨rfl, rfl⟩
  simp -implicitDefEqProofs only [go_sem, eq_self, decide_true, beq_self_eq_true, decide_false, n1]
  refine CallW.one (s_eqStringS (sortM l nums down).1 (sortM l nums down).1 (by omega)) p_eqStringS (by first | (simp -implicitDefEqProofs only [go_sem]; done) | ((conv => lhs; simp -implicitDefEqProofs only [go_sem]); done) | (simp -implicitDefEqProofs only [go_sem]; rfl) | rfl) (by first | trivial | (simp [DeepR, DeepV, DeepVs, DeepC, DeepCs, T.scal]; done)) ?_
  simp -implicitDefEqProofs only [go_sem, eq_self, decide_true, beq_self_eq_true, decide_false]
  refine CallW.o [(9000, 297)] (s_markStringS (sortM l nums down).1 1 (by omega) (by omega) (by omega)) p_markStringS o23 rfl (by conv => lhs; simp -implicitDefEqProofs only [go_sem]) (by simp -implicitDefEqProofs only [go_sem]) ?_
  rintro _ _ ⟨rfl, rfl⟩
  simp -implicitDefEqProofs only [go_sem, eq_self, decide_true, beq_self_eq_true, decide_false]
  refine CallW.one (s_heldStringS (sortM l nums down).1 1 (by omega) (by omega) (by omega)) p_heldStringS (by first | (simp -implicitDefEqProofs only [go_sem]; done) | ((conv => lhs; simp -implicitDefEqProofs only [go_sem]); done) | (simp -implicitDefEqProofs only [go_sem]; rfl) | rfl) (by first | trivial | (simp [DeepR, DeepV, DeepVs, DeepC, DeepCs, T.scal]; done)) ?_
  simp -implicitDefEqProofs only [go_sem, eq_self, decide_true, beq_self_eq_true, decide_false, n2]
  refine CallW.onep (s_toStringS l hl) p_toStringS (by first | (simp -implicitDefEqProofs only [go_sem]; done) | ((conv => lhs; simp -implicitDefEqProofs only [go_sem]); done) | (simp -implicitDefEqProofs only [go_sem]; rfl) | rfl) rfl ?_
  simp -implicitDefEqProofs only [go_sem]
  refine CallW.one (s_ListSortM l nums down (by omega)) p_ListSortM (by first | (simp -implicitDefEqProofs only [go_sem]; done) | ((conv => lhs; simp -implicitDefEqProofs only [go_sem]); done) | (simp -implicitDefEqProofs only [go_sem]; rfl) | rfl) (deep_sortTR _) ?_
  simp -implicitDefEqProofs only [go_sem]
  refine CallW.one (s_eqStringS (sortM l nums down).1 (sortM l nums down).1 (by omega)) p_eqStringS (by first | (simp -implicitDefEqProofs only [go_sem]; done) | ((conv => lhs; simp -implicitDefEqProofs only [go_sem]); done) | (simp -implicitDefEqProofs only [go_sem]; rfl) | rfl) (by first | trivial | (simp [DeepR, DeepV, DeepVs, DeepC, DeepCs, T.scal]; done)) ?_
  simp -implicitDefEqProofs only [go_sem, eq_self, decide_true, beq_self_eq_true, decide_false]
  refine CallW.one (s_heldStringS (sortM l nums down).1 1 (by omega) (by omega) (by omega)) p_heldStringS (by first | (simp -implicitDefEqProofs only [go_sem]; done) | ((conv => lhs; simp -implicitDefEqProofs only [go_sem]); done) | (simp -implicitDefEqProofs only [go_sem]; rfl) | rfl) (by first | trivial | (simp [DeepR, DeepV, DeepVs, DeepC, DeepCs, T.scal]; done)) ?_
  simp -implicitDefEqProofs only [go_sem, eq_self, decide_true, beq_self_eq_true, decide_false, n2]
end Go.Proofs.YtgkmbbiebmamaaaDoor.Am
namespace Go.Proofs.YtgkmbbiebmamaaaDoor.Am
open Go Go.ChangeShapes Go.WideShapes Go.RowKit
def RdRow (w : World) (ts : List T) (cs : List Value) : Prop := ts.length = cs.length ∧ ∀ (j : Nat) (t : T) (v : Value), ts[j]? = some t → cs[j]? = some v → Rd w (fun b => b < w.heap.size) t v
structure Opn (P : Program) (t : TypeId) (sz : Nat) {α : Type} (row : α → List T) (G : α → Prop) : Prop where
  len : ∀ x, (row x).length = sz
  op : ∀ {H : Type} {enc : TypeId × Value → H} {W : World} {fuel : Nat} {cs : List Value} {D : DataW H} {ps : List MemPlace},
    DataW.trod enc P W 0 (fun _ => true) true fuel t cs = some (D, ps) → (∀ n ∈ DataW.weights P t D, n ≤ reachBytes) → ∃ x, RdRow W (row x) cs ∧ G x
theorem RdRow.one {w : World} {t : T} {v : Value} (h : Rd w (fun b => b < w.heap.size) t v) : RdRow w [t] [v] :=
  ⟨rfl, fun j t' v' h1 h2 => by
    cases j with
    | zero => simp at h1 h2; subst h1 h2; exact h
    | succ j => simp at h1⟩
theorem RdRow.append {w : World} {a b : List T} {c d : List Value} (h : RdRow w a c) (h' : RdRow w b d) : RdRow w (a ++ b) (c ++ d) :=
  ⟨by simp [h.1, h'.1], fun j t v h1 h2 => by
    rw [List.getElem?_append] at h1 h2
    have := h.1
    split at h1
    · rename_i hj
      rw [if_pos (by omega)] at h2
      exact h.2 j t v h1 h2
    · rename_i hj
      rw [if_neg (by omega)] at h2
      rw [this] at h1
      exact h'.2 _ t v h1 h2⟩
section
variable {P : Program} {t : TypeId}
theorem Opn.int {k : IntKind} (hu : P.underlying t = some (.int k)) : Opn P t 1 (fun x : Int => [T.int k x]) (fun x => (Lit.int k x).wf = true) where
  len := fun _ => rfl
  op := fun h _ => by
    obtain ⟨m, rfl, _, hw⟩ := DataW.trod_int hu h
    exact ⟨m, .one (.int _ _), hw⟩
theorem Opn.bool (hu : P.underlying t = some .bool) : Opn P t 1 (fun x : Bool => [T.bool x]) (fun _ => True) where
  len := fun _ => rfl
  op := fun h _ => by
    obtain ⟨m, rfl, _⟩ := DataW.trod_bool hu h
    exact ⟨m, .one (.bool _), trivial⟩
theorem Opn.string (hu : P.underlying t = some .string) : Opn P t 1 (fun x : ByteArray => [T.str x]) (fun x => x.size ≤ 140737488351232) where
  len := fun _ => rfl
  op := fun h hz => by
    obtain ⟨m, rfl, e, _⟩ := DataW.trod_string hu h
    obtain ⟨rfl, _⟩ := Prod.mk.inj e
    refine ⟨m, .one (.str _), ?_⟩
    have := hz m.data.toList.length (by simp [DataW.weights])
    simpa [reachBytes] using this
theorem Opn.slice {e : TypeId} {sz : Nat} {α : Type} {row : α → List T} {G : α → Prop} (he : Opn P e sz row G) (hu : P.underlying t = some (.slice e)) (hc : P.cellsOf e = sz) (hs : 0 < sz) {B : Nat} (hB : P.bytesOf e = B) :
    Opn P t 1 (fun xs : List α => [T.list false sz (xs.map row)]) (fun xs => xs.length * B ≤ 140737488351232 ∧ ∀ x ∈ xs, G x) where
  len := fun _ => rfl
  op := fun {H enc W fuel cs D ps} h hz => by
    rcases DataW.trod_slice hu h with ⟨rfl, _⟩ | ⟨a, len, cap, elems, rest, n, _, rfl, hx, hb, hl, hm, hlen, hel, hsp, _⟩
    · exact ⟨[], .one (.nil ..), by simp, by simp⟩
    · obtain ⟨rfl, _⟩ := Prod.mk.inj hx
      have hw0 := hz ((elems.map (·.1)).length + (rest.map (·.1)).length |>.mul (P.bytesOf e)) (by simp [DataW.weights, hu])
      have each : ∀ i, i < len → ∃ x c, RdRow W (row x) c ∧ G x ∧ c.length = sz ∧ ∀ j u, c[j]? = some u → W.cell? (a.add (i * sz + j)) = some u := by
        intro i hi
        have h1 := hel i hi
        have hil : i < elems.length := by omega
        rw [List.getElem?_eq_getElem hil] at h1
        rw [Option.bind_eq_some_iff] at h1
        obtain ⟨c, hcs, hy⟩ := h1
        have hD : ∀ m ∈ DataW.weights P e (elems[i]).1, m ≤ reachBytes := by
          intro m hmem
          refine hz m ?_
          simp only [DataW.weights, hu]
          refine List.mem_cons_of_mem _ (List.mem_append_left _ ?_)
          have : ∀ (l : List (DataW H)) (y : DataW H), y ∈ l → m ∈ DataW.weights P e y → m ∈ DataW.weightsAll P e l := by
            intro l
            induction l with
            | nil => intro y hy; cases hy
            | cons z l ih =>
              intro y hy hm2
              simp only [DataW.weightsAll, List.mem_append]
              rcases List.mem_cons.1 hy with rfl | hy
              · exact Or.inl hm2
              · exact Or.inr (ih y hy hm2)
          exact this _ _ (List.mem_map.2 ⟨elems[i], List.getElem_mem hil, rfl⟩) hmem
        obtain ⟨x, hK, hG⟩ := he.op (show DataW.trod enc P W 0 (fun _ => true) true n e c = some ((elems[i]).1, (elems[i]).2) from hy) hD
        obtain ⟨hb1, hb2, hb3⟩ := World.cells?_some hcs
        have hlen2 : c.length = sz := by rw [← hK.1, he.len]
        refine ⟨x, c, hK, hG, hlen2, fun j u hu2 => ?_⟩
        have hj := (List.getElem?_eq_some_iff.1 hu2).1
        have h3 := hb3 j (by rw [hc]; omega)
        rw [hu2] at h3
        rw [← h3, hc, Addr.add_add]
      have pick : ∀ l, l ≤ len → ∃ xs : List α, xs.length = l ∧ (∀ x ∈ xs, G x) ∧ ∀ j p, xs[j]? = some p → ∃ c, c.length = sz ∧ RdRow W (row p) c ∧ ∀ i u, c[i]? = some u → W.cell? (a.add (j * sz + i)) = some u := by
        intro l
        induction l with
        | zero => exact fun _ => ⟨[], rfl, by simp, fun j p h => by simp at h⟩
        | succ l ih =>
          intro hll
          obtain ⟨xs, h1, h2, h3⟩ := ih (by omega)
          obtain ⟨x, c, q1, q2, q3, q4⟩ := each l (by omega)
          refine ⟨xs ++ [x], by simp [h1], ?_, ?_⟩
          · intro y hy
            rcases List.mem_append.1 hy with hy | hy
            · exact h2 y hy
            · obtain rfl := List.mem_singleton.1 hy
              exact q2
          · intro j p hj
            by_cases hjl : j < xs.length
            · exact h3 j p (by rwa [List.getElem?_append_left hjl] at hj)
            · rw [List.getElem?_append_right (by omega)] at hj
              have : j - xs.length = 0 := by
                have := (List.getElem?_eq_some_iff.1 hj).1
                simpa using this
              rw [this] at hj
              have hjl2 : j = l := by omega
              subst hjl2
              obtain rfl : x = p := by simpa using hj
              exact ⟨c, q3, q1, q4⟩
      obtain ⟨xs, h1, h2, h3⟩ := pick len (Nat.le_refl _)
      subst h1
      refine ⟨xs, .one ?_, ?_, h2⟩
      · obtain ⟨ab, ao, asp⟩ := a
        have at0 : ∀ (j : Nat) (p : α), xs[j]? = some p → ∀ i, i < sz → ∃ u, W.cell? ⟨ab, ao + (j * sz + i), none⟩ = some u ∧ ∀ x, (row p)[i]? = some x → Rd W (fun b => b < W.heap.size) x u := by
          intro j p hj i hi
          obtain ⟨c, c1, c2, c3⟩ := h3 j p hj
          obtain ⟨u, hu2⟩ : ∃ u, c[i]? = some u := ⟨c[i]'(by omega), List.getElem?_eq_getElem _⟩
          have h4 := c3 i u hu2
          refine ⟨u, ?_, fun x hx => c2.2 i x u hx hu2⟩
          by_cases h0 : j * sz + i = 0
          · rw [h0] at h4 ⊢
            have : asp = none := by
              unfold World.cell? at h4
              simp only [Addr.add] at h4
              cases asp with
              | none => rfl
              | some q => simp at h4; split at h4 <;> simp at h4
            subst this
            exact h4
          · unfold Addr.add at h4
            rw [if_neg h0] at h4
            exact h4
        cases xs with
        | nil => exact .nil ..
        | cons x0 xs0 =>
          obtain ⟨u0, hu0, _⟩ := at0 0 x0 rfl 0 hs
          have hab : ab < W.heap.size := by
            unfold World.cell? at hu0
            simp only at hu0
            split at hu0
            · rename_i hh
              exact (Array.getElem?_eq_some_iff.1 hh).1
            · cases hu0
          have e1 : asp = none := by
            obtain ⟨c, c1, c2, c3⟩ := h3 0 x0 rfl
            have h4 := c3 0 (c[0]'(by omega)) (List.getElem?_eq_getElem _)
            simp only [Nat.zero_mul, Nat.add_zero, Addr.add, if_pos] at h4
            unfold World.cell? at h4
            cases asp with
            | none => rfl
            | some q => simp at h4; split at h4 <;> simp at h4
          subst e1
          have hrow : ∀ (i : Nat) (r : List T), ((x0 :: xs0).map row)[i]? = some r → ∃ p, (x0 :: xs0)[i]? = some p ∧ r = row p := by
            intro i r hr
            rw [List.getElem?_map] at hr
            cases hp : (x0 :: xs0)[i]? with
            | none => rw [hp] at hr; cases hr
            | some p => rw [hp] at hr; cases hr; exact ⟨p, rfl, rfl⟩
          have hfin := @Rd.list W (fun b => b < W.heap.size) false sz ((x0 :: xs0).map row) ab ao cap (fun i j => (W.cell? ⟨ab, ao + (i * sz + j), none⟩).getD Go.undef) (by simpa using hl) hab
            (fun i r hr => by obtain ⟨p, _, rfl⟩ := hrow i r hr; exact he.len p)
            (fun i r j x hr hx => by
              obtain ⟨p, hp, rfl⟩ := hrow i r hr
              obtain ⟨u, hu1, _⟩ := at0 i p hp j (by have := (List.getElem?_eq_some_iff.1 hx).1; rw [he.len] at this; exact this)
              simp only [hu1, Option.getD_some])
            (fun i r j x hr hx => by
              obtain ⟨p, hp, rfl⟩ := hrow i r hr
              obtain ⟨u, hu1, hu2⟩ := at0 i p hp j (by have := (List.getElem?_eq_some_iff.1 hx).1; rw [he.len] at this; exact this)
              simp only [hu1, Option.getD_some]
              exact hu2 x hx)
          rwa [List.length_map] at hfin
      have hw1 : (elems.length + rest.length) * P.bytesOf e ≤ reachBytes := by simpa using hw0
      rw [hB] at hw1
      rw [← hlen]
      exact Nat.le_trans (Nat.mul_le_mul_right _ (Nat.le_add_right _ _)) hw1
structure OpnF (P : Program) (fs : List Field) (o sz : Nat) {α : Type} (row : α → List T) (G : α → Prop) : Prop where
  len : ∀ x, (row x).length = sz
  op : ∀ {H : Type} {enc : TypeId × Value → H} {W : World} {fuel : Nat} {cs : List Value} {xs : List (DataW H × List MemPlace)},
    xs.length = fs.length → (∀ (i : Nat) (f : Field), fs[i]? = some f → DataW.trod enc P W 0 (fun _ => true) true fuel f.type ((cs.drop f.offset).take (P.cellsOf f.type)) = xs[i]?) →
    (∀ n ∈ DataW.weightsEach P (fs.map (·.type)) (xs.map (·.1)), n ≤ reachBytes) → cs.length = o + sz → ∃ x, RdRow W (row x) (cs.drop o) ∧ G x
theorem OpnF.one {f : Field} {o sz : Nat} {α : Type} {row : α → List T} {G : α → Prop} (he : Opn P f.type sz row G) (ho : f.offset = o) (hc : P.cellsOf f.type = sz) : OpnF P [f] o sz row G where
  len := he.len
  op := fun {H enc W fuel cs xs} hx h hz hl => by
    match xs, hx with
    | [y], _ =>
      have hy := h 0 f rfl
      rw [ho, hc, List.take_of_length_le (by simp; omega)] at hy
      exact he.op (show _ = some (y.1, y.2) from hy) (fun n hn => hz n (by simp only [List.map_cons, List.map_nil, DataW.weightsEach]; exact List.mem_append_left _ hn))
theorem OpnF.cons {f : Field} {r : List Field} {o sz sz2 : Nat} {α β : Type} {row : α → List T} {row2 : β → List T} {G : α → Prop} {G2 : β → Prop} (he : Opn P f.type sz row G) (ho : f.offset = o) (hc : P.cellsOf f.type = sz) (hr : OpnF P r (o + sz) sz2 row2 G2) :
    OpnF P (f :: r) o (sz + sz2) (fun x : α × β => row x.1 ++ row2 x.2) (fun x => G x.1 ∧ G2 x.2) where
  len := fun x => by rw [List.length_append, he.len, hr.len]
  op := fun {H enc W fuel cs xs} hx h hz hl => by
    match xs, hx with
    | y :: ys, hx =>
      have hl2 : cs.length = o + sz + sz2 := by omega
      have hy := h 0 f rfl
      rw [ho, hc] at hy
      obtain ⟨x, hK, hG⟩ := he.op (show _ = some (y.1, y.2) from hy) (fun n hn => hz n (by simp only [List.map_cons, DataW.weightsEach]; exact List.mem_append_left _ hn))
      obtain ⟨x2, hK2, hG2⟩ := hr.op (xs := ys) (by simpa using hx) (fun i g hg => h (i + 1) g hg) (fun n hn => hz n (by simp only [List.map_cons, DataW.weightsEach]; exact List.mem_append_right _ hn)) hl2
      refine ⟨(x, x2), ?_, hG, hG2⟩
      have := hK.append hK2
      rwa [← List.drop_drop, List.take_append_drop] at this
theorem Opn.struct {fs : Array Field} {sz : Nat} {α β : Type} {row : α → List T} {row2 : β → List T} {G : α → Prop} {G2 : β → Prop} (g : α → β) (hf : OpnF P fs.toList 0 sz row G) (hu : P.underlying t = some (.struct fs)) (hg : ∀ a, row2 (g a) = row a) (hG2 : ∀ a, G a → G2 (g a)) (hlen : ∀ b, (row2 b).length = sz) (hc : P.cellsOf t = sz) :
    Opn P t sz row2 G2 where
  len := hlen
  op := fun {H enc W fuel cs D ps} h hz => by
    obtain ⟨xs, n, _, hx, hl, hm, he⟩ := DataW.trod_struct hu h
    obtain ⟨rfl, _⟩ := Prod.mk.inj hx
    obtain ⟨x, hK, hG⟩ := hf.op (xs := xs) (by simpa using hm) (fun i f hf => he i f (by simpa using hf)) (fun n hn => hz n (by simp only [DataW.weights, hu]; exact hn)) (by omega)
    exact ⟨g x, by rw [hg]; simpa using hK, hG2 x hG⟩
end
theorem each_of {H : Type} {P : Program} {ts : List TypeId} {ds : List (DataW H)} (h : (DataW.weightsEach P ts ds).all (· ≤ reachBytes) = true) {j : Nat} {t : TypeId} {D : DataW H} (ht : ts[j]? = some t) (hd : ds[j]? = some D) : ∀ n ∈ DataW.weights P t D, n ≤ reachBytes := by
  intro n hn
  have := List.all_eq_true.1 h _ (DataW.weights_mem_each ht hd n hn)
  simpa using this
theorem arg_one {W : World} {t : T} {v : Value} (hv : v.cells.toList = [v]) (h : RdRow W [t] v.cells.toList) : AVr (inCx W fun b => b < W.heap.size) (.t t) v := by
  rw [hv] at h
  exact h.2 0 t v rfl rfl
theorem out_bool {w w' : World} {D : Dm} {b : Bool} {v : Value} (h : Out w D w' (.t (.bool b)) v) : v = .bool b ∧ Below w.heap.size w w' := by
  obtain ⟨h1, col, _, h2⟩ := h
  refine ⟨?_, h1.os, h1.tape, h1.output, h1.size, fun k hk => h1.block k hk (by simp)⟩
  have h3 : Rd (outCx w D w' col).w (outCx w D w' col).Dp (.bool b) v := h2
  cases h3
  rfl
end Go.Proofs.YtgkmbbiebmamaaaDoor.Am
namespace Go.Proofs.YtgkmbbiebmamaaaDoor.Am
open Go
set_option linter.unusedVariables false
set_option linter.unusedSimpArgs false
set_option maxRecDepth 100000
theorem lG_mk {α : Type} {G : α → Prop} {B : Nat} {xs : List α} (hB : 1 ≤ B) (h : xs.length * B ≤ 140737488351232 ∧ ∀ x ∈ xs, G x) : lG G xs :=
  ⟨Nat.le_trans (Nat.le_mul_of_pos_right _ hB) h.1, h.2⟩
def Stm.row (x : Stm) : List T := [.int .i64 x.last.t, .int .i64 x.last.n, .list false 3 (x.items.map It.row), .list false 4 (x.groups.map Gr.row)]
theorem Opn.weaken {P : Program} {t : TypeId} {sz : Nat} {α : Type} {row : α → List T} {G G' : α → Prop} (h : Opn P t sz row G) (hg : ∀ x, G x → G' x) : Opn P t sz row G' :=
  ⟨h.len, fun h1 h2 => by obtain ⟨x, a, b⟩ := h.op h1 h2; exact ⟨x, a, hg x b⟩⟩
end Go.Proofs.YtgkmbbiebmamaaaDoor.Am
namespace Go.Proofs.YtgkmbbiebmamaaaDoor.Am
open Go
set_option maxRecDepth 100000
set_option linter.unusedSimpArgs false
set_option linter.unusedVariables false
theorem opn_string : Opn Tryd.prog 9 1 (fun x : ByteArray => [T.str x]) (fun x => x.size ≤ 140737488351232) := Opn.string Tryd.underlying9
theorem opn_strings : Opn Tryd.prog 37 1 (fun xs : List Tx => [T.list false 1 (xs.map Tx.row)]) (lG Tx.G) :=
  (Opn.slice (row := Tx.row) (G := Tx.G) opn_string Tryd.underlying37 (by kernel_rfl) (by omega) (B := 16) (by kernel_rfl)).weaken fun _ => lG_mk (by omega)
end Go.Proofs.YtgkmbbiebmamaaaDoor.Am
