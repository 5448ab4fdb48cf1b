/- Texts of this claim, packed: walks and laws that its row stands on. Each states its own conditions. -/
import Derived.Below
import Derived.ChangeArms
import Derived.ChangeOld
import Derived.ChangeSlices
import Derived.DataElems
import Derived.OpenShut
import Derived.ProofKit
import Derived.Shelf.SlSortCmp.NoneTotal
import Derived.Shelf.SlSortCmp.WholeK
import Derived.ShutString
import Derived.SizedLaws
import Derived.Test.YthbhnjcnbnlidaaBFnExactScoresBoth1
namespace Go.Proofs.Ythbhnjcnbnlidaa.Am
open Go
set_option linter.unusedVariables false
def mixR (new old : List (List T)) (i : Nat) : List (List T) := new.take i ++ old.drop i
theorem mix_0 (new old : List (List T)) : mixR new old 0 = old := by simp [mixR]
theorem mix_all {new old : List (List T)} (h : new.length = old.length) : mixR new old old.length = new := by simp [mixR, ← h]
theorem mix_len {new old : List (List T)} {i : Nat} (h : new.length = old.length) (hi : i ≤ old.length) : (mixR new old i).length = old.length := by simp [mixR]; omega
theorem mix_getD {new old : List (List T)} {i : Nat} (h : new.length = old.length) (hi : i < old.length) : (mixR new old i).getD i [] = old.getD i [] := by
  have h1 : (new.take i).length = i := by simp; omega
  simp only [mixR, List.getD_eq_getElem?_getD]
  rw [List.getElem?_append_right (by omega), h1, Nat.sub_self]
  simp
theorem mix_set {new old : List (List T)} {i : Nat} (h : new.length = old.length) (hi : i < old.length) : (mixR new old i).set i (new.getD i []) = mixR new old (i + 1) := by
  have h1 : (new.take i).length = i := by simp; omega
  simp only [mixR]
  rw [List.set_append_right _ _ (by omega), h1, Nat.sub_self, List.take_succ_eq_append_getElem (by omega), List.append_assoc]
  congr 1
  rw [List.drop_eq_getElem_cons hi, List.set_cons_zero]
  simp [List.getD_eq_getElem?_getD, List.getElem?_eq_getElem (show i < new.length by omega)]
theorem set_getD {l : List (List T)} {i : Nat} (h : i < l.length) (r : List T) : (l.set i r).getD i [] = r := by
  simp [List.getD_eq_getElem?_getD, h]
def wSum {α : Type} (w : α → Nat) (l : List α) : Nat := (l.map w).sum
def wAll {α : Type} (w : α → Nat) (l : List α) : Nat := l.length + wSum w l
theorem wSum_take {α : Type} (w : α → Nat) (l : List α) {i : Nat} (h : i < l.length) : wSum w (l.take (i + 1)) = wSum w (l.take i) + w l[i] := by
  rw [List.take_succ_eq_append_getElem h]; unfold wSum; rw [List.map_append, List.sum_append]; simp only [List.map_cons, List.map_nil, List.sum_cons, List.sum_nil, Nat.add_zero]
theorem wSum_le {α : Type} (w : α → Nat) (l : List α) (i : Nat) : wSum w (l.take i) ≤ wSum w l := by
  have : l = l.take i ++ l.drop i := (List.take_append_drop i l).symm
  have h2 : wSum w l = wSum w (l.take i) + wSum w (l.drop i) := by
    conv => lhs; rw [this]
    unfold wSum; rw [List.map_append, List.sum_append]
  omega
theorem wSum_cons {α : Type} (w : α → Nat) (x : α) (l : List α) : wSum w (x :: l) = w x + wSum w l := by simp [wSum]
theorem wSum_const {α : Type} (c : Nat) (l : List α) : wSum (fun _ => c) l = c * l.length := by
  induction l with
  | nil => rfl
  | cons y l ih => rw [wSum_cons, ih, List.length_cons, Nat.mul_add, Nat.mul_one]; omega
def mkAll {α : Type} (m : α → Int → α) (w : α → Nat) : List α → Int → List α
  | [], _ => []
  | x :: xs, k => m x k :: mkAll m w xs (k + w x)
theorem mkAll_len {α : Type} (m : α → Int → α) (w : α → Nat) : ∀ (xs : List α) (k : Int), (mkAll m w xs k).length = xs.length
  | [], _ => rfl
  | x :: xs, k => by simp [mkAll, mkAll_len m w xs]
theorem mkAll_get {α : Type} (m : α → Int → α) (w : α → Nat) : ∀ (xs : List α) (k : Int) (i : Nat) (h : i < xs.length), (mkAll m w xs k)[i]'(by rw [mkAll_len]; exact h) = m xs[i] (k + wSum w (xs.take i))
  | x :: xs, k, 0, _ => by simp [mkAll, wSum]
  | x :: xs, k, i + 1, h => by
    simp only [mkAll, List.getElem_cons_succ, List.take_succ_cons, wSum_cons]
    rw [mkAll_get m w xs _ i (by simpa using h)]
    congr 1
    omega
theorem mkAll_getD {α : Type} (f : α → List T) (m : α → Int → α) (w : α → Nat) (xs : List α) (k : Int) {i : Nat} (h : i < xs.length) : ((mkAll m w xs k).map f).getD i [] = f (m xs[i] (k + wSum w (xs.take i))) := by
  rw [row_getD f _ (by rw [mkAll_len]; exact h), mkAll_get m w xs k i h]
theorem foldl_take {α β : Type} (f : β → α → β) (b : β) (l : List α) {i : Nat} (h : i < l.length) : (l.take (i + 1)).foldl f b = f ((l.take i).foldl f b) l[i] := by
  rw [List.take_succ_eq_append_getElem h, List.foldl_append]; rfl
end Go.Proofs.Ythbhnjcnbnlidaa.Am
namespace Go.Proofs.Ythbhnjcnbnlidaa.Am
open Go
@[ext] structure Pr where
  k : ByteArray
  v : ByteArray
deriving DecidableEq
@[ext] structure Idt where
  t : Int
  n : Int
deriving DecidableEq
@[ext] structure It where
  id : Idt
  fields : List Pr
deriving DecidableEq
@[ext] structure Wt where
  id : Idt
  who : ByteArray
  at' : Int
  tm : Int
deriving DecidableEq
@[ext] structure Gr where
  name : ByteArray
  last : Idt
  waits : List Wt
deriving DecidableEq
@[ext] structure Stm where
  last : Idt
  items : List It
  groups : List Gr
deriving DecidableEq
def Pr.row (x : Pr) : List T := [.str x.k, .str x.v]
def It.row (x : It) : List T := [.int .i64 x.id.t, .int .i64 x.id.n, .list false 2 (x.fields.map Pr.row)]
def Wt.row (x : Wt) : List T := [.int .i64 x.id.t, .int .i64 x.id.n, .str x.who, .int .i64 x.at', .int .i64 x.tm]
def Gr.row (x : Gr) : List T := [.str x.name, .int .i64 x.last.t, .int .i64 x.last.n, .list false 5 (x.waits.map Wt.row)]
def It.rowO (x : It) : List T := [.int .i64 x.id.t, .int .i64 x.id.n, .list true 2 (x.fields.map Pr.row)]
def Gr.rowO (x : Gr) : List T := [.str x.name, .int .i64 x.last.t, .int .i64 x.last.n, .list true 5 (x.waits.map Wt.row)]
def cutM (n : Int) (w : Nat) : Int := if n < w then -1 else n - w
theorem cutM_lt (n : Int) (w : Nat) : cutM n w < 0 ↔ n < w := by unfold cutM; split <;> omega
theorem cutM_ge {n : Int} {w : Nat} (h : ¬ n < w) : cutM n w = n - w := by simp [cutM, h]
def Pr.w (x : Pr) : Nat := x.k.size + x.v.size
def It.w (x : It) : Nat := wAll Pr.w x.fields
def Wt.w (x : Wt) : Nat := x.who.size
def Gr.w (x : Gr) : Nat := x.name.size + wAll Wt.w x.waits
def Stm.w (x : Stm) : Nat := wAll It.w x.items + wAll Gr.w x.groups
def ts (l : List T) : List AV := l.map .t
abbrev Pr.av (x : Pr) : AV := .agg [.t (.str x.k), .t (.str x.v)]
abbrev Idt.av (x : Idt) : AV := .agg [I x.t, I x.n]
abbrev It.av (x : It) : AV := .agg [I x.id.t, I x.id.n, .t (.list false 2 (x.fields.map Pr.row))]
abbrev Wt.av (x : Wt) : AV := .agg [I x.id.t, I x.id.n, .t (.str x.who), I x.at', I x.tm]
abbrev Gr.av (x : Gr) : AV := .agg [.t (.str x.name), I x.last.t, I x.last.n, .t (.list false 5 (x.waits.map Wt.row))]
abbrev Stm.av (x : Stm) : AV := .agg [I x.last.t, I x.last.n, .t (.list false 3 (x.items.map It.row)), .t (.list false 4 (x.groups.map Gr.row))]
theorem bytesEq_iff (a b : ByteArray) : bytesEq a b = decide (a = b) := by
  unfold bytesEq
  rw [ByteArray.toList_eq, ByteArray.toList_eq]
  obtain ⟨⟨x⟩⟩ := a
  obtain ⟨⟨y⟩⟩ := b
  by_cases h : x = y
  · subst h; simp
  · have h1 : (x == y) = false := by simpa using h
    simp [h, h1]
theorem mk_rows {α : Type} (f : α → List T) (h : ∀ x, (f x).map (T.mk false) = f x) (l : List α) : (l.map f).map (List.map (T.mk false)) = l.map f := by
  rw [List.map_map]
  exact List.map_congr_left fun x _ => h x
theorem Pr.mk_rows (l : List Pr) : (l.map Pr.row).map (List.map (T.mk false)) = l.map Pr.row := Am.mk_rows _ (fun _ => rfl) l
theorem Wt.mk_rows (l : List Wt) : (l.map Wt.row).map (List.map (T.mk false)) = l.map Wt.row := Am.mk_rows _ (fun _ => rfl) l
theorem It.mk_rows (l : List It) : (l.map It.row).map (List.map (T.mk false)) = l.map It.row := Am.mk_rows _ (fun x => by simp only [It.row, List.map_cons, List.map_nil, T.mk_list, T.mk_int, Pr.mk_rows]) l
theorem Gr.mk_rows (l : List Gr) : (l.map Gr.row).map (List.map (T.mk false)) = l.map Gr.row := Am.mk_rows _ (fun x => by simp only [Gr.row, List.map_cons, List.map_nil, T.mk_list, T.mk_int, T.mk_str, Wt.mk_rows]) l
attribute [go_sem] bytesEq_iff Pr.mk_rows Wt.mk_rows It.mk_rows Gr.mk_rows
end Go.Proofs.Ythbhnjcnbnlidaa.Am
namespace Go.Proofs.Ythbhnjcnbnlidaa.Am
open Go
set_option maxRecDepth 100000
set_option linter.unusedSimpArgs false
set_option linter.unusedVariables false
theorem s_isNaN (n : Int) : Spec Try.prog 125 [I n] (fun r => r = Bo false) := by
  refine Spec.of tysOk mixed Try.func125 rfl (by decide) ?_
  simp -implicitDefEqProofs only [go_sem, Try.f125]
theorem p_isNaN : Plain Try.prog 125 := ⟨_, Try.func125, rfl, by decide⟩
def cmpM (a b : Int) : Int := if a < b then -1 else if b < a then 1 else 0
theorem s_compare (a b : Int) : Spec Try.prog 93 [I a, I b] (fun r => r = I (cmpM a b)) := by
  refine Spec.of tysOk mixed Try.func93 rfl (by decide) ?_
  simp -implicitDefEqProofs only [go_sem, Try.f93]
  refine .one (s_isNaN _) p_isNaN rfl trivial ?_
  simp -implicitDefEqProofs only [go_sem]
  refine .one (s_isNaN _) p_isNaN rfl trivial ?_
  simp -implicitDefEqProofs only [go_sem]
  refine BrA_i (fun h => ?_) (fun h => ?_)
  · simp -implicitDefEqProofs only [go_sem]; simp_all [cmpM]
  · simp -implicitDefEqProofs only [go_sem]
    refine BrA_i (fun h => ?_) (fun h => ?_) <;> simp -implicitDefEqProofs only [go_sem] <;> simp_all [cmpM] <;> omega
theorem p_compare : Plain Try.prog 93 := ⟨_, Try.func93, rfl, by decide⟩
def firstM (xs : List Int) : Int := (xs.find? (· != 0)).getD 0
theorem s_or (xs : List Int) (hx : xs.length < 1000000) : Spec Try.prog 92 [.t (.list false 1 (xs.map fun n => [T.int .i64 n]))] (fun r => r = I (firstM xs)) := by
  refine Spec.of tysOk mixed Try.func92 rfl (by decide) ?_
  simp -implicitDefEqProofs only [go_sem, Try.f92]
  refine LoopW.slots (α := Nat) (fun i => [(8, I i)]) (fun _ => []) (fun i => xs.length - i) (fun i => i ≤ xs.length ∧ (∀ n ∈ xs.take i, n = 0)) 0 rfl rfl (by simp) ?_
  rintro i ⟨hi, hz⟩
  simp -implicitDefEqProofs only [go_sem]
  refine BrA_i (fun h => ?_) (fun h => ?_)
  · have h : i < xs.length := by simp at h; omega
    simp -implicitDefEqProofs only [go_sem, row_getD _ _ h]
    refine ⟨⟨by omega, by omega⟩, BrA_i (fun h0 => ?_) (fun h0 => ?_)⟩
    rotate_left
    · simp -implicitDefEqProofs only [go_sem]
      have hz' : ∀ n ∈ xs.take i, ¬ ((n != 0) = true) := fun n hn => by simp [hz n hn]
      have : xs = xs.take i ++ xs[i] :: xs.drop (i + 1) := by simp
      have h0 : (xs[i] != 0) = true := by simpa using h0
      have h1 : xs.find? (· != 0) = some xs[i] := by
        rw [List.find?_eq_some_iff_append]
        exact ⟨h0, _, _, this, fun n hn => by simp [hz n hn]⟩
      unfold firstM; rw [h1]; rfl
    · simp -implicitDefEqProofs only [go_sem]
      refine .to [] (i + 1) rfl ?_ rfl (by omega) ⟨h, ?_⟩
      · simp -implicitDefEqProofs only [go_sem, LeTs_undef, LeTs_same]
        simp only [wrap64 (n := (i : Int) + 1) (by omega) (by omega)]
        simp [LeTs]
      · intro n hn
        simp at h0
        rw [List.take_succ_eq_append_getElem h, List.mem_append, List.mem_singleton] at hn
        rcases hn with hn | hn
        · exact hz n hn
        · rw [hn]; exact h0
  · simp -implicitDefEqProofs only [go_sem]
    have h : i = xs.length := by simp at h; omega
    subst h
    have : xs.find? (· != 0) = none := List.find?_eq_none.2 fun n hn => by simp [hz n (by simpa using hn)]
    simp [firstM, this]
theorem p_or : Plain Try.prog 92 := ⟨_, Try.func92, rfl, by decide⟩
theorem find2 (x y : Int) : firstM [x, y] = if x = 0 then y else x := by
  unfold firstM
  by_cases h : x = 0 <;> by_cases h' : y = 0 <;> simp [List.find?_cons, h, h', bne]
  all_goals (split <;> simp_all)
def withinM (n lo hi : Int) : Bool := decide (lo ≤ n) && decide (n ≤ hi)
theorem s_within (n lo hi : Int) : Spec Try.prog 64 [I n, I lo, I hi] (fun r => r = Bo (withinM n lo hi)) := by
  refine Spec.of tysOk mixed Try.func64 rfl (by decide) ?_
  simp -implicitDefEqProofs only [go_sem, Try.f64]
  refine BrA_i (fun h => ?_) (fun h => ?_) <;> simp -implicitDefEqProofs only [go_sem] <;> simp_all [withinM] <;> omega
theorem p_within : Plain Try.prog 64 := ⟨_, Try.func64, rfl, by decide⟩
end Go.Proofs.Ythbhnjcnbnlidaa.Am
namespace Go.Proofs.Ythbhnjcnbnlidaa.Am
open Go
set_option linter.unusedSimpArgs false
set_option linter.unusedVariables false
theorem bl_irrefl : ∀ x : List UInt8, Op.bytesLess x x = false
  | [] => rfl
  | a :: x => by simp [Op.bytesLess, bl_irrefl x]
theorem bl_trans : ∀ {x y z : List UInt8}, Op.bytesLess x y = true → Op.bytesLess y z = true → Op.bytesLess x z = true
  | _, [], _, h, _ => by simp [Op.bytesLess] at h
  | _, _ :: _, [], _, h => by simp [Op.bytesLess] at h
  | [], _ :: _, _ :: _, _, _ => rfl
  | a :: x, b :: y, c :: z, h, h' => by
    simp only [Op.bytesLess, Bool.or_eq_true, Bool.and_eq_true, decide_eq_true_eq, beq_iff_eq] at h h' ⊢
    rcases h with h | ⟨rfl, h⟩
    · rcases h' with h' | ⟨rfl, h'⟩
      · exact .inl (UInt8.lt_trans h h')
      · exact .inl h
    · rcases h' with h' | ⟨rfl, h'⟩
      · exact .inl h'
      · exact .inr ⟨rfl, bl_trans h h'⟩
theorem bl_total : ∀ {x y : List UInt8}, x ≠ y → Op.bytesLess x y = false → Op.bytesLess y x = true
  | [], [], h, _ => absurd rfl h
  | [], _ :: _, _, h => by simp [Op.bytesLess] at h
  | _ :: _, [], _, _ => rfl
  | a :: x, b :: y, h, h' => by
    simp only [Op.bytesLess, Bool.or_eq_false_iff, Bool.and_eq_false_iff, decide_eq_false_iff_not, beq_eq_false_iff_ne, ne_eq] at h'
    simp only [Op.bytesLess, Bool.or_eq_true, Bool.and_eq_true, decide_eq_true_eq, beq_iff_eq]
    obtain ⟨h1, h2⟩ := h'
    by_cases e : a = b
    · subst e
      refine .inr ⟨rfl, bl_total (fun e => h (by rw [e])) (by simpa using h2)⟩
    · have hne : a.toNat ≠ b.toNat := fun h => e (UInt8.toNat_inj.1 h)
      have h3 : a.toNat < b.toNat ∨ b.toNat < a.toNat := by omega
      rcases h3 with h3 | h3
      · exact absurd (UInt8.lt_iff_toNat_lt.2 h3) h1
      · exact .inl (UInt8.lt_iff_toNat_lt.2 h3)
theorem bytesLt_irrefl (a : ByteArray) : bytesLt a a = false := bl_irrefl _
theorem bytesLt_trans {a b c : ByteArray} (h : bytesLt a b = true) (h' : bytesLt b c = true) : bytesLt a c = true := bl_trans h h'
theorem bytesLt_total {a b : ByteArray} (h : a ≠ b) (h' : bytesLt a b = false) : bytesLt b a = true := by
  refine bl_total (fun e => h ?_) h'
  have := bytesEq_iff a b
  unfold bytesEq at this
  rw [e] at this
  simpa using this
end Go.Proofs.Ythbhnjcnbnlidaa.Am
namespace Go.Proofs.Ythbhnjcnbnlidaa.Am
open Go
set_option maxRecDepth 100000
set_option maxHeartbeats 1000000
set_option linter.unusedSimpArgs false
set_option linter.unusedVariables false
def cmpS (a b : ByteArray) : Int := if bytesLt a b = true then -1 else if a = b then 0 else 1
theorem cmpS_lt (a b : ByteArray) : decide (cmpS a b < 0) = bytesLt a b := by
  unfold cmpS
  cases h : bytesLt a b
  · by_cases e : a = b <;> simp [e]
  · simp
theorem p_isNaNS : Plain Try.prog 126 := ⟨_, Try.func126, rfl, by decide⟩
theorem s_isNaNS (n : ByteArray) : Spec Try.prog 126 [.t (.str n)] (fun r => r = Bo false) := by
  refine Spec.of tysOk mixed Try.func126 rfl (by decide) ?_
  simp -implicitDefEqProofs only [go_sem, Try.f126]
theorem p_compareS : Plain Try.prog 94 := ⟨_, Try.func94, rfl, by decide⟩
theorem s_compareS (a b : ByteArray) : Spec Try.prog 94 [.t (.str a), .t (.str b)] (fun r => r = I (cmpS a b)) := by
  refine Spec.of tysOk mixed Try.func94 rfl (by decide) ?_
  simp -implicitDefEqProofs only [go_sem, Try.f94]
  refine .one (s_isNaNS _) p_isNaNS rfl trivial ?_
  simp -implicitDefEqProofs only [go_sem]
  refine .one (s_isNaNS _) p_isNaNS rfl trivial ?_
  simp -implicitDefEqProofs only [go_sem]
  refine BrA_i (fun h => ?_) (fun h => ?_)
  · simp -implicitDefEqProofs only [go_sem]; simp [cmpS, h]
  · simp -implicitDefEqProofs only [go_sem]
    refine BrA_i (fun h2 => ?_) (fun h2 => ?_) <;> simp -implicitDefEqProofs only [go_sem] <;> simp_all [cmpS]
end Go.Proofs.Ythbhnjcnbnlidaa.Am
namespace Go.Proofs.Ythbhnjcnbnlidaa.Am
open Go
set_option maxRecDepth 100000
set_option linter.unusedSimpArgs false
set_option linter.unusedVariables false
def Idt.row (x : Idt) : List T := [.int .i64 x.t, .int .i64 x.n]
def lG {α : Type} (G : α → Prop) (xs : List α) : Prop := xs.length ≤ 140737488351232 ∧ ∀ x ∈ xs, G x
def Pr.G (x : Pr) : Prop := x.k.size ≤ 140737488351232 ∧ x.v.size ≤ 140737488351232
def It.G (x : It) : Prop := lG Pr.G x.fields
def Wt.G (x : Wt) : Prop := x.who.size ≤ 140737488351232
def Gr.G (x : Gr) : Prop := x.name.size ≤ 140737488351232 ∧ lG Wt.G x.waits
def Stm.G (x : Stm) : Prop := lG It.G x.items ∧ lG Gr.G x.groups
end Go.Proofs.Ythbhnjcnbnlidaa.Am
namespace Go.Proofs.Ythbhnjcnbnlidaa.Am
open Go
set_option maxRecDepth 100000
set_option linter.unusedSimpArgs false
set_option linter.unusedVariables false
abbrev Tx := ByteArray
abbrev Or := List Tx
def Tx.row (x : Tx) : List T := [.str x]
def Tx.w (x : Tx) : Nat := x.size
def Or.row (x : Or) : List T := [.list false 1 (x.map Tx.row)]
def Or.rowO (x : Or) : List T := [.list true 1 (x.map Tx.row)]
def Or.w (x : Or) : Nat := wAll Tx.w x
def Tx.G (x : Tx) : Prop := x.size ≤ 140737488351232
def Or.G (x : Or) : Prop := lG Tx.G x
@[ext] structure Sc where
  text : ByteArray
  num : Int
deriving DecidableEq
@[ext] structure En where
  key : ByteArray
  till : Int
  kind : Int
  text : ByteArray
  list : List Tx
  scores : List Sc
  fields : List Pr
deriving DecidableEq
@[ext] structure Bs where
  now : Int
  ents : List En
deriving DecidableEq
@[ext] structure Cl where
  multi : Bool
  wrong : Bool
  queue : List Or
  watch : List Tx
  touch : Bool
  hears : List Tx
deriving DecidableEq
@[ext] structure Sv where
  base : Bs
  file : ByteArray
  cls : List Cl
deriving DecidableEq
@[ext] structure Ld where
  srv : Sv
  hist : Int
deriving DecidableEq
@[ext] structure Fo where
  hist : Int
  text : ByteArray
  base : Bs
deriving DecidableEq
@[ext] structure Pac where
  full : Bool
  hist : Int
  pos : Int
  text : ByteArray
  now : Int
deriving DecidableEq
def Sc.row (x : Sc) : List T := [.str x.text, .int .i64 x.num]
abbrev Sc.av (x : Sc) : AV := .agg [.t (.str x.text), I x.num]
def Sc.w (x : Sc) : Nat := x.text.size
def Sc.G (x : Sc) : Prop := x.text.size ≤ 140737488351232
def En.row (x : En) : List T := [.str x.key, .int .i64 x.till, .int .i64 x.kind, .str x.text, .list false 1 (x.list.map Tx.row), .list false 2 (x.scores.map Sc.row), .list false 2 (x.fields.map Pr.row)]
def En.rowO (x : En) : List T := [.str x.key, .int .i64 x.till, .int .i64 x.kind, .str x.text, .list true 1 (x.list.map Tx.row), .list true 2 (x.scores.map Sc.row), .list true 2 (x.fields.map Pr.row)]
abbrev En.av (x : En) : AV := .agg [.t (.str x.key), I x.till, I x.kind, .t (.str x.text), .t (.list false 1 (x.list.map Tx.row)), .t (.list false 2 (x.scores.map Sc.row)), .t (.list false 2 (x.fields.map Pr.row))]
def En.w (x : En) : Nat := x.key.size + x.text.size + wAll Tx.w x.list + wAll Sc.w x.scores + wAll Pr.w x.fields
def En.G (x : En) : Prop := x.key.size ≤ 140737488351232 ∧ x.text.size ≤ 140737488351232 ∧ lG Tx.G x.list ∧ lG Sc.G x.scores ∧ lG Pr.G x.fields
def Bs.row (x : Bs) : List T := [.int .i64 x.now, .list false 7 (x.ents.map En.row)]
def Bs.rowO (x : Bs) : List T := [.int .i64 x.now, .list true 7 (x.ents.map En.rowO)]
abbrev Bs.av (x : Bs) : AV := .agg [I x.now, .t (.list false 7 (x.ents.map En.row))]
def Bs.w (x : Bs) : Nat := wAll En.w x.ents
def Bs.G (x : Bs) : Prop := lG En.G x.ents
def Cl.row (x : Cl) : List T := [.bool x.multi, .bool x.wrong, .list false 1 (x.queue.map Or.row), .list false 1 (x.watch.map Tx.row), .bool x.touch, .list false 1 (x.hears.map Tx.row)]
def Cl.rowO (x : Cl) : List T := [.bool x.multi, .bool x.wrong, .list true 1 (x.queue.map Or.rowO), .list true 1 (x.watch.map Tx.row), .bool x.touch, .list true 1 (x.hears.map Tx.row)]
abbrev Cl.av (x : Cl) : AV := .agg [Bo x.multi, Bo x.wrong, .t (.list false 1 (x.queue.map Or.row)), .t (.list false 1 (x.watch.map Tx.row)), Bo x.touch, .t (.list false 1 (x.hears.map Tx.row))]
def Cl.w (x : Cl) : Nat := wAll Or.w x.queue + wAll Tx.w x.watch + wAll Tx.w x.hears
def Cl.G (x : Cl) : Prop := lG Or.G x.queue ∧ lG Tx.G x.watch ∧ lG Tx.G x.hears
def Sv.row (x : Sv) : List T := [.int .i64 x.base.now, .list false 7 (x.base.ents.map En.row), .str x.file, .list false 6 (x.cls.map Cl.row)]
def Sv.rowO (x : Sv) : List T := [.int .i64 x.base.now, .list true 7 (x.base.ents.map En.rowO), .str x.file, .list true 6 (x.cls.map Cl.rowO)]
abbrev Sv.av (x : Sv) : AV := .agg [I x.base.now, .t (.list false 7 (x.base.ents.map En.row)), .t (.str x.file), .t (.list false 6 (x.cls.map Cl.row))]
def Sv.w (x : Sv) : Nat := Bs.w x.base + x.file.size + wAll Cl.w x.cls
def Sv.G (x : Sv) : Prop := Bs.G x.base ∧ x.file.size ≤ 140737488351232 ∧ lG Cl.G x.cls
def Ld.row (x : Ld) : List T := [.int .i64 x.srv.base.now, .list false 7 (x.srv.base.ents.map En.row), .str x.srv.file, .list false 6 (x.srv.cls.map Cl.row), .int .i64 x.hist]
def Ld.rowO (x : Ld) : List T := [.int .i64 x.srv.base.now, .list true 7 (x.srv.base.ents.map En.rowO), .str x.srv.file, .list true 6 (x.srv.cls.map Cl.rowO), .int .i64 x.hist]
abbrev Ld.av (x : Ld) : AV := .agg [I x.srv.base.now, .t (.list false 7 (x.srv.base.ents.map En.row)), .t (.str x.srv.file), .t (.list false 6 (x.srv.cls.map Cl.row)), I x.hist]
def Ld.w (x : Ld) : Nat := Sv.w x.srv
def Ld.G (x : Ld) : Prop := Sv.G x.srv
def Fo.row (x : Fo) : List T := [.int .i64 x.hist, .str x.text, .int .i64 x.base.now, .list false 7 (x.base.ents.map En.row)]
def Fo.rowO (x : Fo) : List T := [.int .i64 x.hist, .str x.text, .int .i64 x.base.now, .list true 7 (x.base.ents.map En.rowO)]
abbrev Fo.av (x : Fo) : AV := .agg [I x.hist, .t (.str x.text), I x.base.now, .t (.list false 7 (x.base.ents.map En.row))]
def Fo.w (x : Fo) : Nat := x.text.size + Bs.w x.base
def Fo.G (x : Fo) : Prop := x.text.size ≤ 140737488351232 ∧ Bs.G x.base
def Pac.row (x : Pac) : List T := [.bool x.full, .int .i64 x.hist, .int .i64 x.pos, .str x.text, .int .i64 x.now]
abbrev Pac.av (x : Pac) : AV := .agg [Bo x.full, I x.hist, I x.pos, .t (.str x.text), I x.now]
def Pac.w (x : Pac) : Nat := x.text.size
def Pac.G (x : Pac) : Prop := x.text.size ≤ 140737488351232
theorem Tx.mk_rows (l : List Tx) : (l.map Tx.row).map (List.map (T.mk false)) = l.map Tx.row := Am.mk_rows _ (fun _ => rfl) l
theorem Or.mk_rows (l : List Or) : (l.map Or.row).map (List.map (T.mk false)) = l.map Or.row := Am.mk_rows _ (fun x => by simp only [Or.row, List.map_cons, List.map_nil, T.mk_list, T.mk_int, T.mk_str, T.mk_bool, Pr.mk_rows, Tx.mk_rows]) l
theorem Or.mk_rowsO (l : List Or) : (l.map Or.rowO).map (List.map (T.mk false)) = l.map Or.row := by
  rw [List.map_map]; exact List.map_congr_left fun x _ => by simp only [Function.comp, Or.rowO, Or.row, List.map_cons, List.map_nil, T.mk_list, T.mk_int, T.mk_str, T.mk_bool, Pr.mk_rows, Tx.mk_rows]
theorem Sc.mk_rows (l : List Sc) : (l.map Sc.row).map (List.map (T.mk false)) = l.map Sc.row := Am.mk_rows _ (fun x => by simp only [Sc.row, List.map_cons, List.map_nil, T.mk_list, T.mk_int, T.mk_str, T.mk_bool, Pr.mk_rows, Tx.mk_rows, Or.mk_rows]) l
theorem En.mk_rows (l : List En) : (l.map En.row).map (List.map (T.mk false)) = l.map En.row := Am.mk_rows _ (fun x => by simp only [En.row, List.map_cons, List.map_nil, T.mk_list, T.mk_int, T.mk_str, T.mk_bool, Pr.mk_rows, Tx.mk_rows, Or.mk_rows, Sc.mk_rows]) l
theorem En.mk_rowsO (l : List En) : (l.map En.rowO).map (List.map (T.mk false)) = l.map En.row := by
  rw [List.map_map]; exact List.map_congr_left fun x _ => by simp only [Function.comp, En.rowO, En.row, List.map_cons, List.map_nil, T.mk_list, T.mk_int, T.mk_str, T.mk_bool, Pr.mk_rows, Tx.mk_rows, Or.mk_rows, Sc.mk_rows, Or.mk_rowsO]
theorem Cl.mk_rows (l : List Cl) : (l.map Cl.row).map (List.map (T.mk false)) = l.map Cl.row := Am.mk_rows _ (fun x => by simp only [Cl.row, List.map_cons, List.map_nil, T.mk_list, T.mk_int, T.mk_str, T.mk_bool, Pr.mk_rows, Tx.mk_rows, Or.mk_rows, Sc.mk_rows, En.mk_rows]) l
theorem Cl.mk_rowsO (l : List Cl) : (l.map Cl.rowO).map (List.map (T.mk false)) = l.map Cl.row := by
  rw [List.map_map]; exact List.map_congr_left fun x _ => by simp only [Function.comp, Cl.rowO, Cl.row, List.map_cons, List.map_nil, T.mk_list, T.mk_int, T.mk_str, T.mk_bool, Pr.mk_rows, Tx.mk_rows, Or.mk_rows, Sc.mk_rows, En.mk_rows, Or.mk_rowsO, En.mk_rowsO]
attribute [go_sem] Tx.mk_rows Or.mk_rows Or.mk_rowsO Sc.mk_rows En.mk_rows En.mk_rowsO Cl.mk_rows Cl.mk_rowsO
end Go.Proofs.Ythbhnjcnbnlidaa.Am
namespace Go.Proofs.Ythbhnjcnbnlidaa.Am
open Go
set_option linter.unusedVariables false
def mkC : AV → AV
  | .t x => .t (x.mk false)
  | x => x
def mkCs : List AV → List AV
  | [] => []
  | x :: l => mkC x :: mkCs l
def mkV : AV → AV
  | .agg cs => .agg (mkCs cs)
  | x => mkC x
def mkVs : List AV → List AV
  | [] => []
  | x :: l => mkV x :: mkVs l
def mkR : AV → AV
  | .tup l => .tup (mkVs l)
  | x => mkV x
theorem ResC.mk {c : Cx} {col : Col} {i j : Nat} {x : AV} {v : Value} (h : ResC c col i j x v) : ResC c col i j (mkC x) v := by
  cases x <;> first | exact Rd.mk false h | exact h
theorem ResCs.mk {c : Cx} {col : Col} {i : Nat} : ∀ {xs : List AV} {vs : List Value} {j : Nat}, ResCs c col i j xs vs → ResCs c col i j (mkCs xs) vs
  | [], [], _, _ => trivial
  | x :: xs, v :: vs, j, h => ⟨ResC.mk h.1, ResCs.mk h.2⟩
  | [], _ :: _, _, h => h.elim
  | _ :: _, [], _, h => h.elim
theorem ResV.mk {c : Cx} {col : Col} {i : Nat} {x : AV} {v : Value} (h : ResV c col i x v) : ResV c col i (mkV x) v := by
  cases x with
  | agg cs => obtain ⟨vs, e, h⟩ := h; exact ⟨vs, e, ResCs.mk h⟩
  | t y => exact ResC.mk (c := c) (col := col) (i := i) (j := 0) (x := .t y) h
  | _ => exact h
theorem ResVs.mk {c : Cx} {col : Col} : ∀ {xs : List AV} {vs : List Value} {i : Nat}, ResVs c col i xs vs → ResVs c col i (mkVs xs) vs
  | [], [], _, _ => trivial
  | x :: xs, v :: vs, i, h => ⟨ResV.mk h.1, ResVs.mk h.2⟩
  | [], _ :: _, _, h => h.elim
  | _ :: _, [], _, h => h.elim
theorem ResR.mk {c : Cx} {col : Col} {r : AV} {v : Value} (h : ResR c col r v) : ResR c col (mkR r) v := by
  cases r with
  | tup xs => obtain ⟨vs, e, h⟩ := h; exact ⟨vs, e, ResVs.mk h⟩
  | agg cs => exact ResV.mk (c := c) (col := col) (i := 0) (x := .agg cs) h
  | t y => exact ResV.mk (c := c) (col := col) (i := 0) (x := .t y) h
  | _ => exact h
theorem Spec.mkR {P : Program} {f : FuncId} {args : List AV} {Q : AV → Prop} (h : Spec P f args Q) : Spec P f args (fun r => ∃ r0, Q r0 ∧ r = Am.mkR r0) := fun w D vs hD hv => (h w D vs hD hv).mono fun e w' ⟨v, r, he, hq, hs, col, hc, hr⟩ =>
  ⟨v, Am.mkR r, he, ⟨r, hq, rfl⟩, hs, col, hc, hr.mk⟩
theorem LeS.freeze {s s' : St} {k : Nat} (h : s.freeze k = some s') : LeS s s' := fun B a w ⟨ρ, col, hs⟩ => by
  obtain ⟨sz, rs, hk, hn, hp, rfl⟩ := freeze_some h
  exact ⟨_, _, (hs.freeze hk hn hp).1⟩
theorem LeS.freezes : ∀ {ks : List Nat} {s s' : St}, s.freezes ks = some s' → LeS s s'
  | [], s, s', h => by simp [St.freezes] at h; subst h; exact LeS.refl _
  | k :: ks, s, s', h => by
    simp only [St.freezes, Option.bind_eq_some_iff] at h
    obtain ⟨s1, h1, h2⟩ := h
    exact (LeS.freeze h1).trans (LeS.freezes h2)
theorem LeS.rfz {s s' : St} {k : Nat} (h : s.rfz k = some s') : LeS s s' := fun B a w ⟨ρ, col, hs⟩ => by
  obtain ⟨sz, rs, hk, hn, hp, rfl⟩ := rfz_some h
  exact ⟨_, _, (hs.rfz hk hn hp).1⟩
theorem LoopW.fz {body : (Exit → St → Prop) → St → Prop} {K : Exit → St → Prop} {s s0 : St} (ks : List Nat) (h : s.freezes ks = some s0) (hl : LoopW body K s0) : LoopW body K s := hl.le (LeS.freezes h)
attribute [go_sem] mkC mkCs mkV mkVs mkR
end Go.Proofs.Ythbhnjcnbnlidaa.Am
namespace Go.Proofs.Ythbhnjcnbnlidaa.Am
open Go Go.Sort
set_option linter.unusedVariables false
set_option linter.unusedSimpArgs false
structure El (sz : Nat) (typed : List T → List Value → Prop) where
  row : List T
  val : List Value
  rl : row.length = sz
  vl : val.length = sz
  one : ∀ v ∈ val, v.oneCell' = true
  ty : typed row val
structure RawSort (P : Program) (f g : FuncId) (sz : Nat) (typed : List T → List Value → Prop) (cf : List T → List T → Int) : Prop where
  nil : ∀ (w : World) (a : Option Addr) (cap : Nat), Calls P f #[.slice a 0 cap, .func (.func g) #[] #[]] w fun e w' => e = .returned (.tuple #[]) ∧ w' = w
  row : ∀ [Inhabited (El sz typed)] (w : World) (b cap : Nat) (d : Array (El sz typed)), HoldsK El.val sz w b 0 d → b < w.heap.size → d.size < 4611686018427387904 →
    Calls P f #[.slice (some ⟨b, 0, none⟩) d.size cap, .func (.func g) #[] #[]] w fun e w' => e = .returned (.tuple #[]) ∧ ∃ d' n os, PermIn 0 d.size d d' ∧ SortedIn (ltOf fun x y : El sz typed => cf x.row y.row) 0 d.size d' ∧ w' = sortWorldK El.val sz w b 0 n d' os
theorem list_choice {α : Type} {p : Nat → α → Prop} : ∀ (n : Nat), (∀ i, i < n → ∃ a, p i a) → ∃ l : List α, l.length = n ∧ ∀ i (h : i < l.length), p i l[i]
  | 0, _ => ⟨[], rfl, fun i h => absurd h (Nat.not_lt_zero i)⟩
  | n + 1, h => by
    obtain ⟨l, h1, h2⟩ := list_choice n fun i hi => h i (by omega)
    obtain ⟨a, ha⟩ := h n (by omega)
    refine ⟨l ++ [a], by simp [h1], fun i hi => ?_⟩
    by_cases hl : i < l.length
    · rw [List.getElem_append_left hl]; exact h2 i hl
    · have : i = n := by simp at hi; omega
      subst this
      rw [List.getElem_append_right (by omega)]
      simpa [h1] using ha
theorem get!_list {α : Type} [Inhabited α] (l : List α) (i : Nat) (h : i < l.length) : l.toArray[i]! = l[i] := by simp [h]
theorem sortWorld_block {α : Type} [Inhabited α] (enc : α → List Value) (k : Nat) (w : World) (b n : Nat) (d : Array α) (os : Array Obj) (hb : b < w.heap.size) :
    (∀ b1, b1 < w.heap.size → b1 ≠ b → (sortWorldK enc k w b 0 n d os).heap[b1]? = w.heap[b1]?) ∧
    (∀ cells e fr, w.heap[b]? = some (.cells cells e fr) → ∃ cells', cells'.size = cells.size ∧ (sortWorldK enc k w b 0 n d os).heap[b]? = some (.cells cells' e fr)) := by
  refine ⟨fun b1 h1 hne => ?_, fun cells e fr hc => ?_⟩
  · show ((w.heap.modify b _) ++ os)[b1]? = _
    rw [Array.getElem?_append_left (by simpa using h1), Array.getElem?_modify, if_neg (fun h => hne h.symm)]
  · refine ⟨putCells id 0 (flatK enc k d) cells, by simp [putCells], ?_⟩
    show ((w.heap.modify b _) ++ os)[b]? = _
    rw [Array.getElem?_append_left (by simpa using hb), Array.getElem?_modify, if_pos rfl, hc]
    rfl
theorem SpecO_sort {P : Program} {f g : FuncId} {sz : Nat} {typed : List T → List Value → Prop} {cf : List T → List T → Int} (raw : RawSort P f g sz typed cf) (hsz : 0 < sz)
    {rs : List (List T)} (hl : rs.length < 4611686018427387904) (hflat : ∀ r ∈ rs, ∀ x ∈ r, x.flat)
    (hty : ∀ r ∈ rs, ∀ (w : World) (D : Dm) (vs : List Value), vs.length = r.length → (∀ (j : Nat) x v, r[j]? = some x → vs[j]? = some v → Rd w D x v) → typed r vs) :
    SpecO P f [.refw 9000, .fn g []] [(9000, .rows sz rs)] (fun r h => r = .tup [] ∧ ∃ rs', rs'.Perm rs ∧ (∀ i j (hi : i < j) (hj : j < rs'.length), ¬ cf rs'[j] (rs'[i]'(by omega)) < 0) ∧ h = [(9000, .rows sz rs')]) := by
  intro w D ρ col vs hh hv
  match vs, hv with
  | [v0, v1], ⟨⟨sz', rs', g1, g2⟩, h1, _⟩ =>
    obtain ⟨vs1, rfl, hvs1⟩ := h1
    match vs1, hvs1 with
    | [], _ =>
    have hk : hget [(9000, Blk.rows sz rs)] 9000 = some (.rows sz rs) := by simp [hget]
    have g1 : hget [(9000, Blk.rows sz rs)] 9000 = some (.rows sz' rs') := g1
    rw [hk] at g1
    cases g1
    obtain ⟨hrow, hrest⟩ := hh.blk 9000 _ hk
    have only : ∀ k b1, ρ k = some b1 → k = 9000 := fun k b1 hk1 => by
      have h9 : hget [(9000, Blk.rows sz rs)] k ≠ none := fun h => by rw [hh.dom k h] at hk1; cases hk1
      simp only [hget] at h9
      split at h9
      · rename_i e; exact e.symm
      · exact absurd rfl h9
    rcases g2 with ⟨b, cap, e0, n0, hb, rfl, hcap, hsh, hcs⟩ | ⟨rfl, a, rfl⟩
    · rcases hrest with ⟨b', cells, e, fr, u, hb', hc, hf, hsz2, hu, how⟩ | ⟨rfl, hn⟩
      · obtain rfl : b' = b := by
          have q1 : ρ 9000 = some b' := hb'
          have q2 : ρ 9000 = some b := hb
          rw [q2] at q1; exact (Option.some.inj q1).symm
        have hc' : w.heap[b']? = some (.cells cells e fr) := hc
        have hsize : rs.length * sz ≤ cells.size := hsz2
        have hbl : b' < w.heap.size := hh.lab 9000 b' hb
        have cell : ∀ (i q : Nat), i < rs.length → q < sz → ∃ x, (rs.getD i [])[q]? = some x ∧ cells[i * sz + q]? = some (u i q) ∧ x.flat ∧ Rd w D x (u i q) := fun i q hi hq => by
          have hr : rs[i]? = some rs[i] := List.getElem?_eq_getElem hi
          have hlen : q < rs[i].length := by rw [hrow _ _ hr]; exact hq
          have hx : rs[i][q]? = some rs[i][q] := List.getElem?_eq_getElem hlen
          have hfl := hflat _ (List.getElem_mem hi) _ (List.getElem_mem hlen)
          have hgd : rs.getD i [] = rs[i] := by simp [List.getD, hr]
          exact ⟨rs[i][q], by rw [hgd]; exact hx, hu _ _ _ _ hr hx, hfl, Own.flat (how _ _ _ _ hr hx) hfl⟩
        have hel : ∀ i, i < rs.length → ∃ a : El sz typed, a.row = rs.getD i [] ∧ (∀ q, q < sz → a.val[q]? = some (u i q)) ∧ (∀ (q : Nat) x v, a.row[q]? = some x → a.val[q]? = some v → x.flat ∧ Rd w D x v) := fun i hi => by
          have hr : rs[i]? = some rs[i] := List.getElem?_eq_getElem hi
          have hgd : rs.getD i [] = rs[i] := by simp [List.getD, hr]
          have hlen : rs[i].length = sz := hrow _ _ hr
          have hval : ∀ q, q < sz → ((List.range sz).map (u i))[q]? = some (u i q) := fun q hq => by rw [List.getElem?_map, List.getElem?_range hq]; rfl
          have hrd : ∀ (q : Nat) x v, rs[i][q]? = some x → ((List.range sz).map (u i))[q]? = some v → x.flat ∧ Rd w D x v := fun q x v hx hv => by
            have hq : q < sz := by rw [← hlen]; exact (List.getElem?_eq_some_iff.1 hx).1
            obtain ⟨x', e1, _, e3, e4⟩ := cell i q hi hq
            rw [hgd, hx] at e1
            cases e1
            rw [hval q hq] at hv
            cases hv
            exact ⟨e3, e4⟩
          refine ⟨⟨rs[i], (List.range sz).map (u i), hlen, by simp, fun v hv => ?_, hty _ (List.getElem_mem hi) w D _ (by simp [hlen]) fun j x v hx hv => (hrd j x v hx hv).2⟩, hgd.symm, hval, hrd⟩
          obtain ⟨q, hq, rfl⟩ := List.mem_map.1 hv
          have hq := List.mem_range.1 hq
          have hx : rs[i][q]? = some (rs[i][q]'(by omega)) := List.getElem?_eq_getElem (by omega)
          exact (how _ _ _ _ hr hx).one
        obtain ⟨dl, hdl, hd⟩ := list_choice rs.length hel
        rcases Nat.eq_zero_or_pos rs.length with h0 | hpos
        · have hrs : rs = [] := List.length_eq_zero_iff.1 h0
          subst hrs
          refine (raw.nil w (some ⟨b', 0, none⟩) cap).mono ?_
          rintro e' w' ⟨rfl, rfl⟩
          refine ⟨_, .tup [], [(9000, .rows sz [])], col, rfl, ⟨rfl, [], List.Perm.refl _, fun i j hi hj => absurd hj (Nat.not_lt_zero j), rfl⟩, rfl, rfl, rfl, Nat.le_refl _, Nat.le_refl _, fun b1 hb1 h8 _ => rfl, fun k b1 hk1 => rfl, fun b1 p hp => ⟨(hh.colb b1 p hp).1, .inr (.inr ⟨p, hp⟩)⟩, hh.sep, ⟨rfl, ⟨rfl, rfl⟩, trivial⟩, fun k b1k hk1 => ?_, ⟨[], rfl, trivial⟩⟩
          have h9 : k = 9000 ∧ b1k = Blk.rows sz [] := by
            simp only [hget] at hk1
            split at hk1
            · rename_i e9; exact ⟨e9.symm, (Option.some.inj hk1).symm⟩
            · cases hk1
          obtain ⟨rfl, rfl⟩ := h9
          exact ⟨(fun i r hr => by simp at hr), .inl ⟨b', cells, e, fr, u, hb, hc', hf, hsz2, (fun i r j x hr => by simp at hr), (fun i r j x hr => by simp at hr)⟩⟩
        · have inh : Inhabited (El sz typed) := ⟨dl[0]'(by omega)⟩
          have hsz' : dl.toArray.size = rs.length := by simp [hdl]
          have hH : HoldsK El.val sz w b' 0 dl.toArray := by
            intro t ht
            rw [size_flatK, hsz'] at ht
            have hdiv : t / sz < rs.length := by rw [Nat.div_lt_iff_lt_mul hsz]; exact ht
            have hmod : t % sz < sz := Nat.mod_lt _ hsz
            obtain ⟨x, e1, e2, e3, e4⟩ := cell (t / sz) (t % sz) hdiv hmod
            have hdt := hd (t / sz) (by omega)
            have hg : (dl.toArray[t / sz]!).val[t % sz]! = u (t / sz) (t % sz) := by
              rw [get!_list _ _ (by omega)]
              have := hdt.2.1 (t % sz) hmod
              simp [this]
            rw [Nat.mul_comm, Nat.div_add_mod] at e2
            have ht2 : t < cells.size := (Array.getElem?_eq_some_iff.1 e2).1
            refine ⟨?_, ?_⟩
            · rw [get_flatK _ _ _ _ (by rw [hsz']; exact ht)]
              simp only [World.cell?, hc', Option.isSome_none, Bool.false_eq_true, if_false, Nat.zero_add, id]
              rw [e2]
              congr 1
              exact hg.symm
            · simp only [World.frozen?, hc', Nat.zero_add]
              unfold frOk at hf
              by_cases hlt : fr.1 < fr.2
              · have := hf hlt
                simp; omega
              · simp; omega
          have hraw := raw.row w b' cap dl.toArray hH hbl (by rw [hsz']; exact hl)
          rw [hsz'] at hraw
          refine hraw.mono ?_
          rintro e' w' ⟨rfl, d', n, os, hp, hs, rfl⟩
          obtain ⟨p1, _, p3⟩ := hp
          obtain ⟨hother, hsame⟩ := sortWorld_block El.val sz w b' n d' os hbl
          obtain ⟨cells', hcs', hc2⟩ := hsame cells e fr hc'
          have p4 : d'.toList.Perm dl := by
            have e1 : (d'.extract 0 rs.length).toList = d'.toList := by rw [show rs.length = d'.size by omega]; simp
            have e2 : (dl.toArray.extract 0 rs.length).toList = dl := by rw [show rs.length = dl.toArray.size by omega]; simp
            rwa [e1, e2] at p3
          have hmap : dl.map El.row = rs := by
            apply List.ext_getElem (by simp [hdl])
            intro i hi1 hi2
            have := (hd i (by simpa using hi1)).1
            simp [List.getElem_map, this, List.getD, hi2]
          have hgood : ∀ a ∈ d'.toList, ∀ (q : Nat) x v, a.row[q]? = some x → a.val[q]? = some v → x.flat ∧ Rd w D x v := fun a ha => by
            obtain ⟨i, hi, rfl⟩ := List.mem_iff_getElem.1 (p4.mem_iff.1 ha)
            exact (hd i hi).2.2
          have hsz3 : d'.size = rs.length := by omega
          have hW : (sortWorldK El.val sz w b' 0 n d' os).heap.size = w.heap.size + os.size := by
            show ((w.heap.modify b' _) ++ os).size = _
            simp
          have hHold := holdsK_sortWorldK_c El.val sz w b' 0 dl.toArray d' n os hH hbl (by omega)
          have blk' : ∀ b1, D b1 → (sortWorldK El.val sz w b' 0 n d' os).heap[b1]? = w.heap[b1]? := fun b1 h1 => by
            obtain ⟨d1, d2, d3⟩ := hh.dis b1 h1
            exact hother b1 d1 (fun h => d3 9000 (by rw [h]; exact hb))
          refine ⟨_, .tup [], [(9000, .rows sz (d'.toList.map El.row))], col, rfl, ⟨rfl, d'.toList.map El.row, ?_, ?_, rfl⟩, rfl, rfl, rfl, Nat.le_add_right _ _, by rw [hW]; omega, fun b1 hb1 h8 _ => hother b1 hb1 (fun h => h8 9000 (by rw [h]; exact hb)), fun k b1 hk1 => ?_, fun b1 p hp => ⟨by rw [hW]; have := (hh.colb b1 p hp).1; omega, .inr (.inr ⟨p, hp⟩)⟩, hh.sep, ⟨rfl, ⟨rfl, by simp [hsz3]⟩, trivial⟩, fun k b1k hk1 => ?_, ⟨[], rfl, trivial⟩⟩
          · have := p4.map El.row
            rwa [hmap] at this
          · intro i j hij hj
            have hj' : j < d'.size := by simpa using hj
            have := hs i j (Nat.zero_le _) hij (by omega)
            rw [getElem!_pos d' i (by omega), getElem!_pos d' j hj'] at this
            simpa [ltOf] using this
          · obtain rfl := only k b1 hk1
            have : b1 = b' := by
              have q2 : ρ 9000 = some b' := hb
              rw [q2] at hk1; exact (Option.some.inj hk1).symm
            subst this
            unfold World.shape?
            rw [hc2, hc']
            simp [hcs']
          · have h9 : k = 9000 ∧ b1k = Blk.rows sz (d'.toList.map El.row) := by
              simp only [hget] at hk1
              split at hk1
              · rename_i e9; exact ⟨e9.symm, (Option.some.inj hk1).symm⟩
              · cases hk1
            obtain ⟨rfl, rfl⟩ := h9
            have getr : ∀ (k : Nat) (r : List T), (d'.toList.map El.row)[k]? = some r → ∃ h : k < d'.size, r = d'[k].row := fun k r hr => by
              obtain ⟨h1, h2⟩ := List.getElem?_eq_some_iff.1 hr
              have h1' : k < d'.size := by simpa using h1
              exact ⟨h1', by rw [← h2]; simp⟩
            refine ⟨fun k r hr => ?_, .inl ⟨b', cells', e, fr, fun k q => (d'[k]!).val[q]!, hb, hc2, by rw [hcs']; exact hf, by simp only [List.length_map, Array.length_toList, hsz3, hcs']; exact hsize, fun k r q x hr hx => ?_, fun k r q x hr hx => ?_⟩⟩
            · obtain ⟨h1, rfl⟩ := getr k r hr
              exact d'[k].rl
            · obtain ⟨h1, rfl⟩ := getr k r hr
              have hq : q < sz := by rw [← d'[k].rl]; exact (List.getElem?_eq_some_iff.1 hx).1
              obtain ⟨c1, _⟩ := HoldsK.cell hHold h1 hq
              simp only [World.cell?, hc2, Option.isSome_none, Bool.false_eq_true, if_false, Nat.zero_add] at c1
              exact c1
            · obtain ⟨h1, rfl⟩ := getr k r hr
              have hq : q < sz := by rw [← d'[k].rl]; exact (List.getElem?_eq_some_iff.1 hx).1
              have hvq : d'[k].val[q]? = some ((d'[k]!).val[q]!) := by
                rw [getElem!_pos d' k h1, getElem!_pos _ q (by rw [d'[k].vl]; exact hq)]
                exact List.getElem?_eq_getElem _
              obtain ⟨hfl, hrd⟩ := hgood d'[k] (by simp) q x _ hx hvq
              exact .rd _ _ _ hfl (hrd.mono blk' fun b1 h1 => by
                obtain ⟨d1, d2, d3⟩ := hh.dis b1 h1
                exact ⟨by show b1 < (sortWorldK El.val sz w b' 0 n d' os).heap.size; rw [hW]; omega, .inl h1, d2, d3⟩)
      · have q1 : ρ 9000 = none := hn
        have q2 : ρ 9000 = some b := hb
        rw [q2] at q1; cases q1
    · refine (raw.nil w a 0).mono ?_
      rintro e' w' ⟨rfl, rfl⟩
      refine ⟨_, .tup [], [(9000, .rows sz [])], col, rfl, ⟨rfl, [], List.Perm.refl _, fun i j hi hj => absurd hj (Nat.not_lt_zero j), rfl⟩, rfl, rfl, rfl, Nat.le_refl _, Nat.le_refl _, fun b1 hb1 h8 _ => rfl, fun k b1 hk1 => rfl, fun b1 p hp => ⟨(hh.colb b1 p hp).1, .inr (.inr ⟨p, hp⟩)⟩, hh.sep, ⟨rfl, ⟨rfl, rfl⟩, trivial⟩, fun k b1k hk1 => ?_, ⟨[], rfl, trivial⟩⟩
      have h9 : k = 9000 ∧ b1k = Blk.rows sz [] := by
        simp only [hget] at hk1
        split at hk1
        · rename_i e9; exact ⟨e9.symm, (Option.some.inj hk1).symm⟩
        · cases hk1
      obtain ⟨rfl, rfl⟩ := h9
      rcases hrest with ⟨b', cells, e, fr, u, hb', hc, hf, hsz2, hu, how⟩ | ⟨_, hn⟩
      · exact ⟨(fun i r hr => by simp at hr), .inl ⟨b', cells, e, fr, u, hb', hc, hf, hsz2, (fun i r j x hr => by simp at hr), (fun i r j x hr => by simp at hr)⟩⟩
      · exact ⟨(fun i r hr => by simp at hr), .inr ⟨rfl, hn⟩⟩
theorem SpecO.mono {P : Program} {f : FuncId} {args : List AV} {hp : Hp} {Q Q' : AV → Hp → Prop} (h : SpecO P f args hp Q) (hq : ∀ r h, Q r h → Q' r h) : SpecO P f args hp Q' :=
  fun w D ρ col vs hh hv => (h w D ρ col vs hh hv).mono fun e w' ⟨v, r, hp', col', he, hr, ho⟩ => ⟨v, r, hp', col', he, hq _ _ hr, ho⟩
theorem perm_rows {α : Type} {row : α → List T} {of : List T → α} (h : ∀ x, of (row x) = x) {rs : List (List T)} {l : List α} (p : rs.Perm (l.map row)) : (rs.map of).Perm l ∧ (rs.map of).map row = rs := by
  refine ⟨?_, ?_⟩
  · have := p.map of
    rw [List.map_map] at this
    have e : l.map (of ∘ row) = l := by
      have : l.map (of ∘ row) = l.map id := List.map_congr_left fun x _ => h x
      rw [this, List.map_id]
    rwa [e] at this
  · rw [List.map_map]
    have : rs.map (row ∘ of) = rs.map id := List.map_congr_left fun r hr => by
      obtain ⟨x, _, rfl⟩ := List.mem_map.1 (p.mem_iff.1 hr)
      simp [h]
    rw [this, List.map_id]
theorem WStep.grown {w w' : World} (h : WStep w w' none) : ∃ q os', w' = grow (w.drewN q) os' := by
  refine ⟨w'.drawn - w.drawn, w'.heap.extract w.heap.size w'.heap.size, ?_⟩
  have hsz := h.size
  have hd := h.drawn
  have e1 : w'.heap = w.heap ++ w'.heap.extract w.heap.size w'.heap.size := by
    apply Array.ext_getElem?
    intro i
    by_cases hi : i < w.heap.size
    · rw [Array.getElem?_append_left hi]; exact h.block i hi (by simp)
    · rw [Array.getElem?_append_right (by omega), Array.getElem?_extract]
      by_cases h2 : i < w'.heap.size
      · rw [if_pos (by omega)]; congr 1; omega
      · rw [if_neg (by omega), Array.getElem?_eq_none (by omega)]
  have e2 : w'.drawn = w.drawn + (w'.drawn - w.drawn) := by omega
  cases w'
  cases w
  simp only [grow, World.drewN] at *
  obtain rfl := h.os
  obtain rfl := h.tape
  obtain rfl := h.output
  simp only [World.mk.injEq, true_and, and_true]
  exact ⟨e1, e2⟩
theorem RawSort.of {P : Program} {ρ : Go.Shelf.Ren} (L : SlLaysF0.n6 P ρ) {g : FuncId} {sz : Nat} {typed : List T → List Value → Prop} {cf : List T → List T → Int} (aE : ∀ w, (isAgg (ρ.t 24)).run P w = .ok true w) (zE : ∀ w, (Go.sizeOf (ρ.t 24)).run P w = .ok sz w)
    (eg : ∀ args w, (callFunc g args).run P w = .ok (.enter g args) w) {avs : List T → List AV} (hav : ∀ row val, typed row val → ∀ c, AVr.AVrs c (avs row) val)
    (sp : ∀ x y : El sz typed, Spec P g [.agg (avs x.row), .agg (avs y.row)] (fun r => r = I (cf x.row y.row))) (hO : SWO (ltOf fun x y : El sz typed => cf x.row y.row)) : RawSort P (ρ.f 6) g sz typed cf where
  nil := fun w a cap => AnyF.slices_SortFunc_none L a cap _ w
  row := fun w b cap d hH hb hs => by
    refine AnyQ.slices_SortFunc L sz aE zE El.val (fun x => x.vl) (fun x => x.one) (fun x y : El sz typed => cf x.row y.row) hO g #[] b 0 cap d w eg ?_ hH hb hs
    intro m os dk _ x y
    have hsp := sp x y (sortWorldK El.val sz w b 0 m dk os) (fun _ => False) [.agg x.val.toArray, .agg y.val.toArray] (fun _ h => h.elim) ⟨⟨x.val, rfl, hav _ _ x.ty _⟩, ⟨y.val, rfl, hav _ _ y.ty _⟩, trivial⟩
    simp only [Array.append_empty]
    refine Calls.mono hsp ?_
    rintro e w' ⟨v, r, rfl, rfl, hw, col, _, hr⟩
    have hv : v = .int .i64 (cf x.row y.row) := by
      have hr : Rd _ _ _ _ := hr
      cases hr
      rfl
    exact ⟨by rw [hv], hw.grown⟩
end Go.Proofs.Ythbhnjcnbnlidaa.Am
namespace Go.Proofs.Ythbhnjcnbnlidaa.Am
open Go Go.Sort
set_option maxRecDepth 1000000
set_option maxHeartbeats 1000000
set_option linter.unusedSimpArgs false
set_option linter.unusedVariables false
def laySc_ren : Go.Shelf.Ren := ⟨fun | 6 => 70 | 15 => 91 | 14 => 90 | 28 => 123 | 29 => 124 | 20 => 115 | 21 => 116 | 22 => 117 | 23 => 118 | 24 => 119 | 25 => 120 | 26 => 121 | 27 => 122 | 46 => 132 | 47 => 133 | 48 => 134 | 49 => 135 | 50 => 136 | 57 => 137 | n => n, fun | 22 => 36 | 24 => 61 | 25 => 97 | 3 => 3 | 39 => 118 | 0 => 0 | 53 => 143 | 55 => 145 | 4 => 4 | 46 => 137 | 45 => 136 | 50 => 68 | 5 => 5 | 9 => 9 | 66 => 152 | 70 => 156 | 76 => 158 | 77 => 159 | n => n, fun n => n⟩
theorem laySc : SlLaysF0.n6 Try.prog laySc_ren := {
  mixed := by kernel_rfl
  f6 := ⟨ "slices.SortFunc[[]loop.example/quincunx/impl.Score,loop.example/quincunx/impl.Score]", of_decide_eq_true (by kernel_rfl), Try.func70.trans (congrArg some (by kernel_rfl))⟩
  f14 := ⟨ "slices.pdqsortCmpFunc[loop.example/quincunx/impl.Score]", of_decide_eq_true (by kernel_rfl), Try.func90.trans (congrArg some (by kernel_rfl))⟩
  f15 := Try.func91.trans (congrArg some (by kernel_rfl))
  f20 := ⟨ "slices.insertionSortCmpFunc[loop.example/quincunx/impl.Score]", of_decide_eq_true (by kernel_rfl), Try.func115.trans (congrArg some (by kernel_rfl))⟩
  f21 := ⟨ "slices.heapSortCmpFunc[loop.example/quincunx/impl.Score]", of_decide_eq_true (by kernel_rfl), Try.func116.trans (congrArg some (by kernel_rfl))⟩
  f22 := ⟨ "slices.breakPatternsCmpFunc[loop.example/quincunx/impl.Score]", of_decide_eq_true (by kernel_rfl), Try.func117.trans (congrArg some (by kernel_rfl))⟩
  f23 := ⟨ "slices.choosePivotCmpFunc[loop.example/quincunx/impl.Score]", of_decide_eq_true (by kernel_rfl), Try.func118.trans (congrArg some (by kernel_rfl))⟩
  f24 := ⟨ "slices.reverseRangeCmpFunc[loop.example/quincunx/impl.Score]", of_decide_eq_true (by kernel_rfl), Try.func119.trans (congrArg some (by kernel_rfl))⟩
  f25 := ⟨ "slices.partialInsertionSortCmpFunc[loop.example/quincunx/impl.Score]", of_decide_eq_true (by kernel_rfl), Try.func120.trans (congrArg some (by kernel_rfl))⟩
  f26 := ⟨ "slices.partitionEqualCmpFunc[loop.example/quincunx/impl.Score]", of_decide_eq_true (by kernel_rfl), Try.func121.trans (congrArg some (by kernel_rfl))⟩
  f27 := ⟨ "slices.partitionCmpFunc[loop.example/quincunx/impl.Score]", of_decide_eq_true (by kernel_rfl), Try.func122.trans (congrArg some (by kernel_rfl))⟩
  f28 := Try.func123.trans (congrArg some (by kernel_rfl))
  f29 := Try.func124.trans (congrArg some (by kernel_rfl))
  f46 := ⟨ "slices.siftDownCmpFunc[loop.example/quincunx/impl.Score]", of_decide_eq_true (by kernel_rfl), Try.func132.trans (congrArg some (by kernel_rfl))⟩
  f47 := Try.func133.trans (congrArg some (by kernel_rfl))
  f48 := Try.func134.trans (congrArg some (by kernel_rfl))
  f49 := ⟨ "slices.medianAdjacentCmpFunc[loop.example/quincunx/impl.Score]", of_decide_eq_true (by kernel_rfl), Try.func135.trans (congrArg some (by kernel_rfl))⟩
  f50 := ⟨ "slices.medianCmpFunc[loop.example/quincunx/impl.Score]", of_decide_eq_true (by kernel_rfl), Try.func136.trans (congrArg some (by kernel_rfl))⟩
  f57 := ⟨ "slices.order2CmpFunc[loop.example/quincunx/impl.Score]", of_decide_eq_true (by kernel_rfl), Try.func137.trans (congrArg some (by kernel_rfl))⟩
  t0 := Try.underlying0
  a0 := Try.isAgg0
  z0 := Try.sizeOf0
  v0 := Try.zeroValue0
  t3 := Try.underlying3
  a3 := Try.isAgg3
  z3 := Try.sizeOf3
  v3 := Try.zeroValue3
  t4 := Try.underlying4
  a4 := Try.isAgg4
  z4 := Try.sizeOf4
  v4 := Try.zeroValue4
  t5 := Try.underlying5
  a5 := Try.isAgg5
  z5 := Try.sizeOf5
  v5 := Try.zeroValue5
  t9 := Try.underlying9
  a9 := Try.isAgg9
  z9 := Try.sizeOf9
  v9 := Try.zeroValue9
  t22 := Try.underlying36
  a22 := Try.isAgg36
  z22 := Try.sizeOf36
  v22 := Try.zeroValue36
  t25 := Try.underlying97
  a25 := Try.isAgg97
  z25 := Try.sizeOf97
  v25 := Try.zeroValue97
  t39 := Try.underlying118
  a39 := Try.isAgg118
  z39 := Try.sizeOf118
  v39 := Try.zeroValue118
  t45 := Try.underlying136
  a45 := Try.isAgg136
  z45 := Try.sizeOf136
  v45 := Try.zeroValue136
  t46 := Try.underlying137
  a46 := Try.isAgg137
  z46 := Try.sizeOf137
  v46 := Try.zeroValue137
  t50 := Try.underlying68
  a50 := Try.isAgg68
  z50 := Try.sizeOf68
  v50 := Try.zeroValue68
  t53 := Try.underlying143
  a53 := Try.isAgg143
  z53 := Try.sizeOf143
  v53 := Try.zeroValue143
  t55 := Try.underlying145
  a55 := Try.isAgg145
  z55 := Try.sizeOf145
  v55 := Try.zeroValue145
  t66 := Try.underlying152
  a66 := Try.isAgg152
  z66 := Try.sizeOf152
  v66 := Try.zeroValue152
  t70 := Try.underlying156
  a70 := Try.isAgg156
  z70 := Try.sizeOf156
  v70 := Try.zeroValue156
  t76 := Try.underlying158
  a76 := Try.isAgg158
  z76 := Try.sizeOf158
  v76 := Try.zeroValue158
  t77 := Try.underlying159
  a77 := Try.isAgg159
  z77 := Try.sizeOf159
  v77 := Try.zeroValue159
}
def scOrd (x y : Sc) : Int := if cmpM x.num y.num = 0 then cmpS x.text y.text else cmpM x.num y.num
theorem p_scoreOrder : Plain Try.prog 71 := ⟨_, Try.func71, rfl, by decide⟩
theorem s_scoreOrder (x y : Sc) : Spec Try.prog 71 [x.av, y.av] (fun r => r = I (scOrd x y)) := by
  refine Spec.of tysOk mixed Try.func71 rfl (by decide) ?_
  simp -implicitDefEqProofs only [go_sem, Try.f71]
  refine RegD_of sch_71_1 tysOk (by kernel_rfl) ?_
  simp -implicitDefEqProofs only [go_sem]
  refine .one (s_compare _ _) p_compare rfl trivial ?_
  simp -implicitDefEqProofs only [go_sem]
  refine .one (s_compareS _ _) p_compareS rfl trivial ?_
  simp -implicitDefEqProofs only [go_sem]
  refine .one (s_or [cmpM x.num y.num, cmpS x.text y.text] (by simp)) p_or rfl trivial ?_
  simp -implicitDefEqProofs only [go_sem]
  rw [find2]; rfl
def scLt (x y : Sc) : Bool := decide (x.num < y.num) || (decide (x.num = y.num) && bytesLt x.text y.text)
theorem scOrd_lt (x y : Sc) : decide (scOrd x y < 0) = scLt x y := by
  unfold scOrd scLt cmpM
  by_cases h1 : x.num < y.num
  · simp [h1]
  · by_cases h2 : y.num < x.num
    · have : ¬ x.num = y.num := by omega
      simp [h1, h2, this]
    · have : x.num = y.num := by omega
      simp [this, cmpS_lt]
theorem scLt_irrefl (x : Sc) : scLt x x = false := by simp [scLt, bytesLt_irrefl]
theorem scLt_trans {x y z : Sc} (h : scLt x y = true) (h' : scLt y z = true) : scLt x z = true := by
  simp only [scLt, Bool.or_eq_true, Bool.and_eq_true, decide_eq_true_eq] at *
  rcases h with h | ⟨h, g⟩ <;> rcases h' with h' | ⟨h', g'⟩
  · left; omega
  · left; omega
  · left; omega
  · right; exact ⟨by omega, bytesLt_trans g g'⟩
theorem scLt_total {x y : Sc} (h : scLt x y = false) (h' : scLt y x = false) : x = y := by
  have n1 : ¬ scLt x y = true := by simp [h]
  have n2 : ¬ scLt y x = true := by simp [h']
  simp only [scLt, Bool.or_eq_true, Bool.and_eq_true, decide_eq_true_eq, not_or, not_and] at n1 n2
  have hn : x.num = y.num := by omega
  have b1 : bytesLt x.text y.text = false := by simpa using n1.2 hn
  have b2 : bytesLt y.text x.text = false := by simpa using n2.2 hn.symm
  ext1
  · apply Classical.byContradiction
    intro hne
    rw [bytesLt_total hne b1] at b2; cases b2
  · exact hn
def tySc (r : List T) (v : List Value) : Prop := ∃ x : Sc, r = x.row ∧ v = [.string x.text, .int .i64 x.num]
def ofSc : List T → Sc
  | [.str a, .int _ n] => ⟨a, n⟩
  | _ => ⟨⟨#[]⟩, 0⟩
def avSc : List T → List AV := fun r => [.t (.str (ofSc r).text), I (ofSc r).num]
theorem swo_sc : SWO (ltOf fun x y : El 2 tySc => scOrd (ofSc x.row) (ofSc y.row)) := by
  have e : ∀ x y : El 2 tySc, ltOf (fun x y : El 2 tySc => scOrd (ofSc x.row) (ofSc y.row)) x y = scLt (ofSc x.row) (ofSc y.row) := fun x y => scOrd_lt _ _
  refine ⟨fun x => ?_, fun x y z h h' => ?_, fun x y z h h' => ?_⟩
  · rw [e]; exact scLt_irrefl _
  · rw [e] at *; exact scLt_trans h h'
  · rw [e] at *
    cases h3 : scLt (ofSc x.row) (ofSc z.row)
    · rfl
    · cases h1 : scLt (ofSc y.row) (ofSc x.row)
      · have := scLt_total h h1
        rw [this, h'] at h3; cases h3
      · rw [scLt_trans h1 h3] at h'; cases h'
theorem rawSort_Sc : RawSort Try.prog 70 71 2 tySc (fun r s => scOrd (ofSc r) (ofSc s)) :=
  RawSort.of laySc Try.isAgg61 Try.sizeOf61 (enters_of Try.func71 (by kernel_rfl) rfl) (avs := avSc)
    (fun row val h c => by obtain ⟨x, rfl, rfl⟩ := h; exact ⟨.str _, .int _ _, trivial⟩)
    (fun x y => s_scoreOrder (ofSc x.row) (ofSc y.row)) swo_sc
theorem p_sortSc : Plain Try.prog 70 := ⟨_, Try.func70, rfl, by decide⟩
theorem s_sortSc (l : List Sc) (hl : l.length < 4611686018427387904) : SpecO Try.prog 70 [.refw 9000, .fn 71 []] [(9000, .rows 2 (l.map Sc.row))] (fun r h => r = .tup [] ∧ ∃ l' : List Sc, l'.Perm l ∧ l'.Pairwise (fun x y => scLt y x = false) ∧ h = [(9000, .rows 2 (l'.map Sc.row))]) := by
  have h := SpecO_sort rawSort_Sc (by omega) (rs := l.map Sc.row) (by simpa using hl) (by
    intro r hr x hx
    obtain ⟨y, _, rfl⟩ := List.mem_map.1 hr
    simp only [Sc.row, List.mem_cons, List.not_mem_nil, or_false] at hx
    rcases hx with rfl | rfl <;> trivial) (by
    intro r hr w D vs hlen hrd
    obtain ⟨y, _, rfl⟩ := List.mem_map.1 hr
    match vs, hlen with
    | [v0, v1], _ =>
      have h0 := hrd 0 _ _ rfl rfl
      have h1 := hrd 1 _ _ rfl rfl
      cases h0
      cases h1
      exact ⟨y, rfl, rfl⟩)
  refine SpecO.mono h fun r h ⟨hr, rs', hp, hs, hh⟩ => ⟨hr, rs'.map ofSc, ?_⟩
  obtain ⟨p1, p2⟩ := perm_rows (of := ofSc) (fun x => rfl) hp
  refine ⟨p1, ?_, by rw [p2]; exact hh⟩
  rw [List.pairwise_iff_getElem]
  intro i j hi hj hij
  have := hs i j hij (by simpa using hj)
  rw [← decide_eq_false_iff_not, scOrd_lt] at this
  simpa using this
end Go.Proofs.Ythbhnjcnbnlidaa.Am
namespace Go.Proofs.Ythbhnjcnbnlidaa.Am
open Go
set_option maxRecDepth 100000
set_option linter.unusedSimpArgs false
set_option linter.unusedVariables false
theorem p_l1In : Plain Try.prog 60 := ⟨_, Try.func60, rfl, by decide⟩
theorem s_l1In (n lo hi : Int) : Spec Try.prog 60 [I n, I lo, I hi] (fun r => r = Bo (withinM n lo hi)) := by
  refine Spec.of tysOk mixed Try.func60 rfl (by decide) ?_
  simp -implicitDefEqProofs only [go_sem, Try.f60]
  refine BrA_i (fun h => ?_) (fun h => ?_) <;> simp -implicitDefEqProofs only [go_sem] <;> simp_all [withinM] <;> omega
end Go.Proofs.Ythbhnjcnbnlidaa.Am
namespace Go.Proofs.Ythbhnjcnbnlidaa.Am
open Go
set_option maxRecDepth 100000
set_option maxHeartbeats 1000000
set_option linter.unusedSimpArgs false
set_option linter.unusedVariables false
theorem p_position : Plain Try.prog 83 := ⟨_, Try.func83, rfl, by decide⟩
theorem s_position (n : Int) : Spec Try.prog 83 [I n] (fun r => r = Bo (withinM n (-1000000000) 1000000000)) := by
  refine Spec.of tysOk mixed Try.func83 rfl (by decide) ?_
  simp -implicitDefEqProofs only [go_sem, Try.f83]
  refine CallW.one (s_within n (-1000000000) 1000000000) p_within (by first | (simp -implicitDefEqProofs only [go_sem]; done) | ((conv => lhs; simp -implicitDefEqProofs only [go_sem]); done) | (simp -implicitDefEqProofs only [go_sem]; rfl) | rfl) (by first | trivial | (simp [DeepR, DeepV, DeepVs, DeepC, DeepCs, T.scal]; done)) ?_
  simp -implicitDefEqProofs only [go_sem]
def scIx (l : List Sc) (t : ByteArray) : Option Nat := l.findIdx? fun y => decide (y.text = t)
def ixN : Option Nat → Int
  | none => -1
  | some n => n
theorem scIx_some {l : List Sc} {t : ByteArray} {i : Nat} (h : i < l.length) (hn : l[i].text = t) (hj : ∀ j (h : j < l.length), j < i → l[j].text ≠ t) : scIx l t = some i :=
  List.findIdx?_eq_some_iff_getElem.2 ⟨h, by simp [hn], fun j hji => by simpa using hj j (by omega) hji⟩
theorem scIx_none {l : List Sc} {t : ByteArray} (hj : ∀ j (h : j < l.length), l[j].text ≠ t) : scIx l t = none :=
  List.findIdx?_eq_none_iff.2 fun y hy => by
    obtain ⟨j, h, rfl⟩ := List.mem_iff_getElem.1 hy
    simpa using hj j h
theorem scIx_at {l : List Sc} {t : ByteArray} {i : Nat} (h : scIx l t = some i) : ∃ hh : i < l.length, l[i].text = t ∧ ∀ j (h : j < l.length), j < i → l[j].text ≠ t := by
  obtain ⟨hh, h1, h2⟩ := List.findIdx?_eq_some_iff_getElem.1 h
  exact ⟨hh, by simpa using h1, fun j hj hji => by simpa using h2 j hji⟩
theorem p_scoreFn : Plain Try.prog 85 := ⟨_, Try.func85, rfl, by decide⟩
theorem s_scoreFn (y : Sc) (t : ByteArray) : Spec Try.prog 85 [y.av, .rop false [.str t] 0] (fun r => r = Bo (decide (y.text = t))) := by
  refine Spec.of tysOk mixed Try.func85 rfl (by decide) ?_
  simp -implicitDefEqProofs only [go_sem, Try.f85]
theorem p_IndexScore : Plain Try.prog 84 := ⟨_, Try.func84, rfl, by decide⟩
theorem s_IndexScore (l : List Sc) (t : ByteArray) (hs : l.length ≤ 1099511627776) : Spec Try.prog 84 [.t (.list false 2 (l.map Sc.row)), .fn 85 [.rop false [.str t] 0]] (fun r => r = I (ixN (scIx l t))) := by
  refine Spec.of tysOk mixed Try.func84 rfl (by decide) ?_
  simp -implicitDefEqProofs only [go_sem, Try.f84]
  refine LoopW.slotsM [true, true, false, false, false, false, false, true, true, false, false, false, false, false, false, false, false, false, false] (α := Nat) (fun i => [(8, I i)]) (fun i => []) (fun i => l.length - i) (fun i => i ≤ l.length ∧ ∀ j (h : j < l.length), j < i → l[j].text ≠ t) 0 (by simp -implicitDefEqProofs only [go_sem, LeTs_undef, LeTs_same, LeTs_nil]; try simp [LeTs]) rfl ⟨by omega, fun _ _ h => by omega⟩ ?_
  rintro i ⟨hi, hj⟩
  simp -implicitDefEqProofs only [go_sem]
  refine BrA_i (fun h => ?_) (fun h => ?_) <;> simp -implicitDefEqProofs only [go_sem]
  · skip
    have h : i < l.length := by simp at h; omega
    have h0i : (0 : Int) ≤ i := by omega
    have h1i : (i : Int) < l.length := by omega
    have wi : IntKind.i64.wrap ((i : Int) + 1) = ((i + 1 : Nat) : Int) := by rw [wrap64 (by omega) (by omega)]; omega
    have hr := row_getD Sc.row l h
    simp only [Sc.row] at hr
    simp -implicitDefEqProofs only [go_sem, h, h0i, h1i, hr, wi]
    refine CallW.one (s_scoreFn l[i] t) p_scoreFn (by first | (simp -implicitDefEqProofs only [go_sem]; done) | ((conv => lhs; simp -implicitDefEqProofs only [go_sem]); done) | (simp -implicitDefEqProofs only [go_sem]; rfl) | rfl) (by first | trivial | (simp [DeepR, DeepV, DeepVs, DeepC, DeepCs, T.scal]; done)) ?_
    simp -implicitDefEqProofs only [go_sem]
    refine BrA_i (fun h2 => ?_) (fun h2 => ?_) <;> (try simp only [decide_eq_true_eq, decide_eq_false_iff_not] at h2) <;> simp -implicitDefEqProofs only [go_sem, h, h0i, h1i, wi]
    · rw [scIx_some h h2 (fun j hj2 => hj j hj2)]; rfl
    · refine .to [129, 130, 131] (i + 1) rfl ?_ ?_ (by omega) ⟨by omega, fun j hj2 hj3 => by
        by_cases hji : j < i
        · exact hj j hj2 hji
        · obtain rfl : j = i := by omega
          exact h2⟩ <;> simp -implicitDefEqProofs only [go_sem, LeTs_undef, LeTs_same, LeTs_nil, wi]
  · have h : i = l.length := by simp at h; omega
    subst h
    rw [scIx_none (fun j h => hj j h h)]
    rfl
theorem p_scoreAt : Plain Try.prog 63 := ⟨_, Try.func63, rfl, by decide⟩
theorem s_scoreAt (l : List Sc) (t : ByteArray) (hs : l.length ≤ 1099511627776) : Spec Try.prog 63 [.t (.list false 2 (l.map Sc.row)), .t (.str t)] (fun r => r = I (ixN (scIx l t))) := by
  refine Spec.of tysOk mixed Try.func63 rfl (by decide) ?_
  simp -implicitDefEqProofs only [go_sem, Try.f63]
  refine CallW.one (s_IndexScore l t hs) p_IndexScore (by first | (simp -implicitDefEqProofs only [go_sem]; done) | ((conv => lhs; simp -implicitDefEqProofs only [go_sem]); done) | (simp -implicitDefEqProofs only [go_sem]; rfl) | rfl) (by first | trivial | (simp [DeepR, DeepV, DeepVs, DeepC, DeepCs, T.scal]; done)) ?_
  simp -implicitDefEqProofs only [go_sem]
def scGood (x : Sc) : Bool := decide (x.text.size ≤ 40) && withinM x.num (-1000000000) 1000000000
def okAll (g : Nat → Bool) (n : Nat) : Bool := (List.range n).all g
theorem okAll_no {g : Nat → Bool} {n i : Nat} (h : i < n) (hg : g i = false) : okAll g n = false := by
  cases ho : okAll g n
  · rfl
  · have := List.all_eq_true.1 ho i (List.mem_range.2 h)
    rw [hg] at this; cases this
theorem okAll_yes {g : Nat → Bool} {n : Nat} : okAll g n = true ↔ ∀ i, i < n → g i = true := by
  unfold okAll
  rw [List.all_eq_true]
  exact ⟨fun h i hi => h i (List.mem_range.2 hi), fun h i hi => h i (List.mem_range.1 hi)⟩
def scAt (l : List Sc) (i : Nat) : Bool := match l[i]? with
  | none => true
  | some x => scGood x && (decide (i = 0) || (match l[i - 1]? with | none => true | some y => scLt y x)) && decide (scIx l x.text = some i)
theorem scAt_eq (l : List Sc) {i : Nat} (h : i < l.length) : scAt l i = (scGood l[i] && (decide (i = 0) || scLt (l[i - 1]'(by omega)) l[i]) && decide (scIx l l[i].text = some i)) := by
  have h' : i - 1 < l.length := by omega
  simp [scAt, h, h']
def scoresOkM (l : List Sc) : Bool := okAll (scAt l) l.length && decide (l.length ≤ 16)
theorem p_ScoresOk : Plain Try.prog 62 := ⟨_, Try.func62, rfl, by decide⟩
theorem s_ScoresOk (l : List Sc) (hs : l.length ≤ 1099511627776) : Spec Try.prog 62 [.t (.list false 2 (l.map Sc.row))] (fun r => r = Bo (scoresOkM l)) := by
  refine Spec.of tysOk mixed Try.func62 rfl (by decide) ?_
  simp -implicitDefEqProofs only [go_sem, Try.f62]
  refine LoopW.slotsM [true, false, false, false, false, true, true, true, false, false, false, false, false, false, false, false, false, false, false, false, false, false, false, false, false, false, false, false, false, false, false, false, false, false, false, false, false, false, false, false, false, false, false, false, false, false, false, false] (α := Nat) (fun i => [(7, I i)]) (fun i => []) (fun i => l.length - i) (fun i => i ≤ l.length ∧ ∀ j, j < i → scAt l j = true) 0 (by simp -implicitDefEqProofs only [go_sem, LeTs_undef, LeTs_same, LeTs_nil]; try simp [LeTs]) rfl ⟨by omega, fun _ h => by omega⟩ ?_
  rintro i ⟨hi, hz⟩
  simp -implicitDefEqProofs only [go_sem]
  refine BrA_i (fun h => ?_) (fun h => ?_) <;> simp -implicitDefEqProofs only [go_sem]
  · skip
    have h : i < l.length := by simp at h; omega
    have h0i : (0 : Int) ≤ i := by omega
    have h1i : (i : Int) < l.length := by omega
    have wi : IntKind.i64.wrap ((i : Int) + 1) = ((i + 1 : Nat) : Int) := by rw [wrap64 (by omega) (by omega)]; omega
    have hr := row_getD Sc.row l h
    simp only [Sc.row] at hr
    have bad : scAt l i = false → AV.t (T.bool false) = Bo (scoresOkM l) := fun hg => by
      unfold scoresOkM; rw [okAll_no h hg]; rfl
    have e := scAt_eq l h
    simp -implicitDefEqProofs only [go_sem, h, h0i, h1i, hr, wi]
    refine RegD_of sch_62_4 tysOk (by kernel_rfl) ?_
    simp -implicitDefEqProofs only [go_sem]
    refine BrA_i (fun g1 => ?_) (fun g1 => ?_) <;> simp -implicitDefEqProofs only [go_sem]
    · exact bad (by rw [e]; simp [scGood] at g1 ⊢; intro h1; omega)
    refine CallW.one (s_position l[i].num) p_position (by first | (simp -implicitDefEqProofs only [go_sem]; done) | ((conv => lhs; simp -implicitDefEqProofs only [go_sem]); done) | (simp -implicitDefEqProofs only [go_sem]; rfl) | rfl) (by first | trivial | (simp [DeepR, DeepV, DeepVs, DeepC, DeepCs, T.scal]; done)) ?_
    cases g2 : withinM l[i].num (-1000000000) 1000000000
    · simp -implicitDefEqProofs only [go_sem, g2]
      exact bad (by rw [e]; simp [scGood, g2])
    simp -implicitDefEqProofs only [go_sem, g2]
    have hg : scGood l[i] = true := by simp at g1; simp [scGood, g2]; omega
    refine BrA_i (fun g3 => ?_) (fun g3 => ?_) <;> simp -implicitDefEqProofs only [go_sem]
    · have g3 : 0 < i := by simpa using g3
      have hq : i - 1 < l.length := by omega
      have hp : IntKind.i64.wrap ((i : Int) - 1) = ((i - 1 : Nat) : Int) := by rw [wrap64 (by omega) (by omega)]; omega
      have hrq := row_getD Sc.row l hq
      simp only [Sc.row] at hrq
      have q0 : (0 : Int) ≤ ((i - 1 : Nat) : Int) := by omega
      have q1 : ((i - 1 : Nat) : Int) < l.length := by omega
      simp -implicitDefEqProofs only [go_sem, hp, hrq, q0, q1]
      refine CallW.one (s_scoreOrder (l[i - 1]) (l[i])) p_scoreOrder (by first | (simp -implicitDefEqProofs only [go_sem]; done) | ((conv => lhs; simp -implicitDefEqProofs only [go_sem]); done) | (simp -implicitDefEqProofs only [go_sem]; rfl) | rfl) (by first | trivial | (simp [DeepR, DeepV, DeepVs, DeepC, DeepCs, T.scal]; done)) ?_
      simp -implicitDefEqProofs only [go_sem]
      have g4 : decide (scOrd l[i - 1] l[i] ≥ 0) = !scLt l[i - 1] l[i] := by rw [← scOrd_lt]; by_cases hh : scOrd l[i - 1] l[i] < 0 <;> simp [hh] <;> omega
      rw [g4]
      cases g5 : scLt l[i - 1] l[i]
      · simp -implicitDefEqProofs only [go_sem, Bool.not_false]
        exact bad (by rw [e, g5]; simp; omega)
      simp -implicitDefEqProofs only [go_sem, Bool.not_true]
      have hlk : (decide (i = 0) || scLt (l[i - 1]'(by omega)) l[i]) = true := by simp [g5]
      refine CallW.one (s_scoreAt l (l[i]).text hs) p_scoreAt (by first | (simp -implicitDefEqProofs only [go_sem]; done) | ((conv => lhs; simp -implicitDefEqProofs only [go_sem]); done) | (simp -implicitDefEqProofs only [go_sem]; rfl) | rfl) (by first | trivial | (simp [DeepR, DeepV, DeepVs, DeepC, DeepCs, T.scal]; done)) ?_
      simp -implicitDefEqProofs only [go_sem]
      have g7 : decide (ixN (scIx l l[i].text) = i) = decide (scIx l l[i].text = some i) := by
        cases scIx l l[i].text with
        | none => simp [ixN]
        | some k => simp only [ixN, Option.some.injEq]; exact decide_eq_decide.2 (by omega)
      rw [g7]
      refine BrA_i (fun g6 => ?_) (fun g6 => ?_) <;> simp -implicitDefEqProofs only [go_sem, wi]
      · refine .to [32, 153, 154, 155, 257, 258, 259, 321, 322, 323] (i + 1) rfl ?_ ?_ (by omega) ⟨by omega, fun j hj => by
          by_cases hji : j < i
          · exact hz j hji
          · obtain rfl : j = i := by omega
            rw [e, hg, hlk, g6]; rfl⟩ <;> simp -implicitDefEqProofs only [go_sem, LeTs_undef, LeTs_same, LeTs_nil, wi]
      · exact bad (by rw [e, g6]; simp)
    · have g3 : i = 0 := by have := of_decide_eq_false g3; omega
      have hlk : (decide (i = 0) || scLt (l[i - 1]'(by omega)) l[i]) = true := by simp [g3]
      refine CallW.one (s_scoreAt l (l[i]).text hs) p_scoreAt (by first | (simp -implicitDefEqProofs only [go_sem]; done) | ((conv => lhs; simp -implicitDefEqProofs only [go_sem]); done) | (simp -implicitDefEqProofs only [go_sem]; rfl) | rfl) (by first | trivial | (simp [DeepR, DeepV, DeepVs, DeepC, DeepCs, T.scal]; done)) ?_
      simp -implicitDefEqProofs only [go_sem]
      have g7 : decide (ixN (scIx l l[i].text) = i) = decide (scIx l l[i].text = some i) := by
        cases scIx l l[i].text with
        | none => simp [ixN]
        | some k => simp only [ixN, Option.some.injEq]; exact decide_eq_decide.2 (by omega)
      rw [g7]
      refine BrA_i (fun g6 => ?_) (fun g6 => ?_) <;> simp -implicitDefEqProofs only [go_sem, wi]
      · refine .to [32, 153, 154, 155, 257, 258, 259, 321, 322, 323] (i + 1) rfl ?_ ?_ (by omega) ⟨by omega, fun j hj => by
          by_cases hji : j < i
          · exact hz j hji
          · obtain rfl : j = i := by omega
            rw [e, hg, hlk, g6]; rfl⟩ <;> simp -implicitDefEqProofs only [go_sem, LeTs_undef, LeTs_same, LeTs_nil, wi]
      · exact bad (by rw [e, g6]; simp)
  · have h : i = l.length := by simp at h; omega
    subst h
    have : okAll (scAt l) l.length = true := okAll_yes.2 hz
    unfold scoresOkM
    have e16 : decide ((l.length : Int) ≤ 16) = decide (l.length ≤ 16) := decide_eq_decide.2 (by omega)
    rw [this, e16]; rfl
theorem p_l3Ahead : Plain Try.prog 61 := ⟨_, Try.func61, rfl, by decide⟩
theorem s_l3Ahead (x y : Sc) : Spec Try.prog 61 [x.av, y.av] (fun r => r = Bo (scLt x y)) := by
  refine Spec.of tysOk mixed Try.func61 rfl (by decide) ?_
  simp -implicitDefEqProofs only [go_sem, Try.f61]
  (repeat' (first   | (refine BrA_i (fun h => ?_) (fun h => ?_) <;> (try simp only [decide_eq_true_eq, decide_eq_false_iff_not, Bool.not_eq_true', Bool.not_eq_false', gt_iff_lt, ge_iff_le] at h) <;> try simp -implicitDefEqProofs only [go_sem])   | (refine And.intro (a := roomy _ _) (by (unfold roomy; (try simp only [List.length_take, List.length_append, List.length_map, List.length_cons, List.length_nil]); omega)) ?_; try simp -implicitDefEqProofs only [go_sem])))
  all_goals (try simp_all [scLt])
theorem p_sScoresOk : Plain Try.prog 33 := ⟨_, Try.func33, rfl, by decide⟩
theorem s_sScoresOk (l : List Sc) (hs : l.length ≤ 1099511627776) : Spec Try.prog 33 [.t (.list false 2 (l.map Sc.row))] (fun r => r = Bo (scoresOkM l)) := by
  refine Spec.of tysOk mixed Try.func33 rfl (by decide) ?_
  simp -implicitDefEqProofs only [go_sem, Try.f33]
  refine LoopW.slotsM [true, false, false, true, false, false, false, false, false, false, false, false, false, false, false, false, false, false, false, false, false, false, false, false, false, false, false, false, false, false, false, false, false, false, false, false, false, false, false, false, false, false, false, false, false, false, false, false, false, false, false, false, false, false, false, false, false, false, false, false, false, false, false] (α := Nat) (fun i => [(3, I i)]) (fun i => []) (fun i => l.length - i) (fun i => i ≤ l.length ∧ ∀ j, j < i → scAt l j = true) 0 (by simp -implicitDefEqProofs only [go_sem, LeTs_undef, LeTs_same, LeTs_nil]; try simp [LeTs]) rfl ⟨by omega, fun _ h => by omega⟩ ?_
  rintro i ⟨hi, hz⟩
  simp -implicitDefEqProofs only [go_sem]
  refine BrA_i (fun h => ?_) (fun h => ?_) <;> simp -implicitDefEqProofs only [go_sem]
  · skip
    have h : i < l.length := by simp at h; omega
    have h0i : (0 : Int) ≤ i := by omega
    have h1i : (i : Int) < l.length := by omega
    have wi : IntKind.i64.wrap ((i : Int) + 1) = ((i + 1 : Nat) : Int) := by rw [wrap64 (by omega) (by omega)]; omega
    have hr := row_getD Sc.row l h
    simp only [Sc.row] at hr
    have bad : scAt l i = false → AV.t (T.bool false) = Bo (scoresOkM l) := fun hg => by
      unfold scoresOkM; rw [okAll_no h hg]; rfl
    have e := scAt_eq l h
    refine RegD_of sch_33_4 tysOk (by kernel_rfl) ?_
    simp -implicitDefEqProofs only [go_sem, h, h0i, h1i, hr, wi]
    refine BrA_i (fun g1 => ?_) (fun g1 => ?_) <;> simp -implicitDefEqProofs only [go_sem]
    · exact bad (by rw [e]; simp [scGood] at g1 ⊢; intro h1; omega)
    simp -implicitDefEqProofs only [go_sem, h, h0i, h1i, hr, wi]
    refine CallW.one (s_l1In (l[i]).num (-1000000000) 1000000000) p_l1In (by first | (simp -implicitDefEqProofs only [go_sem]; done) | ((conv => lhs; simp -implicitDefEqProofs only [go_sem]); done) | (simp -implicitDefEqProofs only [go_sem]; rfl) | rfl) (by first | trivial | (simp [DeepR, DeepV, DeepVs, DeepC, DeepCs, T.scal]; done)) ?_
    cases g2 : withinM l[i].num (-1000000000) 1000000000
    · simp -implicitDefEqProofs only [go_sem, g2]
      exact bad (by rw [e]; simp [scGood, g2])
    simp -implicitDefEqProofs only [go_sem, g2]
    have hg : scGood l[i] = true := by simp at g1; simp [scGood, g2]; omega
    refine BrA_i (fun g3 => ?_) (fun g3 => ?_) <;> simp -implicitDefEqProofs only [go_sem]
    · have g3 : 0 < i := by simpa using g3
      have hq : i - 1 < l.length := by omega
      have hp : IntKind.i64.wrap ((i : Int) - 1) = ((i - 1 : Nat) : Int) := by rw [wrap64 (by omega) (by omega)]; omega
      have hrq := row_getD Sc.row l hq
      simp only [Sc.row] at hrq
      have q0 : (0 : Int) ≤ ((i - 1 : Nat) : Int) := by omega
      have q1 : ((i - 1 : Nat) : Int) < l.length := by omega
      simp -implicitDefEqProofs only [go_sem, hp, hrq, q0, q1, h, h0i, h1i, hr]
      refine CallW.one (s_l3Ahead (l[i - 1]) (l[i])) p_l3Ahead (by first | (simp -implicitDefEqProofs only [go_sem]; done) | ((conv => lhs; simp -implicitDefEqProofs only [go_sem]); done) | (simp -implicitDefEqProofs only [go_sem]; rfl) | rfl) (by first | trivial | (simp [DeepR, DeepV, DeepVs, DeepC, DeepCs, T.scal]; done)) ?_
      simp -implicitDefEqProofs only [go_sem]
      cases g5 : scLt l[i - 1] l[i]
      · simp -implicitDefEqProofs only [go_sem, Bool.not_false]
        exact bad (by rw [e, g5]; simp; omega)
      simp -implicitDefEqProofs only [go_sem, Bool.not_true]
      have hlk : (decide (i = 0) || scLt (l[i - 1]'(by omega)) l[i]) = true := by simp [g5]
      refine LoopW.slotsM [true, false, false, true, true, false, false, false, false, false, false, false, false, false, false, false, false, false, false, false, false, false, false, false, false, false, false, false, false, false, false, false, false, false, false, false, false, false, false, false, false, false, false, false, false, false, false, false, false, false, false, false, false, false, false, false, false, false, false, false, false, false, false] (α := Nat) (fun k => [(4, I k)]) (fun k => []) (fun k => i - k) (fun k => k ≤ i ∧ ∀ j (hj : j < l.length), j < k → l[j].text ≠ l[i].text) 0 (by simp -implicitDefEqProofs only [go_sem, LeTs_undef, LeTs_same, LeTs_nil]; try simp [LeTs]) rfl ⟨by omega, fun _ _ h => by omega⟩ ?_
      rintro k ⟨hk, hn⟩
      simp -implicitDefEqProofs only [go_sem]
      refine BrA_i (fun g7 => ?_) (fun g7 => ?_) <;> simp -implicitDefEqProofs only [go_sem]
      · have g7 : k < i := by have := of_decide_eq_true g7; omega
        have hkl : k < l.length := by omega
        have hrk := row_getD Sc.row l hkl
        simp only [Sc.row] at hrk
        have k0 : (0 : Int) ≤ k := by omega
        have k1 : (k : Int) < l.length := by omega
        have wk : IntKind.i64.wrap ((k : Int) + 1) = ((k + 1 : Nat) : Int) := by rw [wrap64 (by omega) (by omega)]; omega
        refine RegD_of sch_33_9 tysOk (by kernel_rfl) ?_
        simp -implicitDefEqProofs only [go_sem, hrk, k0, k1, h, h0i, h1i, hr]
        refine BrA_i (fun g8 => ?_) (fun g8 => ?_) <;> simp -implicitDefEqProofs only [go_sem, wk]
        · have g8 := of_decide_eq_true g8
          refine bad ?_
          rw [e]
          have : ¬ scIx l l[i].text = some i := fun hh => (scIx_at hh).2.2 k hkl g7 g8
          simp [this]
        · refine .to [] (k + 1) rfl ?_ ?_ (by omega) ⟨by omega, fun j hj hjk => by
            by_cases hji : j < k
            · exact hn j hj hji
            · obtain rfl : j = k := by omega
              exact of_decide_eq_false g8⟩ <;> simp -implicitDefEqProofs only [go_sem, LeTs_undef, LeTs_same, LeTs_nil, wk]
      · have g7 : k = i := by have := of_decide_eq_false g7; omega
        subst g7
        have g6 := scIx_some (t := l[k].text) h rfl hn
        simp -implicitDefEqProofs only [go_sem, wi]
        refine .to [193, 194, 195, 321, 322, 323] (k + 1) rfl ?_ ?_ (by omega) ⟨by omega, fun j hj => by
          by_cases hji : j < k
          · exact hz j hji
          · obtain rfl : j = k := by omega
            rw [e, hg, hlk, g6]; simp⟩ <;> simp -implicitDefEqProofs only [go_sem, LeTs_undef, LeTs_same, LeTs_nil, wi]
    · have g3 : i = 0 := by have := of_decide_eq_false g3; omega
      have hlk : (decide (i = 0) || scLt (l[i - 1]'(by omega)) l[i]) = true := by simp [g3]
      refine LoopW.slotsM [true, false, false, true, true, false, false, false, false, false, false, false, false, false, false, false, false, false, false, false, false, false, false, false, false, false, false, false, false, false, false, false, false, false, false, false, false, false, false, false, false, false, false, false, false, false, false, false, false, false, false, false, false, false, false, false, false, false, false, false, false, false, false] (α := Nat) (fun k => [(4, I k)]) (fun k => []) (fun k => i - k) (fun k => k ≤ i ∧ ∀ j (hj : j < l.length), j < k → l[j].text ≠ l[i].text) 0 (by simp -implicitDefEqProofs only [go_sem, LeTs_undef, LeTs_same, LeTs_nil]; try simp [LeTs]) rfl ⟨by omega, fun _ _ h => by omega⟩ ?_
      rintro k ⟨hk, hn⟩
      simp -implicitDefEqProofs only [go_sem]
      refine BrA_i (fun g7 => ?_) (fun g7 => ?_) <;> simp -implicitDefEqProofs only [go_sem]
      · have g7 : k < i := by have := of_decide_eq_true g7; omega
        have hkl : k < l.length := by omega
        have hrk := row_getD Sc.row l hkl
        simp only [Sc.row] at hrk
        have k0 : (0 : Int) ≤ k := by omega
        have k1 : (k : Int) < l.length := by omega
        have wk : IntKind.i64.wrap ((k : Int) + 1) = ((k + 1 : Nat) : Int) := by rw [wrap64 (by omega) (by omega)]; omega
        refine RegD_of sch_33_9 tysOk (by kernel_rfl) ?_
        simp -implicitDefEqProofs only [go_sem, hrk, k0, k1, h, h0i, h1i, hr]
        refine BrA_i (fun g8 => ?_) (fun g8 => ?_) <;> simp -implicitDefEqProofs only [go_sem, wk]
        · have g8 := of_decide_eq_true g8
          refine bad ?_
          rw [e]
          have : ¬ scIx l l[i].text = some i := fun hh => (scIx_at hh).2.2 k hkl g7 g8
          simp [this]
        · refine .to [] (k + 1) rfl ?_ ?_ (by omega) ⟨by omega, fun j hj hjk => by
            by_cases hji : j < k
            · exact hn j hj hji
            · obtain rfl : j = k := by omega
              exact of_decide_eq_false g8⟩ <;> simp -implicitDefEqProofs only [go_sem, LeTs_undef, LeTs_same, LeTs_nil, wk]
      · have g7 : k = i := by have := of_decide_eq_false g7; omega
        subst g7
        have g6 := scIx_some (t := l[k].text) h rfl hn
        simp -implicitDefEqProofs only [go_sem, wi]
        refine .to [193, 194, 195, 321, 322, 323] (k + 1) rfl ?_ ?_ (by omega) ⟨by omega, fun j hj => by
          by_cases hji : j < k
          · exact hz j hji
          · obtain rfl : j = k := by omega
            rw [e, hg, hlk, g6]; simp⟩ <;> simp -implicitDefEqProofs only [go_sem, LeTs_undef, LeTs_same, LeTs_nil, wi]
  · have h : i = l.length := by simp at h; omega
    subst h
    have : okAll (scAt l) l.length = true := okAll_yes.2 hz
    unfold scoresOkM
    have e16 : decide ((l.length : Int) ≤ 16) = decide (l.length ≤ 16) := decide_eq_decide.2 (by omega)
    rw [this, e16]; rfl
end Go.Proofs.Ythbhnjcnbnlidaa.Am
namespace Go.Proofs.Ythbhnjcnbnlidaa.Am
open Go
set_option maxRecDepth 100000
set_option maxHeartbeats 1000000
set_option linter.unusedSimpArgs false
set_option linter.unusedVariables false
def numM (l : List Sc) (t : ByteArray) : Option Int := (scIx l t).bind fun i => l[i]?.map Sc.num
theorem numM_some {l : List Sc} {t : ByteArray} {i : Nat} (h : scIx l t = some i) : ∃ hh : i < l.length, numM l t = some l[i].num := by
  obtain ⟨hh, _⟩ := scIx_at h
  exact ⟨hh, by simp [numM, h, hh]⟩
theorem numM_none {l : List Sc} {t : ByteArray} (h : scIx l t = none) : numM l t = none := by simp [numM, h]
theorem p_l8Num : Plain Try.prog 42 := ⟨_, Try.func42, rfl, by decide⟩
theorem s_l8Num (l : List Sc) (t : ByteArray) (hs : l.length ≤ 1099511627776) : Spec Try.prog 42 [.t (.list false 2 (l.map Sc.row)), .t (.str t)] (fun r => r = .tup [I ((numM l t).getD 0), Bo (numM l t).isSome]) := by
  refine Spec.of tysOk mixed Try.func42 rfl (by decide) ?_
  simp -implicitDefEqProofs only [go_sem, Try.f42]
  refine LoopW.slotsM [true, true, false, false, false, false, true, false, false, false, false, false, false, false, false, false, false, false, false, false, false, false, false, false, false] (α := Nat) (fun i => [(6, I i)]) (fun i => []) (fun i => l.length - i) (fun i => i ≤ l.length ∧ ∀ j (h : j < l.length), j < i → l[j].text ≠ t) 0 (by simp -implicitDefEqProofs only [go_sem, LeTs_undef, LeTs_same, LeTs_nil]; try simp [LeTs]) rfl ⟨by omega, fun _ _ h => by omega⟩ ?_
  rintro i ⟨hi, hj⟩
  simp -implicitDefEqProofs only [go_sem]
  refine BrA_i (fun h => ?_) (fun h => ?_) <;> simp -implicitDefEqProofs only [go_sem]
  · skip
    have h : i < l.length := by simp at h; omega
    have h0i : (0 : Int) ≤ i := by omega
    have h1i : (i : Int) < l.length := by omega
    have wi : IntKind.i64.wrap ((i : Int) + 1) = ((i + 1 : Nat) : Int) := by rw [wrap64 (by omega) (by omega)]; omega
    have hr := row_getD Sc.row l h
    simp only [Sc.row] at hr
    simp -implicitDefEqProofs only [go_sem, h, h0i, h1i, hr, wi]
    refine BrA_i (fun h2 => ?_) (fun h2 => ?_) <;> (try simp only [decide_eq_true_eq, decide_eq_false_iff_not] at h2) <;> simp -implicitDefEqProofs only [go_sem, h, h0i, h1i, hr, wi]
    · obtain ⟨_, e⟩ := numM_some (scIx_some h h2 (fun j hj2 => hj j hj2))
      rw [e]; rfl
    · refine .to [] (i + 1) rfl ?_ ?_ (by omega) ⟨by omega, fun j hj2 hj3 => by
        by_cases hji : j < i
        · exact hj j hj2 hji
        · obtain rfl : j = i := by omega
          exact h2⟩ <;> simp -implicitDefEqProofs only [go_sem, LeTs_undef, LeTs_same, LeTs_nil, wi]
  · have h : i = l.length := by simp at h; omega
    subst h
    rw [numM_none (scIx_none (fun j h => hj j h h))]
    rfl
def clampM (n : Int) : Int := if n > 1000000000 then 1000000000 else if n < -1000000000 then -1000000000 else n
theorem p_l8Within : Plain Try.prog 44 := ⟨_, Try.func44, rfl, by decide⟩
theorem s_l8Within (n : Int) : Spec Try.prog 44 [I n] (fun r => r = I (clampM n)) := by
  refine Spec.of tysOk mixed Try.func44 rfl (by decide) ?_
  simp -implicitDefEqProofs only [go_sem, Try.f44]
  (repeat' (first   | (refine BrA_i (fun h => ?_) (fun h => ?_) <;> (try simp only [decide_eq_true_eq, decide_eq_false_iff_not, Bool.not_eq_true', Bool.not_eq_false', gt_iff_lt, ge_iff_le] at h) <;> try simp -implicitDefEqProofs only [go_sem])   | (refine And.intro (a := roomy _ _) (by (unfold roomy; (try simp only [List.length_take, List.length_append, List.length_map, List.length_cons, List.length_nil]); omega)) ?_; try simp -implicitDefEqProofs only [go_sem])))
  all_goals (simp_all [clampM] <;> omega)
def scPl : List Sc → Sc → Nat
  | [], _ => 0
  | x :: l, s => if scLt x s = true then scPl l s + 1 else 0
def insSc (l : List Sc) (s : Sc) : List Sc := l.take (scPl l s) ++ s :: l.drop (scPl l s)
theorem scPl_le : ∀ (l : List Sc) (s : Sc), scPl l s ≤ l.length
  | [], _ => Nat.le_refl _
  | x :: l, s => by
    have := scPl_le l s
    simp only [scPl, List.length_cons]; split <;> omega
theorem scPl_of {s : Sc} : ∀ {l : List Sc} {i : Nat}, i ≤ l.length → (∀ j (h : j < l.length), j < i → scLt l[j] s = true) → (∀ h : i < l.length, scLt l[i] s = false) → scPl l s = i
  | [], i, hi, _, _ => by simp at hi; simp [scPl, hi]
  | x :: l, 0, _, _, hs => by
    have := hs (by simp)
    simp only [List.getElem_cons_zero] at this
    simp [scPl, this]
  | x :: l, i + 1, hi, hj, hs => by
    have h0 := hj 0 (by simp) (by omega)
    simp only [List.getElem_cons_zero] at h0
    simp only [scPl, h0, if_true]
    rw [scPl_of (l := l) (i := i) (by simpa using hi) (fun j h hji => by have := hj (j + 1) (by simpa using h) (by omega); rwa [List.getElem_cons_succ] at this) (fun h => by have := hs (by simpa using h); rwa [List.getElem_cons_succ] at this)]
theorem insSc_len (l : List Sc) (s : Sc) : (insSc l s).length = l.length + 1 := by
  have := scPl_le l s
  simp only [insSc, List.length_append, List.length_take, List.length_cons, List.length_drop]; omega
theorem shared_Sc (l : List Sc) : sharedRows (l.map Sc.row) = l.map Sc.row := by
  unfold sharedRows
  rw [List.map_map]; exact List.map_congr_left fun x _ => rfl
theorem p_l8Put : Plain Try.prog 43 := ⟨_, Try.func43, rfl, by decide⟩
theorem s_l8Put (l : List Sc) (s : Sc) (hl : l.length ≤ 1048576) : Spec Try.prog 43 [.t (.list false 2 (l.map Sc.row)), s.av] (fun r => r = .own (.list true 2 ((insSc l s).map Sc.row))) := by
  refine Spec.of tysOk mixed Try.func43 rfl (by decide) ?_
  simp -implicitDefEqProofs only [go_sem, Try.f43]
  refine LoopW.slotsM [true, false, false, true, false, true, false, false, false, false, false, false, false, false, false, false, false, false, false, false, false, false, false, false, false, false, false, false, false, false, false, false] (α := Nat) (fun i => [(5, I i)]) (fun i => []) (fun i => l.length - i) (fun i => i ≤ l.length ∧ ∀ j (h : j < l.length), j < i → scLt l[j] s = true) 0 (by simp -implicitDefEqProofs only [go_sem, LeTs_undef, LeTs_same, LeTs_nil]; try simp [LeTs]) rfl ⟨by omega, fun _ _ h => by omega⟩ ?_
  rintro i ⟨hi, hj⟩
  have e1 : sharedRows (List.take (i - Int.toNat 0) (List.drop (Int.toNat 0) (List.map Sc.row l))) = (l.take i).map Sc.row := by
    rw [show Int.toNat 0 = 0 from rfl, Nat.sub_zero, List.drop_zero, ← List.map_take, shared_Sc]
  have e2 : sharedRows (List.take (l.length - i) (List.drop i (List.map Sc.row l))) = (l.drop i).map Sc.row := by
    rw [← List.map_drop, List.take_of_length_le (by simp), shared_Sc]
  have h0i : (0 : Int) ≤ i := by omega
  have hle : (i : Int) ≤ l.length := by omega
  have wi : IntKind.i64.wrap ((i : Int) + 1) = ((i + 1 : Nat) : Int) := by rw [wrap64 (by omega) (by omega)]; omega
  simp -implicitDefEqProofs only [go_sem]
  refine RegD_of sch_43_2 tysOk (by kernel_rfl) ?_
  simp -implicitDefEqProofs only [go_sem]
  refine BrA_i (fun h => ?_) (fun h => ?_) <;> simp -implicitDefEqProofs only [go_sem]
  · have h : i < l.length := by simp at h; omega
    have h1i : (i : Int) < l.length := by omega
    have hr := row_getD Sc.row l h
    simp only [Sc.row] at hr
    simp -implicitDefEqProofs only [go_sem, h, h0i, h1i, hr]
    refine CallW.one (s_l3Ahead (l[i]) s) p_l3Ahead (by first | (simp -implicitDefEqProofs only [go_sem]; done) | ((conv => lhs; simp -implicitDefEqProofs only [go_sem]); done) | (simp -implicitDefEqProofs only [go_sem]; rfl) | rfl) (by first | trivial | (simp [DeepR, DeepV, DeepVs, DeepC, DeepCs, T.scal]; done)) ?_
    simp -implicitDefEqProofs only [go_sem]
    cases g : scLt l[i] s
    · simp -implicitDefEqProofs only [go_sem]
      have e := scPl_of hi hj (fun _ => g)
      refine RegD_of sch_43_4 tysOk (by kernel_rfl) ?_
      simp -implicitDefEqProofs only [go_sem, h0i, hle]
      have e3 : (l.take i).map Sc.row ++ [[T.str s.text, T.int .i64 s.num]] ++ (l.drop i).map Sc.row = (insSc l s).map Sc.row := by
        rw [insSc, e, List.map_append, List.map_cons, List.append_assoc]; rfl
      simp only [e1, e2, e3]
      refine ⟨by omega, by unfold roomy; simp; omega, by unfold roomy; simp; omega, by unfold roomy; simp; omega, ?_⟩
      first | rfl | trivial
    · simp -implicitDefEqProofs only [go_sem, wi]
      refine .to [129, 130, 131] (i + 1) rfl ?_ ?_ (by omega) ⟨by omega, fun j hj2 hj3 => by
        by_cases hji : j < i
        · exact hj j hj2 hji
        · obtain rfl : j = i := by omega
          exact g⟩ <;> simp -implicitDefEqProofs only [go_sem, LeTs_undef, LeTs_same, LeTs_nil, wi]
  · have e := scPl_of hi hj (fun h' => by simp at h; omega)
    refine RegD_of sch_43_4 tysOk (by kernel_rfl) ?_
    simp -implicitDefEqProofs only [go_sem, h0i, hle]
    have e3 : (l.take i).map Sc.row ++ [[T.str s.text, T.int .i64 s.num]] ++ (l.drop i).map Sc.row = (insSc l s).map Sc.row := by
      rw [insSc, e, List.map_append, List.map_cons, List.append_assoc]; rfl
    simp only [e1, e2, e3]
    refine ⟨by omega, by unfold roomy; simp; omega, by unfold roomy; simp; omega, by unfold roomy; simp; omega, ?_⟩
    first | rfl | trivial
theorem scoresOkM_len {l : List Sc} (h : scoresOkM l = true) : l.length ≤ 16 := by
  unfold scoresOkM at h
  simp only [Bool.and_eq_true, decide_eq_true_eq] at h
  exact h.2
theorem scoresOkM_at {l : List Sc} (h : scoresOkM l = true) {i : Nat} (hi : i < l.length) : (scGood l[i] = true ∧ (i = 0 ∨ scLt (l[i - 1]'(by omega)) l[i] = true)) ∧ scIx l l[i].text = some i := by
  unfold scoresOkM at h
  simp only [Bool.and_eq_true, decide_eq_true_eq] at h
  have := okAll_yes.1 h.1 i hi
  rw [scAt_eq l hi] at this
  simpa using this
theorem scoresOkM_num {l : List Sc} (h : scoresOkM l = true) {x : Sc} (hx : x ∈ l) : -1000000000 ≤ x.num ∧ x.num ≤ 1000000000 := by
  obtain ⟨i, hi, rfl⟩ := List.mem_iff_getElem.1 hx
  have := (scoresOkM_at h hi).1.1
  simp only [scGood, withinM, Bool.and_eq_true, decide_eq_true_eq] at this
  omega
theorem numM_num {l : List Sc} (h : scoresOkM l = true) (t : ByteArray) : -1000000000 ≤ (numM l t).getD 0 ∧ (numM l t).getD 0 ≤ 1000000000 := by
  cases hx : scIx l t with
  | none => rw [numM_none hx]; simp
  | some i =>
    obtain ⟨hh, e⟩ := numM_some hx
    rw [e]
    exact scoresOkM_num h (List.getElem_mem hh)
def anyS (b o : List Sc) (x : Sc) : List Sc := insSc o ⟨x.text, clampM (x.num + (numM b x.text).getD 0)⟩
def bothS (b o : List Sc) (x : Sc) : List Sc := if (numM b x.text).isSome = true then insSc o ⟨x.text, clampM (x.num + (numM b x.text).getD 0)⟩ else o
def bothM (a b : List Sc) : List Sc := if scoresOkM a = true ∧ scoresOkM b = true then a.foldl (bothS b) [] else []
theorem foldl_len {f : List Sc → Sc → List Sc} (h : ∀ o x, (f o x).length ≤ o.length + 1) : ∀ (l o : List Sc), (l.foldl f o).length ≤ o.length + l.length
  | [], o => by simp
  | x :: l, o => by
    have h1 := foldl_len h l (f o x)
    have h2 := h o x
    simp only [List.foldl_cons, List.length_cons]; omega
theorem bothS_len (b o : List Sc) (x : Sc) : (bothS b o x).length ≤ o.length + 1 := by
  unfold bothS; split
  · rw [insSc_len]; omega
  · omega
theorem p_sScoresBoth : Plain Try.prog 14 := ⟨_, Try.func14, rfl, by decide⟩
theorem s_sScoresBoth (a b : List Sc) (ha : a.length ≤ 1099511627776) (hb : b.length ≤ 1099511627776) : Spec Try.prog 14 [.t (.list false 2 (a.map Sc.row)), .t (.list false 2 (b.map Sc.row))] (fun r => shareR r = .t (.list false 2 ((bothM a b).map Sc.row))) := by
  refine Spec.of tysOk mixed Try.func14 rfl (by decide) ?_
  simp -implicitDefEqProofs only [go_sem, Try.f14]
  refine CallW.one (s_sScoresOk a ha) p_sScoresOk (by first | (simp -implicitDefEqProofs only [go_sem]; done) | ((conv => lhs; simp -implicitDefEqProofs only [go_sem]); done) | (simp -implicitDefEqProofs only [go_sem]; rfl) | rfl) (by first | trivial | (simp [DeepR, DeepV, DeepVs, DeepC, DeepCs, T.scal]; done)) ?_
  cases oa : scoresOkM a
  · simp -implicitDefEqProofs only [go_sem, oa]
    simp [bothM, oa, shareR, shareV, T.mk_list]
  simp -implicitDefEqProofs only [go_sem, oa]
  refine CallW.one (s_sScoresOk b hb) p_sScoresOk (by first | (simp -implicitDefEqProofs only [go_sem]; done) | ((conv => lhs; simp -implicitDefEqProofs only [go_sem]); done) | (simp -implicitDefEqProofs only [go_sem]; rfl) | rfl) (by first | trivial | (simp [DeepR, DeepV, DeepVs, DeepC, DeepCs, T.scal]; done)) ?_
  cases ob : scoresOkM b
  · simp -implicitDefEqProofs only [go_sem, ob]
    simp [bothM, ob, shareR, shareV, T.mk_list]
  simp -implicitDefEqProofs only [go_sem, ob]
  have la := scoresOkM_len oa
  have lb := scoresOkM_len ob
  refine LoopW.empT [5] (by conv => lhs; simp -implicitDefEqProofs only [go_sem]) ?_
  refine LoopW.slotsM [true, true, false, false, false, true, true, false, false, false, false, false, false, false, false, false, false, false, false, false, false, false, false, false, false, false, false, false, false, false, false, false, false, false, false, false, false, false, false, false, false, false, false, false, false, false, false, false, false, false, false, false, false] (α := Nat) (fun i => [(6, I i), (5, .t (.list false 2 (((a.take i).foldl (bothS b) []).map Sc.row)))]) (fun i => []) (fun i => a.length - i) (fun i => i ≤ a.length) 0 (by simp -implicitDefEqProofs only [go_sem, LeTs_undef, LeTs_same, LeTs_nil]; try simp [LeTs]) rfl (by omega) ?_
  intro i hi
  simp -implicitDefEqProofs only [go_sem]
  refine BrA_i (fun h => ?_) (fun h => ?_) <;> simp -implicitDefEqProofs only [go_sem]
  · skip
    have h : i < a.length := by simp at h; omega
    have h0i : (0 : Int) ≤ i := by omega
    have h1i : (i : Int) < a.length := by omega
    have wi : IntKind.i64.wrap ((i : Int) + 1) = ((i + 1 : Nat) : Int) := by rw [wrap64 (by omega) (by omega)]; omega
    have hr := row_getD Sc.row a h
    simp only [Sc.row] at hr
    have ef := foldl_take (bothS b) [] a h
    have hl := foldl_len (bothS_len b) (a.take i) []
    obtain ⟨acc, hacc⟩ : ∃ acc, acc = (a.take i).foldl (bothS b) [] := ⟨_, rfl⟩
    rw [← hacc] at ef hl ⊢
    have hl1 : acc.length ≤ 1048576 := by simp at hl; omega
    have hn := scoresOkM_num oa (List.getElem_mem h)
    have hm := numM_num ob a[i].text
    have ws : IntKind.i64.wrap (a[i].num + (numM b a[i].text).getD 0) = a[i].num + (numM b a[i].text).getD 0 := wrap64 (by omega) (by omega)
    simp -implicitDefEqProofs only [go_sem, h, h0i, h1i, hr]
    refine CallW.ps (s_l8Num b (a[i]).text hb) p_l8Num (by first | (simp -implicitDefEqProofs only [go_sem]; done) | ((conv => lhs; simp -implicitDefEqProofs only [go_sem]); done) | (simp -implicitDefEqProofs only [go_sem]; rfl) | rfl) rfl ?_
    rintro _ rfl
    simp -implicitDefEqProofs only [go_sem]
    cases hs : (numM b a[i].text).isSome
    · simp -implicitDefEqProofs only [go_sem, hs, wi]
      refine .to [257, 258, 259, 393, 394, 395, 409, 410, 411] (i + 1) rfl ?_ ?_ (by omega) (by omega) <;> simp -implicitDefEqProofs only [go_sem, LeTs_undef, LeTs_same, LeTs_nil, wi, ef, bothS, hs]
    · simp -implicitDefEqProofs only [go_sem, hs]
      refine RegD_of sch_14_9 tysOk (by kernel_rfl) ?_
      simp -implicitDefEqProofs only [go_sem, h, h0i, h1i, hr, ws]
      refine CallW.one (s_l8Within (a[i].num + (numM b a[i].text).getD 0)) p_l8Within (by first | (simp -implicitDefEqProofs only [go_sem]; done) | ((conv => lhs; simp -implicitDefEqProofs only [go_sem]); done) | (simp -implicitDefEqProofs only [go_sem]; rfl) | rfl) (by first | trivial | (simp [DeepR, DeepV, DeepVs, DeepC, DeepCs, T.scal]; done)) ?_
      simp -implicitDefEqProofs only [go_sem]
      refine CallW.ps (s_l8Put acc ⟨a[i].text, clampM (a[i].num + (numM b a[i].text).getD 0)⟩ hl1) p_l8Put (by first | (simp -implicitDefEqProofs only [go_sem]; done) | ((conv => lhs; simp -implicitDefEqProofs only [go_sem]); done) | (simp -implicitDefEqProofs only [go_sem]; rfl) | rfl) rfl ?_
      rintro _ rfl
      simp -implicitDefEqProofs only [go_sem, wi]
      refine .to [257, 258, 259, 393, 394, 395, 409, 410, 411] (i + 1) rfl ?_ ?_ (by omega) (by omega) <;> simp -implicitDefEqProofs only [go_sem, LeTs_undef, LeTs_same, LeTs_nil, wi, ef, bothS, hs]
  · have h : i = a.length := by simp at h; omega
    subst h
    rw [List.take_length]
    simp [bothM, oa, ob, shareR, shareV, T.mk_list, Sc.mk_rows]
def sumA (b : List Sc) (both : Bool) (x : Sc) : List Sc := match scIx b x.text with
  | some i => [⟨x.text, clampM (x.num + ((b[i]?.map Sc.num).getD 0))⟩]
  | none => if both = true then [] else [x]
def sumB (a : List Sc) (both : Bool) (y : Sc) : List Sc := if both = false ∧ scIx a y.text = none then [y] else []
theorem flat_take {α β : Type} (f : α → List β) (l : List α) {i : Nat} (h : i < l.length) : (l.take (i + 1)).flatMap f = (l.take i).flatMap f ++ f l[i] := by
  rw [List.take_succ_eq_append_getElem h, List.flatMap_append]; simp
theorem flat_len {α β : Type} {f : α → List β} (h : ∀ x, (f x).length ≤ 1) : ∀ l : List α, (l.flatMap f).length ≤ l.length
  | [] => by simp
  | x :: l => by
    have := flat_len h l
    have := h x
    simp only [List.flatMap_cons, List.length_append, List.length_cons]; omega
theorem sumA_len (b : List Sc) (both : Bool) (x : Sc) : (sumA b both x).length ≤ 1 := by
  unfold sumA; split
  · simp
  · split <;> simp
theorem sumB_len (a : List Sc) (both : Bool) (y : Sc) : (sumB a both y).length ≤ 1 := by
  unfold sumB; split <;> simp
theorem p_summed : Plain Try.prog 46 := ⟨_, Try.func46, rfl, by decide⟩
theorem s_summed (a b : List Sc) (both : Bool) (ha : a.length ≤ 1099511627776) (hb : b.length ≤ 1099511627776) : Spec Try.prog 46 [.t (.list false 2 (a.map Sc.row)), .t (.list false 2 (b.map Sc.row)), Bo both] (fun r => ∃ l : List Sc, r = .own (.list true 2 (l.map Sc.row)) ∧
    ((¬ (scoresOkM a = true ∧ scoresOkM b = true) ∧ l = []) ∨ (scoresOkM a = true ∧ scoresOkM b = true ∧ l.Perm (a.flatMap (sumA b both) ++ b.flatMap (sumB a both)) ∧ l.Pairwise (fun x y => scLt y x = false)))) := by
  refine Spec.of tysOk mixed Try.func46 rfl (by decide) ?_
  simp -implicitDefEqProofs only [go_sem, Try.f46]
  refine CallW.one (s_ScoresOk a ha) p_ScoresOk (by first | (simp -implicitDefEqProofs only [go_sem]; done) | ((conv => lhs; simp -implicitDefEqProofs only [go_sem]); done) | (simp -implicitDefEqProofs only [go_sem]; rfl) | rfl) (by first | trivial | (simp [DeepR, DeepV, DeepVs, DeepC, DeepCs, T.scal]; done)) ?_
  cases oa : scoresOkM a
  · simp -implicitDefEqProofs only [go_sem, oa]
    refine ⟨[], ?_⟩
    simp
  simp -implicitDefEqProofs only [go_sem, oa]
  refine CallW.one (s_ScoresOk b hb) p_ScoresOk (by first | (simp -implicitDefEqProofs only [go_sem]; done) | ((conv => lhs; simp -implicitDefEqProofs only [go_sem]); done) | (simp -implicitDefEqProofs only [go_sem]; rfl) | rfl) (by first | trivial | (simp [DeepR, DeepV, DeepVs, DeepC, DeepCs, T.scal]; done)) ?_
  cases ob : scoresOkM b
  · simp -implicitDefEqProofs only [go_sem, ob]
    refine ⟨[], ?_⟩
    simp
  simp -implicitDefEqProofs only [go_sem, ob]
  have la := scoresOkM_len oa
  have lb := scoresOkM_len ob
  refine LoopW.slotsM [true, true, true, false, false, false, false, true, false, false, false, false, false, false, false, false, false, false, false, false, false, false, false, true, true, true, false, false, false, false, false, false, false, false, false, false, false, false, false, false, false, false, false, false, false, false, false, false, false, false, false, false, false, false, false, false, false, false, false, false, false, false, false, false, false, false, false, false, false, false, false, false, false, false, false, false, false, false, false, false] (α := Nat) (fun i => [(25, I i)]) (fun i => [(104, .rows 2 (((a.take i).flatMap (sumA b both)).map Sc.row))]) (fun i => a.length - i) (fun i => i ≤ a.length) 0 (by simp -implicitDefEqProofs only [go_sem, LeTs_undef, LeTs_same, LeTs_nil]; try simp [LeTs]) (by simp -implicitDefEqProofs only [go_sem, List.take_zero, List.flatMap_nil, List.map_nil]) (by omega) ?_
  intro i hi
  simp -implicitDefEqProofs only [go_sem]
  refine BrA_i (fun h => ?_) (fun h => ?_) <;> simp -implicitDefEqProofs only [go_sem]
  · skip
    have h : i < a.length := by simp at h; omega
    have h0i : (0 : Int) ≤ i := by omega
    have h1i : (i : Int) < a.length := by omega
    have wi : IntKind.i64.wrap ((i : Int) + 1) = ((i + 1 : Nat) : Int) := by rw [wrap64 (by omega) (by omega)]; omega
    have hr := row_getD Sc.row a h
    simp only [Sc.row] at hr
    have ef := flat_take (sumA b both) a h
    have hl := flat_len (sumA_len b both) (a.take i)
    obtain ⟨acc, hacc⟩ : ∃ acc, acc = (a.take i).flatMap (sumA b both) := ⟨_, rfl⟩
    rw [← hacc] at ef hl ⊢
    have hl1 : acc.length ≤ 16 := by simp at hl; omega
    have hn := scoresOkM_num oa (List.getElem_mem h)
    simp -implicitDefEqProofs only [go_sem, h, h0i, h1i, hr]
    refine CallW.one (s_scoreAt b (a[i]).text hb) p_scoreAt (by first | (simp -implicitDefEqProofs only [go_sem]; done) | ((conv => lhs; simp -implicitDefEqProofs only [go_sem]); done) | (simp -implicitDefEqProofs only [go_sem]; rfl) | rfl) (by first | trivial | (simp [DeepR, DeepV, DeepVs, DeepC, DeepCs, T.scal]; done)) ?_
    cases hx : scIx b a[i].text with
    | none =>
      have ng : decide ((-1 : Int) ≥ 0) = false := by decide
      simp -implicitDefEqProofs only [go_sem, hx, ixN, ng]
      cases both
      · simp -implicitDefEqProofs only [go_sem]
        have e2 : (acc ++ sumA b false a[i]).map Sc.row = acc.map Sc.row ++ [[T.str a[i].text, T.int .i64 a[i].num]] := by
          rw [sumA, hx, List.map_append]; rfl
        refine ⟨by unfold roomy; omega, .to [72, 432, 440, 257, 258, 259] (i + 1) rfl ?_ ?_ (by omega) (by omega)⟩ <;> simp -implicitDefEqProofs only [go_sem, LeTs_undef, LeTs_same, LeTs_nil, wi, ef, e2]
      · simp -implicitDefEqProofs only [go_sem]
        have e2 : acc ++ sumA b true a[i] = acc := by rw [sumA, hx]; simp
        refine .to [72, 432, 440, 257, 258, 259] (i + 1) rfl ?_ ?_ (by omega) (by omega) <;> simp -implicitDefEqProofs only [go_sem, LeTs_undef, LeTs_same, LeTs_nil, wi, ef, e2]
    | some k =>
      obtain ⟨hk, hkt, _⟩ := scIx_at hx
      have hkr := row_getD Sc.row b hk
      simp only [Sc.row] at hkr
      have k0 : (0 : Int) ≤ k := by omega
      have k1 : (k : Int) < b.length := by omega
      have hm := scoresOkM_num ob (List.getElem_mem hk)
      have ws : IntKind.i64.wrap (a[i].num + b[k].num) = a[i].num + b[k].num := wrap64 (by omega) (by omega)
      have kg : decide ((k : Int) ≥ 0) = true := by simp
      have hc : (if 1000000000 < (if -1000000000 > a[i].num + b[k].num then -1000000000 else a[i].num + b[k].num) then 1000000000 else if -1000000000 > a[i].num + b[k].num then -1000000000 else a[i].num + b[k].num) = clampM (a[i].num + b[k].num) := by
        unfold clampM; (repeat' split) <;> omega
      simp -implicitDefEqProofs only [go_sem, hx, ixN, kg]
      refine RegD_of sch_46_9 tysOk (by kernel_rfl) ?_
      simp -implicitDefEqProofs only [go_sem, k0, k1, hkr, ws]
      simp only [hc]
      have e2 : (acc ++ sumA b both a[i]).map Sc.row = acc.map Sc.row ++ [[T.str a[i].text, T.int .i64 (clampM (a[i].num + b[k].num))]] := by
        rw [sumA, hx, List.map_append]; simp [hk]; rfl
      refine ⟨by unfold roomy; omega, .to [72, 432, 440, 257, 258, 259] (i + 1) rfl ?_ ?_ (by omega) (by omega)⟩ <;> simp -implicitDefEqProofs only [go_sem, LeTs_undef, LeTs_same, LeTs_nil, wi, ef, e2]
  · have h : i = a.length := by simp at h; omega
    subst h
    rw [List.take_length]
    have hl0 := flat_len (sumA_len b both) a
    obtain ⟨acc0, hacc0⟩ : ∃ acc0, acc0 = a.flatMap (sumA b both) := ⟨_, rfl⟩
    rw [← hacc0] at hl0 ⊢
    refine LoopW.slotsM [true, false, true, false, false, false, false, true, false, false, false, false, false, false, false, false, false, false, false, false, false, false, false, false, false, false, false, false, false, false, false, false, false, false, false, false, false, false, false, false, false, false, false, false, false, false, false, false, false, false, false, false, false, false, false, false, false, true, true, true, false, false, false, false, false, false, false, false, false, false, false, false, false, false, false, false, false, false, false, false] (α := Nat) (fun i => [(59, I i)]) (fun i => [(104, .rows 2 ((acc0 ++ (b.take i).flatMap (sumB a both)).map Sc.row))]) (fun i => b.length - i) (fun i => i ≤ b.length) 0 (by simp -implicitDefEqProofs only [go_sem, LeTs_undef, LeTs_same, LeTs_nil]; try simp [LeTs]) (by simp -implicitDefEqProofs only [go_sem, List.take_zero, List.flatMap_nil, List.append_nil]) (by omega) ?_
    intro i hi
    simp -implicitDefEqProofs only [go_sem]
    refine BrA_i (fun h => ?_) (fun h => ?_) <;> simp -implicitDefEqProofs only [go_sem]
    · skip
      have h : i < b.length := by simp at h; omega
      have h0i : (0 : Int) ≤ i := by omega
      have h1i : (i : Int) < b.length := by omega
      have wi : IntKind.i64.wrap ((i : Int) + 1) = ((i + 1 : Nat) : Int) := by rw [wrap64 (by omega) (by omega)]; omega
      have hr := row_getD Sc.row b h
      simp only [Sc.row] at hr
      have ef := flat_take (sumB a both) b h
      have hl := flat_len (sumB_len a both) (b.take i)
      obtain ⟨acc, hacc⟩ : ∃ acc, acc = acc0 ++ (b.take i).flatMap (sumB a both) := ⟨_, rfl⟩
      have ef2 : acc0 ++ (b.take (i + 1)).flatMap (sumB a both) = acc ++ sumB a both b[i] := by rw [ef, hacc, List.append_assoc]
      have hl1 : acc.length ≤ 32 := by rw [hacc]; simp at hl ⊢; omega
      rw [← hacc]
      clear ef
      simp -implicitDefEqProofs only [go_sem, h, h0i, h1i, hr]
      cases both
      · simp -implicitDefEqProofs only [go_sem]
        refine CallW.one (s_scoreAt a (b[i]).text ha) p_scoreAt (by first | (simp -implicitDefEqProofs only [go_sem]; done) | ((conv => lhs; simp -implicitDefEqProofs only [go_sem]); done) | (simp -implicitDefEqProofs only [go_sem]; rfl) | rfl) (by first | trivial | (simp [DeepR, DeepV, DeepVs, DeepC, DeepCs, T.scal]; done)) ?_
        cases hx : scIx a b[i].text with
        | none =>
          have ng : decide ((-1 : Int) < 0) = true := by decide
          simp -implicitDefEqProofs only [go_sem, hx, ixN, ng]
          have e2 : (acc ++ sumB a false b[i]).map Sc.row = acc.map Sc.row ++ [[T.str b[i].text, T.int .i64 b[i].num]] := by
            rw [sumB, if_pos ⟨rfl, hx⟩, List.map_append]; rfl
          refine ⟨by unfold roomy; omega, .to [96, 592, 600, 553, 554, 555] (i + 1) rfl ?_ ?_ (by omega) (by omega)⟩ <;> simp -implicitDefEqProofs only [go_sem, LeTs_undef, LeTs_same, LeTs_nil, wi, ef2, e2]
        | some k =>
          have ng : decide ((k : Int) < 0) = false := by simp
          simp -implicitDefEqProofs only [go_sem, hx, ixN, ng]
          have e2 : acc ++ sumB a false b[i] = acc := by rw [sumB, if_neg (by simp [hx])]; simp
          refine .to [96, 592, 600, 553, 554, 555] (i + 1) rfl ?_ ?_ (by omega) (by omega) <;> simp -implicitDefEqProofs only [go_sem, LeTs_undef, LeTs_same, LeTs_nil, wi, ef2, e2]
      · simp -implicitDefEqProofs only [go_sem]
        have e2 : acc ++ sumB a true b[i] = acc := by rw [sumB, if_neg (by simp)]; simp
        refine .to [96, 592, 600, 553, 554, 555] (i + 1) rfl ?_ ?_ (by omega) (by omega) <;> simp -implicitDefEqProofs only [go_sem, LeTs_undef, LeTs_same, LeTs_nil, wi, ef2, e2]
    · have h : i = b.length := by simp at h; omega
      subst h
      rw [List.take_length]
      have hl2 := flat_len (sumB_len a both) b
      obtain ⟨all, hall⟩ : ∃ all, all = acc0 ++ b.flatMap (sumB a both) := ⟨_, rfl⟩
      have hal : all.length < 4611686018427387904 := by rw [hall, List.length_append]; omega
      rw [← hall]
      refine CallW.o [(9000, 104)] (s_sortSc all hal) p_sortSc o70 rfl (by (conv => lhs; simp -implicitDefEqProofs only [go_sem]) <;> rfl) (by (simp -implicitDefEqProofs only [go_sem]) <;> rfl) ?_
      rintro _ _ ⟨rfl, l, hp, hs, rfl⟩
      simp -implicitDefEqProofs only [go_sem]
      exact ⟨l, rfl, .inr ⟨hp, hs⟩⟩
end Go.Proofs.Ythbhnjcnbnlidaa.Am
namespace Go.Proofs.Ythbhnjcnbnlidaa.Am
open Go
set_option maxRecDepth 100000
set_option linter.unusedSimpArgs false
set_option linter.unusedVariables false
theorem insSc_nil (s : Sc) : insSc [] s = [s] := rfl
theorem insSc_cons (x : Sc) (l : List Sc) (s : Sc) : insSc (x :: l) s = if scLt x s = true then x :: insSc l s else s :: x :: l := by
  have e : scPl (x :: l) s = if scLt x s = true then scPl l s + 1 else 0 := rfl
  unfold insSc
  rw [e]
  split <;> simp
theorem insSc_perm (s : Sc) : ∀ l : List Sc, (insSc l s).Perm (s :: l)
  | [] => List.Perm.refl _
  | x :: l => by
    rw [insSc_cons]
    split
    · exact ((insSc_perm s l).cons x).trans (List.Perm.swap s x l)
    · exact List.Perm.refl _
abbrev srt (l : List Sc) : Prop := l.Pairwise fun x y => scLt y x = false
theorem scLt_asymm {x y : Sc} (h : scLt x y = true) : scLt y x = false := by
  cases h' : scLt y x
  · rfl
  · have := scLt_trans h h'
    rw [scLt_irrefl] at this; cases this
theorem scLt_ge {x y z : Sc} (h : scLt y x = false) (h' : scLt z y = false) : scLt z x = false := by
  cases h3 : scLt z x
  · rfl
  · cases h1 : scLt x y
    · have := scLt_total h1 h
      subst this
      rw [h3] at h'; cases h'
    · rw [scLt_trans h3 h1] at h'; cases h'
theorem insSc_srt (s : Sc) : ∀ {l : List Sc}, srt l → srt (insSc l s)
  | [], _ => by simp [insSc_nil, srt]
  | x :: l, h => by
    have h' := List.pairwise_cons.1 h
    rw [insSc_cons]
    split
    · rename_i hx
      refine List.pairwise_cons.2 ⟨fun y hy => ?_, insSc_srt s h'.2⟩
      rcases List.mem_cons.1 ((insSc_perm s l).mem_iff.1 hy) with rfl | hy
      · exact scLt_asymm hx
      · exact h'.1 y hy
    · rename_i hx
      have hx : scLt x s = false := by simpa using hx
      refine List.pairwise_cons.2 ⟨fun y hy => ?_, h⟩
      rcases List.mem_cons.1 hy with rfl | hy
      · exact hx
      · exact scLt_ge hx (h'.1 y hy)
theorem srt_unique {l l' : List Sc} (h : srt l) (h' : srt l') (p : l.Perm l') : l = l' :=
  p.eq_of_pairwise (fun a b _ _ h1 h2 => scLt_total h2 h1) h h'
theorem foldl_ins {f : List Sc → Sc → List Sc} {g : Sc → List Sc} (h : ∀ o x, (f o x).Perm (o ++ g x)) (h' : ∀ o x, srt o → srt (f o x)) : ∀ (l o : List Sc), srt o → (l.foldl f o).Perm (o ++ l.flatMap g) ∧ srt (l.foldl f o)
  | [], o, ho => by simpa using ho
  | x :: l, o, ho => by
    obtain ⟨h1, h2⟩ := foldl_ins h h' l (f o x) (h' o x ho)
    refine ⟨?_, h2⟩
    rw [List.foldl_cons, List.flatMap_cons, ← List.append_assoc]
    exact h1.trans ((h o x).append_right _)
theorem sumA_both {b : List Sc} {x : Sc} : sumA b true x = if (numM b x.text).isSome = true then [⟨x.text, clampM (x.num + (numM b x.text).getD 0)⟩] else [] := by
  unfold sumA
  cases h : scIx b x.text with
  | none => rw [numM_none h]; simp
  | some i =>
    obtain ⟨hh, e⟩ := numM_some h
    rw [e]; simp [hh]
theorem ins_app (o : List Sc) (s : Sc) : (insSc o s).Perm (o ++ [s]) := (insSc_perm s o).trans (List.perm_append_singleton s o).symm
theorem bothM_eq {a b l : List Sc} (oa : scoresOkM a = true) (ob : scoresOkM b = true) (hp : l.Perm (a.flatMap (sumA b true) ++ b.flatMap (sumB a true))) (hs : srt l) : l = bothM a b := by
  unfold bothM
  rw [if_pos ⟨oa, ob⟩]
  obtain ⟨p1, s1⟩ := foldl_ins (f := bothS b) (g := sumA b true) (fun o x => by
      rw [sumA_both]
      unfold bothS
      split
      · exact ins_app _ _
      · simp) (fun o x ho => by unfold bothS; split <;> first | exact ho | exact insSc_srt _ ho) a [] List.Pairwise.nil
  refine srt_unique hs s1 (hp.trans (List.Perm.trans ?_ p1.symm))
  have : b.flatMap (sumB a true) = [] := by
    rw [List.flatMap_eq_nil_iff]; intro y _; unfold sumB; rw [if_neg (by simp)]
  rw [this]; simp
theorem p_ScoresBoth : Plain Try.prog 16 := ⟨_, Try.func16, rfl, by decide⟩
theorem s_ScoresBoth (a b : List Sc) (ha : a.length ≤ 1099511627776) (hb : b.length ≤ 1099511627776) : Spec Try.prog 16 [.t (.list false 2 (a.map Sc.row)), .t (.list false 2 (b.map Sc.row))] (fun r => r = .own (.list true 2 ((bothM a b).map Sc.row))) := by
  refine Spec.of tysOk mixed Try.func16 rfl (by decide) ?_
  simp -implicitDefEqProofs only [go_sem, Try.f16]
  refine CallW.p (s_summed a b true ha hb) p_summed (by first | (simp -implicitDefEqProofs only [go_sem]; done) | ((conv => lhs; simp -implicitDefEqProofs only [go_sem]); done) | (simp -implicitDefEqProofs only [go_sem]; rfl) | rfl) rfl ?_
  rintro _ ⟨l, rfl, ⟨h, rfl⟩ | ⟨oa, ob, hp, hs⟩⟩
  · simp -implicitDefEqProofs only [go_sem]
    simp [bothM, h]
  · simp -implicitDefEqProofs only [go_sem]
    rw [bothM_eq oa ob hp hs]
end Go.Proofs.Ythbhnjcnbnlidaa.Am
namespace Go.Proofs.Ythbhnjcnbnlidaa.Am
open Go
set_option maxRecDepth 100000
set_option linter.unusedSimpArgs false
set_option linter.unusedVariables false
theorem p_eqScore : Plain Try.prog 47 := ⟨_, Try.func47, rfl, by decide⟩
theorem s_eqScore (x y : Sc) : Spec Try.prog 47 [x.av, y.av] (fun r => r = Bo (decide (x = y))) := by
  have ext := Sc.ext_iff (x := x) (y := y)
  refine Spec.of tysOk mixed Try.func47 rfl (by decide) ?_
  simp -implicitDefEqProofs only [go_sem, Try.f47]
  refine BrA_i (fun h0 => ?_) (fun h0 => ?_) <;> simp -implicitDefEqProofs only [go_sem]
  rotate_left
  · simp only [decide_eq_false_iff_not] at h0; simp [ext, h0]
  simp only [decide_eq_true_eq] at h0
  refine BrA_i (fun h1 => ?_) (fun h1 => ?_) <;> simp -implicitDefEqProofs only [go_sem]
  rotate_left
  · simp only [decide_eq_false_iff_not] at h1; simp [ext, h1]
  simp only [decide_eq_true_eq] at h1
  simp [ext, *]
theorem p_eqScoreS : Plain Try.prog 17 := ⟨_, Try.func17, rfl, by decide⟩
theorem s_eqScoreS (xs ys : List Sc) (hx : xs.length < 4611686018427387904) : Spec Try.prog 17 [.t (.list false 2 (xs.map Sc.row)), .t (.list false 2 (ys.map Sc.row))] (fun r => r = Bo (decide (xs = ys))) := by
  refine Spec.of tysOk mixed Try.func17 rfl (by decide) ?_
  simp -implicitDefEqProofs only [go_sem, Try.f17]
  refine BrA_i (fun h => ?_) (fun h => ?_) <;> simp -implicitDefEqProofs only [go_sem]
  · have hl : xs.length = ys.length := by simp at h; omega
    refine LoopW.slots (α := Nat) (fun i => [(5, I i)]) (fun _ => []) (fun i => xs.length - i) (fun i => i ≤ xs.length ∧ ∀ j (h : j < xs.length), j < i → xs[j] = ys[j]) 0 rfl rfl (by simp) ?_
    rintro i ⟨hi, hz⟩
    simp -implicitDefEqProofs only [go_sem]
    refine BrA_i (fun h => ?_) (fun h => ?_)
    · have h : i < xs.length := by simp at h; omega
      have h' : i < ys.length := by omega
      have hw1 : IntKind.i64.wrap ((i : Int) + 1) = ((i + 1 : Nat) : Int) := by rw [wrap64 (by omega) (by omega)]; omega
      simp -implicitDefEqProofs only [go_sem]
      refine RegD_of sch_17_6 tysOk (by kernel_rfl) ?_
      simp -implicitDefEqProofs only [go_sem, row_getD _ _ h, row_getD _ _ h', Sc.row]
      refine ⟨⟨by omega, by omega⟩, ⟨by omega, by omega⟩, ?_⟩
      refine .one (s_eqScore xs[i] ys[i]) p_eqScore (by simp -implicitDefEqProofs only [go_sem]) trivial ?_
      simp -implicitDefEqProofs only [go_sem]
      refine BrA_i (fun h1 => ?_) (fun h1 => ?_) <;> simp -implicitDefEqProofs only [go_sem]
      · refine .to [] (i + 1) rfl ?_ ?_ (by omega) ⟨h, fun j hj hl => ?_⟩ <;> (try simp -implicitDefEqProofs only [go_sem, LeTs_undef, LeTs_same, LeTs_nil, hw1])
        rcases Nat.lt_succ_iff_lt_or_eq.1 hl with hl | rfl
        · exact hz j hj hl
        · simpa using h1
      · have : xs ≠ ys := fun e => by subst e; simp at h1
        simp [this]
    · simp -implicitDefEqProofs only [go_sem]
      have : xs = ys := List.ext_getElem hl fun j h1 h2 => hz j h1 (by simp at h; omega)
      simp [this]
  · have : xs ≠ ys := fun e => by subst e; simp at h
    simp [this]
end Go.Proofs.Ythbhnjcnbnlidaa.Am
namespace Go.Proofs.Ythbhnjcnbnlidaa.Am
open Go
set_option maxRecDepth 100000
set_option linter.unusedSimpArgs false
set_option linter.unusedVariables false
theorem p_szScore : Plain Try.prog 41 := ⟨_, Try.func41, rfl, by decide⟩
theorem s_szScore (x : Sc) (n : Int) (h0 : 0 ≤ n) (h1 : n ≤ 1048576) (hs : x.G) : Spec Try.prog 41 [x.av, I n] (fun r => r = I (cutM n x.w)) := by
  have hk : x.w = x.text.size := rfl
  have q0 : x.text.size ≤ 140737488351232 := hs
  refine Spec.of tysOk mixed Try.func41 rfl (by decide) ?_
  simp -implicitDefEqProofs only [go_sem, Try.f41]
  have w0 : IntKind.i64.wrap (n - ((x.text.size : Nat) : Int)) = n - ((x.text.size : Nat) : Int) := wrap64 (by omega) (by omega)
  simp -implicitDefEqProofs only [go_sem, w0]
  refine BrA_i (fun g0 => ?_) (fun g0 => ?_) <;> simp -implicitDefEqProofs only [go_sem]
  · have : n < x.w := by simp at g0; omega
    simp [cutM, this]
  have g0 : 0 ≤ n - ((x.text.size : Nat) : Int) := by simp at g0; omega
  have : ¬ n < x.w := by omega
  simp only [cutM, this, if_false]
  congr 2
  all_goals omega
theorem p_szScoreS : Plain Try.prog 13 := ⟨_, Try.func13, rfl, by decide⟩
theorem s_szScoreS (xs : List Sc) (n : Int) (h0 : 0 ≤ n) (h1 : n ≤ 1048576) (hs : lG Sc.G xs) : Spec Try.prog 13 [.t (.list false 2 (xs.map Sc.row)), I n] (fun r => r = I (cutM n (wAll Sc.w xs))) := by
  have hk : wAll Sc.w xs = xs.length + wSum Sc.w xs := rfl
  obtain ⟨hs, hsG⟩ := hs
  refine Spec.of tysOk mixed Try.func13 rfl (by decide) ?_
  have w1 : IntKind.i64.wrap (n - (xs.length : Int)) = n - xs.length := wrap64 (by omega) (by omega)
  simp -implicitDefEqProofs only [go_sem, Try.f13, w1]
  refine BrA_i (fun h2 => ?_) (fun h2 => ?_) <;> simp -implicitDefEqProofs only [go_sem]
  · simp at h2
    have : n < wAll Sc.w xs := by omega
    simp [cutM, this]
  · simp at h2
    refine LoopW.slots (α := Nat) (fun i => [(5, I i), (1, I (n - xs.length - wSum Sc.w (xs.take i)))]) (fun _ => []) (fun i => xs.length - i) (fun i => i ≤ xs.length ∧ 0 ≤ n - xs.length - wSum Sc.w (xs.take i)) 0 (by simp -implicitDefEqProofs only [go_sem]; simp [wSum]) rfl (by simp [wSum]; omega) ?_
    rintro i ⟨hi, hz⟩
    simp -implicitDefEqProofs only [go_sem]
    refine BrA_i (fun h => ?_) (fun h => ?_)
    · have h : i < xs.length := by simp at h; omega
      have hw1 : IntKind.i64.wrap ((i : Int) + 1) = ((i + 1 : Nat) : Int) := by rw [wrap64 (by omega) (by omega)]; omega
      have e1 := wSum_take Sc.w xs h
      have e2 := wSum_le Sc.w xs (i + 1)
      simp -implicitDefEqProofs only [go_sem, row_getD _ _ h, Sc.row]
      refine ⟨⟨by omega, by omega⟩, ?_⟩
      refine .one (s_szScore xs[i] _ hz (by omega) (hsG _ (List.getElem_mem h))) p_szScore (by simp -implicitDefEqProofs only [go_sem]) trivial ?_
      simp -implicitDefEqProofs only [go_sem]
      refine BrA_i (fun h3 => ?_) (fun h3 => ?_) <;> simp -implicitDefEqProofs only [go_sem]
      · have h3 : n - xs.length - wSum Sc.w (xs.take i) < xs[i].w := (cutM_lt _ _).1 (by simpa using h3)
        have : n < wAll Sc.w xs := by omega
        simp [cutM, this]
      · have h3 : ¬ n - xs.length - wSum Sc.w (xs.take i) < xs[i].w := fun hh => by simp [(cutM_lt _ _).2 hh] at h3
        refine .to [] (i + 1) rfl ?_ ?_ (by omega) ⟨h, by omega⟩ <;> (try simp -implicitDefEqProofs only [go_sem, LeTs_undef, LeTs_same, LeTs_nil, hw1, cutM_ge h3, e1])
        refine LeTs_cons _ _ _ _ ?_ ?_
        · congr 2; omega
        · simp -implicitDefEqProofs only [go_sem, LeTs_undef, LeTs_same, LeTs_nil]
    · simp -implicitDefEqProofs only [go_sem]
      have h : i = xs.length := by simp at h; omega
      subst h
      rw [List.take_length] at hz ⊢
      have : ¬ n < wAll Sc.w xs := by omega
      simp only [cutM, this, if_false]
      congr 2
      omega
end Go.Proofs.Ythbhnjcnbnlidaa.Am
namespace Go.Proofs.Ythbhnjcnbnlidaa.Am
open Go
set_option maxRecDepth 100000
set_option linter.unusedSimpArgs false
set_option linter.unusedVariables false
theorem p_toScore : Plain Try.prog 45 := ⟨_, Try.func45, rfl, by decide⟩
theorem s_toScore (x : Sc) : Spec Try.prog 45 [x.av] (fun r => r = x.av) := by
  refine Spec.of tysOk mixed Try.func45 rfl (by decide) ?_
  simp -implicitDefEqProofs only [go_sem, Try.f45]
theorem p_toScoreS : Plain Try.prog 15 := ⟨_, Try.func15, rfl, by decide⟩
theorem s_toScoreS (xs : List Sc) (hx : xs.length ≤ 1048576) : Spec Try.prog 15 [.t (.list false 2 (xs.map Sc.row))] (fun r => r = .own (.list true 2 (xs.map Sc.row))) := by
  refine Spec.of tysOk mixed Try.func15 rfl (by decide) ?_
  simp -implicitDefEqProofs only [go_sem, Try.f15]
  refine ⟨⟨by omega, by unfold roomy; omega⟩, ?_⟩
  refine LoopW.slots (α := Nat) (fun i => [(4, I i)]) (fun i => [(56, .rows 2 (fillR Sc.row [T.str ⟨#[]⟩, T.int .i64 0] xs i))]) (fun i => xs.length - i) (fun i => i ≤ xs.length) 0 rfl (by simp -implicitDefEqProofs only [go_sem, fill_0]) (by omega) ?_
  intro i hi
  simp -implicitDefEqProofs only [go_sem]
  refine BrA_i (fun h => ?_) (fun h => ?_)
  · have h : i < xs.length := by simp at h; omega
    have hw1 : IntKind.i64.wrap ((i : Int) + 1) = ((i + 1 : Nat) : Int) := by rw [wrap64 (by omega) (by omega)]; omega
    simp -implicitDefEqProofs only [go_sem, row_getD _ _ h, Sc.row]
    refine ⟨⟨by omega, by omega⟩, ?_⟩
    refine .onep (s_toScore xs[i]) p_toScore (by simp -implicitDefEqProofs only [go_sem]) rfl ?_
    simp -implicitDefEqProofs only [go_sem, fill_len _ _ _ hi, fill_getD _ _ _ h]
    have e := fill_set Sc.row [T.str ⟨#[]⟩, T.int .i64 0] xs h
    simp only [Sc.row] at e
    refine ⟨⟨by omega, by omega⟩, h, .to [] (i + 1) rfl ?_ ?_ (by omega) h⟩ <;> simp -implicitDefEqProofs only [go_sem, LeTs_undef, LeTs_same, LeTs_nil, hw1, e]
  · simp -implicitDefEqProofs only [go_sem]
    have h : i = xs.length := by simp at h; omega
    subst h
    rw [fill_all]
    try exact ⟨by decide, rfl⟩
end Go.Proofs.Ythbhnjcnbnlidaa.Am
namespace Go.Proofs.Ythbhnjcnbnlidaa.Am
open Go
set_option maxRecDepth 100000
set_option linter.unusedSimpArgs false
set_option linter.unusedVariables false
def dig (n : Nat) : ByteArray := ⟨#[UInt8.ofNat (IntKind.u8.wrap (48 + (n : Int))).toNat]⟩
def mtL (n : Nat) (out : ByteArray) : ByteArray := if h : n = 0 then out else mtL (n / 10) (dig (n % 10) ++ out)
termination_by n
decreasing_by omega
theorem mtL_pos {n : Nat} (h : 0 < n) (out : ByteArray) : mtL n out = mtL (n / 10) (dig (n % 10) ++ out) := by rw [mtL, dif_neg (by omega)]
theorem mtL_0 (out : ByteArray) : mtL 0 out = out := by rw [mtL, dif_pos rfl]
def mt (k : Int) : ByteArray := if k ≤ 0 then "m0".toUTF8 else "m".toUTF8 ++ mtL k.toNat .empty
theorem p_markText : Plain Try.prog 48 := ⟨_, Try.func48, rfl, by decide⟩
theorem s_markText (k : Int) (hk : k < 1000000000000000000) : Spec Try.prog 48 [I k] (fun r => r = .t (.str (mt k))) := by
  refine Spec.of tysOk mixed Try.func48 rfl (by decide) ?_
  simp -implicitDefEqProofs only [go_sem, Try.f48]
  refine BrA_i (fun h => ?_) (fun h => ?_) <;> simp -implicitDefEqProofs only [go_sem]
  · have h : k ≤ 0 := by simpa using h
    simp only [mt, if_pos h]; rfl
  · have h : 0 < k := by simpa using h
    refine LoopW.slotsL (α := Nat × ByteArray × Nat) (fun p => [(0, I p.1), (3, .t (.str p.2.1))]) (fun _ => []) (fun p => p.1) (fun p => mtL p.1 p.2.1 = mtL k.toNat .empty ∧ p.1 < 10 ^ p.2.2 ∧ p.2.1.size + p.2.2 ≤ 100 ∧ p.1 ≤ k.toNat) (k.toNat, .empty, 18) ?_ rfl ?_ ?_
    · simp -implicitDefEqProofs only [go_sem, LeTs_undef, LeTs_same, LeTs_nil, Int.toNat_of_nonneg (show 0 ≤ k by omega)]
      simp [LeTs]; rfl
    · refine ⟨rfl, ?_, ?_, Nat.le_refl _⟩
      · show k.toNat < 10 ^ 18; omega
      · show (0 + 18 ≤ 100); omega
    rintro ⟨n, out, f⟩ ⟨h1, h2, h3, h4⟩
    simp -implicitDefEqProofs only [go_sem]
    refine BrA_i (fun h => ?_) (fun h => ?_) <;> simp -implicitDefEqProofs only [go_sem]
    · have h : 0 < n := by simp at h; omega
      simp only at h1 h2 h3 h4
      have e1 : IntKind.i64.wrap (48 + (n : Int).tmod 10) = 48 + ((n % 10 : Nat) : Int) := by
        have : (n : Int).tmod 10 = ((n % 10 : Nat) : Int) := rfl
        rw [this, wrap64 (by omega) (by omega)]
      have e2 : IntKind.i64.wrap ((n : Int).tdiv 10) = ((n / 10 : Nat) : Int) := by
        have h0 : (n : Int).tdiv 10 = ((n / 10 : Nat) : Int) := rfl
        rw [h0, wrap64 (by omega) (by omega)]
      have ed : (⟨#[UInt8.ofNat (IntKind.u8.wrap (48 + ((n % 10 : Nat) : Int))).toNat]⟩ : ByteArray) = dig (n % 10) := rfl
      rw [e1, e2, ed]
      have hf : f ≠ 0 := fun e => by subst e; simp at h2; omega
      obtain ⟨f, rfl⟩ : ∃ g, f = g + 1 := ⟨f - 1, by omega⟩
      have hsz : (dig (n % 10) ++ out).size = out.size + 1 := by
        rw [ByteArray.size_append]; show 1 + out.size = _; omega
      refine ⟨by unfold strMax; omega, .to [96] (n / 10, dig (n % 10) ++ out, f) rfl ?_ rfl ?_ ⟨?_, ?_, ?_, ?_⟩⟩
      · simp -implicitDefEqProofs only [go_sem, LeTs_undef, LeTs_same, LeTs_nil]
      · show n / 10 < n; omega
      · show mtL (n / 10) (dig (n % 10) ++ out) = _
        rw [← h1, mtL_pos h]
      · show n / 10 < 10 ^ f
        rw [Nat.pow_succ] at h2; omega
      · show (dig (n % 10) ++ out).size + f ≤ 100; omega
      · show n / 10 ≤ k.toNat; omega
    · have h : n = 0 := by simp at h; omega
      subst h
      simp only at h1 h2 h3 h4
      rw [mtL_0] at h1
      refine ⟨by unfold strMax; omega, ?_⟩
      have hk0 : ¬ k ≤ 0 := by omega
      simp only [mt, if_neg hk0, ← h1]
      rfl
end Go.Proofs.Ythbhnjcnbnlidaa.Am
namespace Go.Proofs.Ythbhnjcnbnlidaa.Am
open Go
set_option maxRecDepth 100000
set_option linter.unusedSimpArgs false
set_option linter.unusedVariables false
def Pr.mw (x : Pr) : Nat := 2
def Pr.m (x : Pr) (k : Int) : Pr := ⟨mt (k), mt (k + 1)⟩
def It.mw (x : It) : Nat := 2 + wSum Pr.mw x.fields
def It.m (x : It) (k : Int) : It := ⟨⟨k, k + 1⟩, mkAll Pr.m Pr.mw x.fields (k + 2)⟩
def Wt.mw (x : Wt) : Nat := 5
def Wt.m (x : Wt) (k : Int) : Wt := ⟨⟨k, k + 1⟩, mt (k + 2), k + 3, k + 4⟩
def Gr.mw (x : Gr) : Nat := 3 + wSum Wt.mw x.waits
def Gr.m (x : Gr) (k : Int) : Gr := ⟨mt (k), ⟨k + 1, k + 2⟩, mkAll Wt.m Wt.mw x.waits (k + 3)⟩
end Go.Proofs.Ythbhnjcnbnlidaa.Am
namespace Go.Proofs.Ythbhnjcnbnlidaa.Am
open Go
set_option maxRecDepth 100000
set_option linter.unusedSimpArgs false
set_option linter.unusedVariables false
def Tx.mw (x : Tx) : Nat := 1
def Tx.m (x : Tx) (k : Int) : Tx := mt (k)
def Or.mw (x : Or) : Nat := wSum Tx.mw x
def Or.m (x : Or) (k : Int) : Or := mkAll Tx.m Tx.mw x (k)
def Sc.mw (x : Sc) : Nat := 2
def Sc.m (x : Sc) (k : Int) : Sc := ⟨mt (k), k + 1⟩
theorem p_markScoreS : Plain Try.prog 18 := ⟨_, Try.func18, rfl, by decide⟩
theorem s_markScoreS (xs : List Sc) (k : Int) (hk : 0 ≤ k) (hb : k + (wSum Sc.mw xs : Nat) < 10000000000000000) (hx : xs.length < 10000000000000000) : SpecO Try.prog 18 [.refw 9000, I k] [(9000, .rows 2 (xs.map Sc.row))]
    (fun r h => r = I (k + (wSum Sc.mw xs : Nat)) ∧ h = [(9000, .rows 2 ((mkAll Sc.m Sc.mw xs k).map Sc.row))]) := by
  refine SpecO.of tysOk mixed Try.func18 rfl (by decide) ?_
  have hl : ((mkAll Sc.m Sc.mw xs k).map Sc.row).length = (xs.map Sc.row).length := by rw [List.length_map, List.length_map, mkAll_len]
  simp -implicitDefEqProofs only [go_sem, Try.f18]
  refine LoopW.slotsL (α := Nat) (fun i => [(5, I i), (1, I (k + (wSum Sc.mw (xs.take i) : Nat)))]) (fun i => [(9000, .rows 2 (mixR ((mkAll Sc.m Sc.mw xs k).map Sc.row) (xs.map Sc.row) i))]) (fun i => xs.length - i) (fun i => i ≤ xs.length) 0 ?_ ?_ (by omega) ?_
  · simp -implicitDefEqProofs only [go_sem, LeTs_undef, LeTs_same, LeTs_nil]
    simp [LeTs, wSum]
  · simp -implicitDefEqProofs only [go_sem, mix_0]
  intro i hi
  have hw := wSum_le Sc.mw xs i
  have hml : (mixR ((mkAll Sc.m Sc.mw xs k).map Sc.row) (xs.map Sc.row) i).length = xs.length := by rw [mix_len hl (by simpa using hi), List.length_map]
  simp -implicitDefEqProofs only [go_sem, hml]
  refine BrA_i (fun h => ?_) (fun h => ?_) <;> simp -implicitDefEqProofs only [go_sem]
  · have h : i < xs.length := by simp at h; omega
    have hw1 := wSum_take Sc.mw xs h
    have hw2 := wSum_le Sc.mw xs (i + 1)
    obtain ⟨K, hK⟩ : ∃ K : Int, K = k + (wSum Sc.mw (xs.take i) : Nat) := ⟨_, rfl⟩
    have hK1 : k + (wSum Sc.mw (xs.take (i + 1)) : Nat) = K + (Sc.mw xs[i] : Nat) := by rw [hw1, hK]; omega
    rw [← hK]
    have hmw : Sc.mw xs[i] = 2 := rfl
    have h0i : (0 : Int) ≤ i := by omega
    have h1i : (i : Int) < xs.length := by omega
    have hg : (mixR ((mkAll Sc.m Sc.mw xs k).map Sc.row) (xs.map Sc.row) i).getD i [] = [.str xs[i].text, .int .i64 xs[i].num] := by rw [mix_getD hl (by simpa using h), row_getD _ _ h]; rfl
    have hn : ((mkAll Sc.m Sc.mw xs k).map Sc.row).getD i [] = [.str (mt (K)), .int .i64 (K + 1)] := by rw [mkAll_getD _ _ _ _ _ h, ← hK]; rfl
    have hst := mix_set hl (i := i) (by simpa using h)
    rw [hn] at hst
    have hsg : ∀ r, ((mixR ((mkAll Sc.m Sc.mw xs k).map Sc.row) (xs.map Sc.row) i).set i r).getD i [] = r := fun r => set_getD (by omega) r
    have wi : IntKind.i64.wrap ((i : Int) + 1) = ((i + 1 : Nat) : Int) := by rw [wrap64 (by omega) (by omega)]; omega
    have w0 : IntKind.i64.wrap (K + 1) = K + 1 := by rw [wrap64 (by omega) (by omega)]
    have w1 : IntKind.i64.wrap (K + 1 + 1) = K + 2 := by rw [wrap64 (by omega) (by omega)]; omega
    simp -implicitDefEqProofs only [go_sem, hml, h0i, h1i, h, hg, hsg, wi, w0, w1]
    refine .one (s_markText _ (by omega)) p_markText rfl trivial ?_
    simp -implicitDefEqProofs only [go_sem, hml, h0i, h1i, h, hg, hsg, wi, w0, w1]
    refine .to [] (i + 1) rfl ?_ ?_ (by omega) (by omega)
    · simp -implicitDefEqProofs only [go_sem, LeTs_undef, LeTs_same, LeTs_nil, hK1, hmw]
      try simp [LeTs]
      try omega
    · try simp -implicitDefEqProofs only [go_sem, hst]
  · have h : i = xs.length := by simp at h; omega
    subst h
    have hm : mixR ((mkAll Sc.m Sc.mw xs k).map Sc.row) (xs.map Sc.row) xs.length = ((mkAll Sc.m Sc.mw xs k).map Sc.row) := by
      have := mix_all hl; rwa [List.length_map] at this
    simp -implicitDefEqProofs only [go_sem, hm, List.take_length, mkAll_len]
theorem p_heldScoreS : Plain Try.prog 19 := ⟨_, Try.func19, rfl, by decide⟩
theorem s_heldScoreS (xs : List Sc) (k : Int) (hk : 0 ≤ k) (hb : k + (wSum Sc.mw xs : Nat) < 10000000000000000) (hx : xs.length < 10000000000000000) : Spec Try.prog 19 [.t (.list false 2 ((mkAll Sc.m Sc.mw xs k).map Sc.row)), I k]
    (fun r => r = I (k + (wSum Sc.mw xs : Nat))) := by
  refine Spec.of tysOk mixed Try.func19 rfl (by decide) ?_
  simp -implicitDefEqProofs only [go_sem, Try.f19, mkAll_len]
  refine LoopW.slotsL (α := Nat) (fun i => [(5, I i), (1, I (k + (wSum Sc.mw (xs.take i) : Nat)))]) (fun i => []) (fun i => xs.length - i) (fun i => i ≤ xs.length) 0 ?_ rfl (by omega) ?_
  · simp -implicitDefEqProofs only [go_sem, LeTs_undef, LeTs_same, LeTs_nil]
    simp [LeTs, wSum]
  intro i hi
  have hw := wSum_le Sc.mw xs i
  simp -implicitDefEqProofs only [go_sem, mkAll_len]
  refine BrA_i (fun h => ?_) (fun h => ?_) <;> simp -implicitDefEqProofs only [go_sem]
  · have h : i < xs.length := by simp at h; omega
    have hw1 := wSum_take Sc.mw xs h
    have hw2 := wSum_le Sc.mw xs (i + 1)
    obtain ⟨K, hK⟩ : ∃ K : Int, K = k + (wSum Sc.mw (xs.take i) : Nat) := ⟨_, rfl⟩
    have hK1 : k + (wSum Sc.mw (xs.take (i + 1)) : Nat) = K + (Sc.mw xs[i] : Nat) := by rw [hw1, hK]; omega
    rw [← hK]
    have hmw : Sc.mw xs[i] = 2 := rfl
    have h0i : (0 : Int) ≤ i := by omega
    have h1i : (i : Int) < xs.length := by omega
    have hn : ((mkAll Sc.m Sc.mw xs k).map Sc.row).getD i [] = [.str (mt (K)), .int .i64 (K + 1)] := by rw [mkAll_getD _ _ _ _ _ h, ← hK]; rfl
    have wi : IntKind.i64.wrap ((i : Int) + 1) = ((i + 1 : Nat) : Int) := by rw [wrap64 (by omega) (by omega)]; omega
    have w0 : IntKind.i64.wrap (K + 1) = K + 1 := by rw [wrap64 (by omega) (by omega)]
    have w1 : IntKind.i64.wrap (K + 1 + 1) = K + 2 := by rw [wrap64 (by omega) (by omega)]; omega
    simp -implicitDefEqProofs only [go_sem, mkAll_len, h0i, h1i, h, hn, wi, eq_self, decide_true, beq_self_eq_true, Bool.not_true, w0, w1]
    (first | refine RegD_of sch_19_4 tysOk (by decide +kernel) ?_)
    simp -implicitDefEqProofs only [go_sem, mkAll_len, h0i, h1i, h, hn, wi, eq_self, decide_true, beq_self_eq_true, Bool.not_true, w0, w1]
    refine .one (s_markText _ (by omega)) p_markText rfl trivial ?_
    simp -implicitDefEqProofs only [go_sem, mkAll_len, h0i, h1i, h, hn, wi, eq_self, decide_true, beq_self_eq_true, Bool.not_true, w0, w1]
    refine .to [] (i + 1) rfl ?_ rfl (by omega) (by omega)
    · simp -implicitDefEqProofs only [go_sem, LeTs_undef, LeTs_same, LeTs_nil, hK1, hmw]
      try simp [LeTs]
      try omega
  · have h : i = xs.length := by simp at h; omega
    subst h
    simp -implicitDefEqProofs only [go_sem, List.take_length, mkAll_len]
def En.mw (x : En) : Nat := 4 + wSum Tx.mw x.list + wSum Sc.mw x.scores + wSum Pr.mw x.fields
def En.m (x : En) (k : Int) : En := ⟨mt (k), k + 1, k + 2, mt (k + 3), mkAll Tx.m Tx.mw x.list (k + 4), mkAll Sc.m Sc.mw x.scores (k + 4 + (wSum Tx.mw x.list : Nat)), mkAll Pr.m Pr.mw x.fields (k + 4 + (wSum Tx.mw x.list : Nat) + (wSum Sc.mw x.scores : Nat))⟩
def Cl.mw (x : Cl) : Nat := 3 + wSum Or.mw x.queue + wSum Tx.mw x.watch + wSum Tx.mw x.hears
def Cl.m (x : Cl) (k : Int) : Cl := ⟨decide ((k).tmod 3 = 0), decide ((k + 1).tmod 3 = 0), mkAll Or.m Or.mw x.queue (k + 2), mkAll Tx.m Tx.mw x.watch (k + 2 + (wSum Or.mw x.queue : Nat)), decide ((k + 2 + (wSum Or.mw x.queue : Nat) + (wSum Tx.mw x.watch : Nat)).tmod 3 = 0), mkAll Tx.m Tx.mw x.hears (k + 3 + (wSum Or.mw x.queue : Nat) + (wSum Tx.mw x.watch : Nat))⟩
def Bs.mw (x : Bs) : Nat := wSum En.mw x.ents
def Bs.m (x : Bs) (k : Int) : Bs := ⟨x.now, mkAll En.m En.mw x.ents (k)⟩
def Sv.mw (x : Sv) : Nat := Bs.mw x.base + wSum Cl.mw x.cls
def Sv.m (x : Sv) (k : Int) : Sv := ⟨Bs.m x.base (k), x.file, mkAll Cl.m Cl.mw x.cls (k + (Bs.mw x.base : Nat))⟩
def Ld.mw (x : Ld) : Nat := Sv.mw x.srv
def Ld.m (x : Ld) (k : Int) : Ld := ⟨Sv.m x.srv (k), x.hist⟩
def Fo.mw (x : Fo) : Nat := Bs.mw x.base
def Fo.m (x : Fo) (k : Int) : Fo := ⟨x.hist, x.text, Bs.m x.base (k)⟩
end Go.Proofs.Ythbhnjcnbnlidaa.Am
namespace Go.Proofs.Ythbhnjcnbnlidaa.Am
open Go
set_option maxRecDepth 100000
set_option maxHeartbeats 1000000
set_option linter.unusedSimpArgs false
set_option linter.unusedVariables false
theorem deep_rows' {α : Type} (row : α → List T) (h : ∀ x, ∀ t ∈ row x, Deep t) (n : Nat) (l : List α) : Deep (.list true n (l.map row)) :=
  .list _ _ fun r hr x hx => by
    obtain ⟨y, _, rfl⟩ := List.mem_map.1 hr
    exact h y x hx
theorem deep_scs (l : List Sc) : Deep (.list true 2 (l.map Sc.row)) := deep_rows' _ (fun x t ht => by simp only [Sc.row, List.mem_cons, List.not_mem_nil, or_false] at ht; rcases ht with rfl | rfl <;> exact .sc _ trivial) _ _
theorem Sc.mw_all (l : List Sc) : wSum Sc.mw l = 2 * l.length := wSum_const 2 l
theorem bothM_len (a b : List Sc) : (bothM a b).length ≤ 32 := by
  unfold bothM
  split
  · rename_i h
    have h1 := foldl_len (bothS_len b) a []
    have := scoresOkM_len h.1
    simp at h1; omega
  · simp
theorem s_FnExactScoresBoth (a b : List Sc) (ga : lG Sc.G a) (gb : lG Sc.G b) : Spec Try.prog 4 [.t (.list false 2 (a.map Sc.row)), .t (.list false 2 (b.map Sc.row))] (fun r => r = Bo true) := by
  refine Spec.of tysOk mixed Try.func4 rfl (by decide) ?_
  simp -implicitDefEqProofs only [go_sem, Try.f4]
  refine CallW.one (s_szScoreS a 1048576 (by omega) (by omega) ga) p_szScoreS (by first | (simp -implicitDefEqProofs only [go_sem]; done) | ((conv => lhs; simp -implicitDefEqProofs only [go_sem]); done) | (simp -implicitDefEqProofs only [go_sem]; rfl) | rfl) (by first | trivial | (simp [DeepR, DeepV, DeepVs, DeepC, DeepCs, T.scal]; done)) ?_
  simp -implicitDefEqProofs only [go_sem]
  refine BrA_i (fun h1 => ?_) (fun h1 => ?_) <;> simp -implicitDefEqProofs only [go_sem]
  have h1 : ¬ (1048576 : Int) < wAll Sc.w a := fun hh => by simp [(cutM_lt _ _).2 hh] at h1
  have hw1 : a.length ≤ wAll Sc.w a := Nat.le_add_right _ _
  have hw2 : b.length ≤ wAll Sc.w b := Nat.le_add_right _ _
  rw [cutM_ge h1]
  refine CallW.one (s_szScoreS b (1048576 - (wAll Sc.w a : Nat)) (by omega) (by omega) gb) p_szScoreS (by first | (simp -implicitDefEqProofs only [go_sem]; done) | ((conv => lhs; simp -implicitDefEqProofs only [go_sem]); done) | (simp -implicitDefEqProofs only [go_sem]; rfl) | rfl) (by first | trivial | (simp [DeepR, DeepV, DeepVs, DeepC, DeepCs, T.scal]; done)) ?_
  simp -implicitDefEqProofs only [go_sem]
  refine BrA_i (fun h2 => ?_) (fun h2 => ?_) <;> simp -implicitDefEqProofs only [go_sem]
  have h2 : ¬ (1048576 - (wAll Sc.w a : Nat) : Int) < wAll Sc.w b := fun hh => by simp [(cutM_lt _ _).2 hh] at h2
  have la : a.length ≤ 1048576 := by omega
  have lb : b.length ≤ 1048576 := by omega
  have ma := Sc.mw_all a
  have mb := Sc.mw_all b
  have mo := Sc.mw_all (bothM a b)
  have lo := bothM_len a b
  obtain ⟨o, ho⟩ : ∃ o, o = bothM a b := ⟨_, rfl⟩
  have n1 : ¬ (1 + (wSum Sc.mw a : Nat) + (wSum Sc.mw b : Nat) : Int) < 0 := by omega
  have n2 : ¬ (1 + (wSum Sc.mw (bothM a b) : Nat) : Int) < 0 := by omega
  refine CallW.onep (s_toScoreS a la) p_toScoreS (by first | (simp -implicitDefEqProofs only [go_sem]; done) | ((conv => lhs; simp -implicitDefEqProofs only [go_sem]); done) | (simp -implicitDefEqProofs only [go_sem]; rfl) | rfl) rfl ?_
  simp -implicitDefEqProofs only [go_sem]
  refine CallW.onep (s_toScoreS b lb) p_toScoreS (by first | (simp -implicitDefEqProofs only [go_sem]; done) | ((conv => lhs; simp -implicitDefEqProofs only [go_sem]); done) | (simp -implicitDefEqProofs only [go_sem]; rfl) | rfl) rfl ?_
  simp -implicitDefEqProofs only [go_sem]
  refine CallW.fz [201, 217] (by conv => lhs; simp -implicitDefEqProofs only [go_sem]) ?_
  refine CallW.ps (s_sScoresBoth a b (by omega) (by omega)) p_sScoresBoth (by first | (simp -implicitDefEqProofs only [go_sem]; done) | ((conv => lhs; simp -implicitDefEqProofs only [go_sem]); done) | (simp -implicitDefEqProofs only [go_sem]; rfl) | rfl) rfl ?_
  intro r hr
  rw [hr]
  clear hr r
  simp -implicitDefEqProofs only [go_sem]
  refine CallW.onep (s_toScoreS a la) p_toScoreS (by first | (simp -implicitDefEqProofs only [go_sem]; done) | ((conv => lhs; simp -implicitDefEqProofs only [go_sem]); done) | (simp -implicitDefEqProofs only [go_sem]; rfl) | rfl) rfl ?_
  simp -implicitDefEqProofs only [go_sem]
  refine CallW.onep (s_toScoreS b lb) p_toScoreS (by first | (simp -implicitDefEqProofs only [go_sem]; done) | ((conv => lhs; simp -implicitDefEqProofs only [go_sem]); done) | (simp -implicitDefEqProofs only [go_sem]; rfl) | rfl) rfl ?_
  simp -implicitDefEqProofs only [go_sem]
  refine CallW.one (s_ScoresBoth a b (by omega) (by omega)) p_ScoresBoth (by first | (simp -implicitDefEqProofs only [go_sem]; done) | ((conv => lhs; simp -implicitDefEqProofs only [go_sem]); done) | (simp -implicitDefEqProofs only [go_sem]; rfl) | rfl) (deep_scs _) ?_
  simp -implicitDefEqProofs only [go_sem]
  refine CallW.one (s_eqScoreS (bothM a b) (bothM a b) (by omega)) p_eqScoreS (by first | (simp -implicitDefEqProofs only [go_sem]; done) | ((conv => lhs; simp -implicitDefEqProofs only [go_sem]); done) | (simp -implicitDefEqProofs only [go_sem]; rfl) | rfl) (by first | trivial | (simp [DeepR, DeepV, DeepVs, DeepC, DeepCs, T.scal]; done)) ?_
  simp -implicitDefEqProofs only [go_sem, eq_self, decide_true, beq_self_eq_true, decide_false]
  refine CallW.onep (s_toScoreS a la) p_toScoreS (by first | (simp -implicitDefEqProofs only [go_sem]; done) | ((conv => lhs; simp -implicitDefEqProofs only [go_sem]); done) | (simp -implicitDefEqProofs only [go_sem]; rfl) | rfl) rfl ?_
  simp -implicitDefEqProofs only [go_sem]
  refine CallW.one (s_eqScoreS a a (by omega)) p_eqScoreS (by first | (simp -implicitDefEqProofs only [go_sem]; done) | ((conv => lhs; simp -implicitDefEqProofs only [go_sem]); done) | (simp -implicitDefEqProofs only [go_sem]; rfl) | rfl) (by first | trivial | (simp [DeepR, DeepV, DeepVs, DeepC, DeepCs, T.scal]; done)) ?_
  simp -implicitDefEqProofs only [go_sem, eq_self, decide_true, beq_self_eq_true, decide_false]
  refine CallW.onep (s_toScoreS b lb) p_toScoreS (by first | (simp -implicitDefEqProofs only [go_sem]; done) | ((conv => lhs; simp -implicitDefEqProofs only [go_sem]); done) | (simp -implicitDefEqProofs only [go_sem]; rfl) | rfl) rfl ?_
  simp -implicitDefEqProofs only [go_sem]
  refine CallW.one (s_eqScoreS b b (by omega)) p_eqScoreS (by first | (simp -implicitDefEqProofs only [go_sem]; done) | ((conv => lhs; simp -implicitDefEqProofs only [go_sem]); done) | (simp -implicitDefEqProofs only [go_sem]; rfl) | rfl) (by first | trivial | (simp [DeepR, DeepV, DeepVs, DeepC, DeepCs, T.scal]; done)) ?_
  simp -implicitDefEqProofs only [go_sem, eq_self, decide_true, beq_self_eq_true, decide_false]
  refine CallW.o [(9000, 241)] (s_markScoreS a 1 (by omega) (by omega) (by omega)) p_markScoreS o18 rfl (by conv => lhs; simp -implicitDefEqProofs only [go_sem]) (by simp -implicitDefEqProofs only [go_sem]) ?_
  rintro _ _ ⟨rfl, rfl⟩
  simp -implicitDefEqProofs only [go_sem]
  refine CallW.o [(9000, 257)] (s_markScoreS b (1 + (wSum Sc.mw a : Nat)) (by omega) (by omega) (by omega)) p_markScoreS o18 rfl (by conv => lhs; simp -implicitDefEqProofs only [go_sem]) (by simp -implicitDefEqProofs only [go_sem]) ?_
  rintro _ _ ⟨rfl, rfl⟩
  simp -implicitDefEqProofs only [go_sem, eq_self, decide_true, beq_self_eq_true, decide_false, n1]
  refine CallW.one (s_eqScoreS (bothM a b) (bothM a b) (by omega)) p_eqScoreS (by first | (simp -implicitDefEqProofs only [go_sem]; done) | ((conv => lhs; simp -implicitDefEqProofs only [go_sem]); done) | (simp -implicitDefEqProofs only [go_sem]; rfl) | rfl) (by first | trivial | (simp [DeepR, DeepV, DeepVs, DeepC, DeepCs, T.scal]; done)) ?_
  simp -implicitDefEqProofs only [go_sem, eq_self, decide_true, beq_self_eq_true, decide_false]
  refine CallW.o [(9000, 281)] (s_markScoreS (bothM a b) 1 (by omega) (by omega) (by omega)) p_markScoreS o18 rfl (by conv => lhs; simp -implicitDefEqProofs only [go_sem]) (by simp -implicitDefEqProofs only [go_sem]) ?_
  rintro _ _ ⟨rfl, rfl⟩
  simp -implicitDefEqProofs only [go_sem, eq_self, decide_true, beq_self_eq_true, decide_false]
  refine CallW.one (s_heldScoreS (bothM a b) 1 (by omega) (by omega) (by omega)) p_heldScoreS (by first | (simp -implicitDefEqProofs only [go_sem]; done) | ((conv => lhs; simp -implicitDefEqProofs only [go_sem]); done) | (simp -implicitDefEqProofs only [go_sem]; rfl) | rfl) (by first | trivial | (simp [DeepR, DeepV, DeepVs, DeepC, DeepCs, T.scal]; done)) ?_
  simp -implicitDefEqProofs only [go_sem, eq_self, decide_true, beq_self_eq_true, decide_false, n2]
  refine CallW.onep (s_toScoreS a la) p_toScoreS (by first | (simp -implicitDefEqProofs only [go_sem]; done) | ((conv => lhs; simp -implicitDefEqProofs only [go_sem]); done) | (simp -implicitDefEqProofs only [go_sem]; rfl) | rfl) rfl ?_
  simp -implicitDefEqProofs only [go_sem]
  refine CallW.onep (s_toScoreS b lb) p_toScoreS (by first | (simp -implicitDefEqProofs only [go_sem]; done) | ((conv => lhs; simp -implicitDefEqProofs only [go_sem]); done) | (simp -implicitDefEqProofs only [go_sem]; rfl) | rfl) rfl ?_
  simp -implicitDefEqProofs only [go_sem]
  refine CallW.one (s_ScoresBoth a b (by omega) (by omega)) p_ScoresBoth (by first | (simp -implicitDefEqProofs only [go_sem]; done) | ((conv => lhs; simp -implicitDefEqProofs only [go_sem]); done) | (simp -implicitDefEqProofs only [go_sem]; rfl) | rfl) (deep_scs _) ?_
  simp -implicitDefEqProofs only [go_sem]
  refine CallW.one (s_eqScoreS (bothM a b) (bothM a b) (by omega)) p_eqScoreS (by first | (simp -implicitDefEqProofs only [go_sem]; done) | ((conv => lhs; simp -implicitDefEqProofs only [go_sem]); done) | (simp -implicitDefEqProofs only [go_sem]; rfl) | rfl) (by first | trivial | (simp [DeepR, DeepV, DeepVs, DeepC, DeepCs, T.scal]; done)) ?_
  simp -implicitDefEqProofs only [go_sem, eq_self, decide_true, beq_self_eq_true, decide_false]
  refine CallW.one (s_heldScoreS (bothM a b) 1 (by omega) (by omega) (by omega)) p_heldScoreS (by first | (simp -implicitDefEqProofs only [go_sem]; done) | ((conv => lhs; simp -implicitDefEqProofs only [go_sem]); done) | (simp -implicitDefEqProofs only [go_sem]; rfl) | rfl) (by first | trivial | (simp [DeepR, DeepV, DeepVs, DeepC, DeepCs, T.scal]; done)) ?_
  simp -implicitDefEqProofs only [go_sem, eq_self, decide_true, beq_self_eq_true, decide_false, n2]
end Go.Proofs.Ythbhnjcnbnlidaa.Am
namespace Go.Proofs.Ythbhnjcnbnlidaa.Am
open Go Go.ChangeShapes Go.WideShapes Go.RowKit
def RdRow (w : World) (ts : List T) (cs : List Value) : Prop := ts.length = cs.length ∧ ∀ (j : Nat) (t : T) (v : Value), ts[j]? = some t → cs[j]? = some v → Rd w (fun b => b < w.heap.size) t v
structure Opn (P : Program) (t : TypeId) (sz : Nat) {α : Type} (row : α → List T) (G : α → Prop) : Prop where
  len : ∀ x, (row x).length = sz
  op : ∀ {H : Type} {enc : TypeId × Value → H} {W : World} {fuel : Nat} {cs : List Value} {D : DataW H} {ps : List MemPlace},
    DataW.trod enc P W 0 (fun _ => true) true fuel t cs = some (D, ps) → (∀ n ∈ DataW.weights P t D, n ≤ reachBytes) → ∃ x, RdRow W (row x) cs ∧ G x
theorem RdRow.one {w : World} {t : T} {v : Value} (h : Rd w (fun b => b < w.heap.size) t v) : RdRow w [t] [v] :=
  ⟨rfl, fun j t' v' h1 h2 => by
    cases j with
    | zero => simp at h1 h2; subst h1 h2; exact h
    | succ j => simp at h1⟩
theorem RdRow.append {w : World} {a b : List T} {c d : List Value} (h : RdRow w a c) (h' : RdRow w b d) : RdRow w (a ++ b) (c ++ d) :=
  ⟨by simp [h.1, h'.1], fun j t v h1 h2 => by
    rw [List.getElem?_append] at h1 h2
    have := h.1
    split at h1
    · rename_i hj
      rw [if_pos (by omega)] at h2
      exact h.2 j t v h1 h2
    · rename_i hj
      rw [if_neg (by omega)] at h2
      rw [this] at h1
      exact h'.2 _ t v h1 h2⟩
section
variable {P : Program} {t : TypeId}
theorem Opn.int {k : IntKind} (hu : P.underlying t = some (.int k)) : Opn P t 1 (fun x : Int => [T.int k x]) (fun x => (Lit.int k x).wf = true) where
  len := fun _ => rfl
  op := fun h _ => by
    obtain ⟨m, rfl, _, hw⟩ := DataW.trod_int hu h
    exact ⟨m, .one (.int _ _), hw⟩
theorem Opn.bool (hu : P.underlying t = some .bool) : Opn P t 1 (fun x : Bool => [T.bool x]) (fun _ => True) where
  len := fun _ => rfl
  op := fun h _ => by
    obtain ⟨m, rfl, _⟩ := DataW.trod_bool hu h
    exact ⟨m, .one (.bool _), trivial⟩
theorem Opn.string (hu : P.underlying t = some .string) : Opn P t 1 (fun x : ByteArray => [T.str x]) (fun x => x.size ≤ 140737488351232) where
  len := fun _ => rfl
  op := fun h hz => by
    obtain ⟨m, rfl, e, _⟩ := DataW.trod_string hu h
    obtain ⟨rfl, _⟩ := Prod.mk.inj e
    refine ⟨m, .one (.str _), ?_⟩
    have := hz m.data.toList.length (by simp [DataW.weights])
    simpa [reachBytes] using this
theorem Opn.slice {e : TypeId} {sz : Nat} {α : Type} {row : α → List T} {G : α → Prop} (he : Opn P e sz row G) (hu : P.underlying t = some (.slice e)) (hc : P.cellsOf e = sz) (hs : 0 < sz) {B : Nat} (hB : P.bytesOf e = B) :
    Opn P t 1 (fun xs : List α => [T.list false sz (xs.map row)]) (fun xs => xs.length * B ≤ 140737488351232 ∧ ∀ x ∈ xs, G x) where
  len := fun _ => rfl
  op := fun {H enc W fuel cs D ps} h hz => by
    rcases DataW.trod_slice hu h with ⟨rfl, _⟩ | ⟨a, len, cap, elems, rest, n, _, rfl, hx, hb, hl, hm, hlen, hel, hsp, _⟩
    · exact ⟨[], .one (.nil ..), by simp, by simp⟩
    · obtain ⟨rfl, _⟩ := Prod.mk.inj hx
      have hw0 := hz ((elems.map (·.1)).length + (rest.map (·.1)).length |>.mul (P.bytesOf e)) (by simp [DataW.weights, hu])
      have each : ∀ i, i < len → ∃ x c, RdRow W (row x) c ∧ G x ∧ c.length = sz ∧ ∀ j u, c[j]? = some u → W.cell? (a.add (i * sz + j)) = some u := by
        intro i hi
        have h1 := hel i hi
        have hil : i < elems.length := by omega
        rw [List.getElem?_eq_getElem hil] at h1
        rw [Option.bind_eq_some_iff] at h1
        obtain ⟨c, hcs, hy⟩ := h1
        have hD : ∀ m ∈ DataW.weights P e (elems[i]).1, m ≤ reachBytes := by
          intro m hmem
          refine hz m ?_
          simp only [DataW.weights, hu]
          refine List.mem_cons_of_mem _ (List.mem_append_left _ ?_)
          have : ∀ (l : List (DataW H)) (y : DataW H), y ∈ l → m ∈ DataW.weights P e y → m ∈ DataW.weightsAll P e l := by
            intro l
            induction l with
            | nil => intro y hy; cases hy
            | cons z l ih =>
              intro y hy hm2
              simp only [DataW.weightsAll, List.mem_append]
              rcases List.mem_cons.1 hy with rfl | hy
              · exact Or.inl hm2
              · exact Or.inr (ih y hy hm2)
          exact this _ _ (List.mem_map.2 ⟨elems[i], List.getElem_mem hil, rfl⟩) hmem
        obtain ⟨x, hK, hG⟩ := he.op (show DataW.trod enc P W 0 (fun _ => true) true n e c = some ((elems[i]).1, (elems[i]).2) from hy) hD
        obtain ⟨hb1, hb2, hb3⟩ := World.cells?_some hcs
        have hlen2 : c.length = sz := by rw [← hK.1, he.len]
        refine ⟨x, c, hK, hG, hlen2, fun j u hu2 => ?_⟩
        have hj := (List.getElem?_eq_some_iff.1 hu2).1
        have h3 := hb3 j (by rw [hc]; omega)
        rw [hu2] at h3
        rw [← h3, hc, Addr.add_add]
      have pick : ∀ l, l ≤ len → ∃ xs : List α, xs.length = l ∧ (∀ x ∈ xs, G x) ∧ ∀ j p, xs[j]? = some p → ∃ c, c.length = sz ∧ RdRow W (row p) c ∧ ∀ i u, c[i]? = some u → W.cell? (a.add (j * sz + i)) = some u := by
        intro l
        induction l with
        | zero => exact fun _ => ⟨[], rfl, by simp, fun j p h => by simp at h⟩
        | succ l ih =>
          intro hll
          obtain ⟨xs, h1, h2, h3⟩ := ih (by omega)
          obtain ⟨x, c, q1, q2, q3, q4⟩ := each l (by omega)
          refine ⟨xs ++ [x], by simp [h1], ?_, ?_⟩
          · intro y hy
            rcases List.mem_append.1 hy with hy | hy
            · exact h2 y hy
            · obtain rfl := List.mem_singleton.1 hy
              exact q2
          · intro j p hj
            by_cases hjl : j < xs.length
            · exact h3 j p (by rwa [List.getElem?_append_left hjl] at hj)
            · rw [List.getElem?_append_right (by omega)] at hj
              have : j - xs.length = 0 := by
                have := (List.getElem?_eq_some_iff.1 hj).1
                simpa using this
              rw [this] at hj
              have hjl2 : j = l := by omega
              subst hjl2
              obtain rfl : x = p := by simpa using hj
              exact ⟨c, q3, q1, q4⟩
      obtain ⟨xs, h1, h2, h3⟩ := pick len (Nat.le_refl _)
      subst h1
      refine ⟨xs, .one ?_, ?_, h2⟩
      · obtain ⟨ab, ao, asp⟩ := a
        have at0 : ∀ (j : Nat) (p : α), xs[j]? = some p → ∀ i, i < sz → ∃ u, W.cell? ⟨ab, ao + (j * sz + i), none⟩ = some u ∧ ∀ x, (row p)[i]? = some x → Rd W (fun b => b < W.heap.size) x u := by
          intro j p hj i hi
          obtain ⟨c, c1, c2, c3⟩ := h3 j p hj
          obtain ⟨u, hu2⟩ : ∃ u, c[i]? = some u := ⟨c[i]'(by omega), List.getElem?_eq_getElem _⟩
          have h4 := c3 i u hu2
          refine ⟨u, ?_, fun x hx => c2.2 i x u hx hu2⟩
          by_cases h0 : j * sz + i = 0
          · rw [h0] at h4 ⊢
            have : asp = none := by
              unfold World.cell? at h4
              simp only [Addr.add] at h4
              cases asp with
              | none => rfl
              | some q => simp at h4; split at h4 <;> simp at h4
            subst this
            exact h4
          · unfold Addr.add at h4
            rw [if_neg h0] at h4
            exact h4
        cases xs with
        | nil => exact .nil ..
        | cons x0 xs0 =>
          obtain ⟨u0, hu0, _⟩ := at0 0 x0 rfl 0 hs
          have hab : ab < W.heap.size := by
            unfold World.cell? at hu0
            simp only at hu0
            split at hu0
            · rename_i hh
              exact (Array.getElem?_eq_some_iff.1 hh).1
            · cases hu0
          have e1 : asp = none := by
            obtain ⟨c, c1, c2, c3⟩ := h3 0 x0 rfl
            have h4 := c3 0 (c[0]'(by omega)) (List.getElem?_eq_getElem _)
            simp only [Nat.zero_mul, Nat.add_zero, Addr.add, if_pos] at h4
            unfold World.cell? at h4
            cases asp with
            | none => rfl
            | some q => simp at h4; split at h4 <;> simp at h4
          subst e1
          have hrow : ∀ (i : Nat) (r : List T), ((x0 :: xs0).map row)[i]? = some r → ∃ p, (x0 :: xs0)[i]? = some p ∧ r = row p := by
            intro i r hr
            rw [List.getElem?_map] at hr
            cases hp : (x0 :: xs0)[i]? with
            | none => rw [hp] at hr; cases hr
            | some p => rw [hp] at hr; cases hr; exact ⟨p, rfl, rfl⟩
          have hfin := @Rd.list W (fun b => b < W.heap.size) false sz ((x0 :: xs0).map row) ab ao cap (fun i j => (W.cell? ⟨ab, ao + (i * sz + j), none⟩).getD Go.undef) (by simpa using hl) hab
            (fun i r hr => by obtain ⟨p, _, rfl⟩ := hrow i r hr; exact he.len p)
            (fun i r j x hr hx => by
              obtain ⟨p, hp, rfl⟩ := hrow i r hr
              obtain ⟨u, hu1, _⟩ := at0 i p hp j (by have := (List.getElem?_eq_some_iff.1 hx).1; rw [he.len] at this; exact this)
              simp only [hu1, Option.getD_some])
            (fun i r j x hr hx => by
              obtain ⟨p, hp, rfl⟩ := hrow i r hr
              obtain ⟨u, hu1, hu2⟩ := at0 i p hp j (by have := (List.getElem?_eq_some_iff.1 hx).1; rw [he.len] at this; exact this)
              simp only [hu1, Option.getD_some]
              exact hu2 x hx)
          rwa [List.length_map] at hfin
      have hw1 : (elems.length + rest.length) * P.bytesOf e ≤ reachBytes := by simpa using hw0
      rw [hB] at hw1
      rw [← hlen]
      exact Nat.le_trans (Nat.mul_le_mul_right _ (Nat.le_add_right _ _)) hw1
structure OpnF (P : Program) (fs : List Field) (o sz : Nat) {α : Type} (row : α → List T) (G : α → Prop) : Prop where
  len : ∀ x, (row x).length = sz
  op : ∀ {H : Type} {enc : TypeId × Value → H} {W : World} {fuel : Nat} {cs : List Value} {xs : List (DataW H × List MemPlace)},
    xs.length = fs.length → (∀ (i : Nat) (f : Field), fs[i]? = some f → DataW.trod enc P W 0 (fun _ => true) true fuel f.type ((cs.drop f.offset).take (P.cellsOf f.type)) = xs[i]?) →
    (∀ n ∈ DataW.weightsEach P (fs.map (·.type)) (xs.map (·.1)), n ≤ reachBytes) → cs.length = o + sz → ∃ x, RdRow W (row x) (cs.drop o) ∧ G x
theorem OpnF.one {f : Field} {o sz : Nat} {α : Type} {row : α → List T} {G : α → Prop} (he : Opn P f.type sz row G) (ho : f.offset = o) (hc : P.cellsOf f.type = sz) : OpnF P [f] o sz row G where
  len := he.len
  op := fun {H enc W fuel cs xs} hx h hz hl => by
    match xs, hx with
    | [y], _ =>
      have hy := h 0 f rfl
      rw [ho, hc, List.take_of_length_le (by simp; omega)] at hy
      exact he.op (show _ = some (y.1, y.2) from hy) (fun n hn => hz n (by simp only [List.map_cons, List.map_nil, DataW.weightsEach]; exact List.mem_append_left _ hn))
theorem OpnF.cons {f : Field} {r : List Field} {o sz sz2 : Nat} {α β : Type} {row : α → List T} {row2 : β → List T} {G : α → Prop} {G2 : β → Prop} (he : Opn P f.type sz row G) (ho : f.offset = o) (hc : P.cellsOf f.type = sz) (hr : OpnF P r (o + sz) sz2 row2 G2) :
    OpnF P (f :: r) o (sz + sz2) (fun x : α × β => row x.1 ++ row2 x.2) (fun x => G x.1 ∧ G2 x.2) where
  len := fun x => by rw [List.length_append, he.len, hr.len]
  op := fun {H enc W fuel cs xs} hx h hz hl => by
    match xs, hx with
    | y :: ys, hx =>
      have hl2 : cs.length = o + sz + sz2 := by omega
      have hy := h 0 f rfl
      rw [ho, hc] at hy
      obtain ⟨x, hK, hG⟩ := he.op (show _ = some (y.1, y.2) from hy) (fun n hn => hz n (by simp only [List.map_cons, DataW.weightsEach]; exact List.mem_append_left _ hn))
      obtain ⟨x2, hK2, hG2⟩ := hr.op (xs := ys) (by simpa using hx) (fun i g hg => h (i + 1) g hg) (fun n hn => hz n (by simp only [List.map_cons, DataW.weightsEach]; exact List.mem_append_right _ hn)) hl2
      refine ⟨(x, x2), ?_, hG, hG2⟩
      have := hK.append hK2
      rwa [← List.drop_drop, List.take_append_drop] at this
theorem Opn.struct {fs : Array Field} {sz : Nat} {α β : Type} {row : α → List T} {row2 : β → List T} {G : α → Prop} {G2 : β → Prop} (g : α → β) (hf : OpnF P fs.toList 0 sz row G) (hu : P.underlying t = some (.struct fs)) (hg : ∀ a, row2 (g a) = row a) (hG2 : ∀ a, G a → G2 (g a)) (hlen : ∀ b, (row2 b).length = sz) (hc : P.cellsOf t = sz) :
    Opn P t sz row2 G2 where
  len := hlen
  op := fun {H enc W fuel cs D ps} h hz => by
    obtain ⟨xs, n, _, hx, hl, hm, he⟩ := DataW.trod_struct hu h
    obtain ⟨rfl, _⟩ := Prod.mk.inj hx
    obtain ⟨x, hK, hG⟩ := hf.op (xs := xs) (by simpa using hm) (fun i f hf => he i f (by simpa using hf)) (fun n hn => hz n (by simp only [DataW.weights, hu]; exact hn)) (by omega)
    exact ⟨g x, by rw [hg]; simpa using hK, hG2 x hG⟩
end
theorem each_of {H : Type} {P : Program} {ts : List TypeId} {ds : List (DataW H)} (h : (DataW.weightsEach P ts ds).all (· ≤ reachBytes) = true) {j : Nat} {t : TypeId} {D : DataW H} (ht : ts[j]? = some t) (hd : ds[j]? = some D) : ∀ n ∈ DataW.weights P t D, n ≤ reachBytes := by
  intro n hn
  have := List.all_eq_true.1 h _ (DataW.weights_mem_each ht hd n hn)
  simpa using this
theorem arg_one {W : World} {t : T} {v : Value} (hv : v.cells.toList = [v]) (h : RdRow W [t] v.cells.toList) : AVr (inCx W fun b => b < W.heap.size) (.t t) v := by
  rw [hv] at h
  exact h.2 0 t v rfl rfl
theorem out_bool {w w' : World} {D : Dm} {b : Bool} {v : Value} (h : Out w D w' (.t (.bool b)) v) : v = .bool b ∧ Below w.heap.size w w' := by
  obtain ⟨h1, col, _, h2⟩ := h
  refine ⟨?_, h1.os, h1.tape, h1.output, h1.size, fun k hk => h1.block k hk (by simp)⟩
  have h3 : Rd (outCx w D w' col).w (outCx w D w' col).Dp (.bool b) v := h2
  cases h3
  rfl
end Go.Proofs.Ythbhnjcnbnlidaa.Am
namespace Go.Proofs.Ythbhnjcnbnlidaa.Am
open Go
set_option linter.unusedVariables false
set_option linter.unusedSimpArgs false
set_option maxRecDepth 100000
theorem lG_mk {α : Type} {G : α → Prop} {B : Nat} {xs : List α} (hB : 1 ≤ B) (h : xs.length * B ≤ 140737488351232 ∧ ∀ x ∈ xs, G x) : lG G xs :=
  ⟨Nat.le_trans (Nat.le_mul_of_pos_right _ hB) h.1, h.2⟩
def Stm.row (x : Stm) : List T := [.int .i64 x.last.t, .int .i64 x.last.n, .list false 3 (x.items.map It.row), .list false 4 (x.groups.map Gr.row)]
theorem opn_int : Opn Try.prog 3 1 (fun x : Int => [T.int .i64 x]) (fun x => (Lit.int .i64 x).wf = true) := Opn.int Try.underlying3
theorem Opn.weaken {P : Program} {t : TypeId} {sz : Nat} {α : Type} {row : α → List T} {G G' : α → Prop} (h : Opn P t sz row G) (hg : ∀ x, G x → G' x) : Opn P t sz row G' :=
  ⟨h.len, fun h1 h2 => by obtain ⟨x, a, b⟩ := h.op h1 h2; exact ⟨x, a, hg x b⟩⟩
end Go.Proofs.Ythbhnjcnbnlidaa.Am
namespace Go.Proofs.Ythbhnjcnbnlidaa.Am
open Go
set_option maxRecDepth 100000
set_option linter.unusedSimpArgs false
set_option linter.unusedVariables false
theorem opn_string : Opn Try.prog 9 1 (fun x : ByteArray => [T.str x]) (fun x => x.size ≤ 140737488351232) := Opn.string Try.underlying9
theorem opn_Score : Opn Try.prog 67 2 Sc.row Sc.G := by
  refine Opn.struct (sz := 1 + 1) (fun (a : ByteArray × Int) => ⟨a.1, a.2⟩) (OpnF.cons opn_string rfl (by kernel_rfl) (OpnF.one opn_int rfl (by kernel_rfl))) Try.underlying67 ?_ ?_ (fun _ => rfl) (by kernel_rfl)
  · exact fun _ => rfl
  · exact (fun _ h => h.1)
theorem opn_Scores : Opn Try.prog 34 1 (fun xs : List Sc => [T.list false 2 (xs.map Sc.row)]) (lG Sc.G) :=
  (Opn.slice (row := Sc.row) (G := Sc.G) opn_Score Try.underlying34 (by kernel_rfl) (by omega) (B := 24) (by kernel_rfl)).weaken fun _ => lG_mk (by omega)
end Go.Proofs.Ythbhnjcnbnlidaa.Am
