/- Texts of this claim, packed: walks and laws that its row stands on. Each states its own conditions. -/
import Derived.Below
import Derived.ChangeArms
import Derived.ChangeOld
import Derived.ChangeSlices
import Derived.DataElems
import Derived.OpenShut
import Derived.ProofKit
import Derived.Shelf.SlSortCmp.NoneTotal
import Derived.Shelf.SlSortCmp.WholeK
import Derived.ShutString
import Derived.SizedLaws
import Derived.Test.YthbhnjcnbnlidaaBFnScoresAny1
namespace Go.Proofs.Ythbhnjcnbnlidaa.Am
open Go
@[ext] structure Pr where
  k : ByteArray
  v : ByteArray
deriving DecidableEq
@[ext] structure Idt where
  t : Int
  n : Int
deriving DecidableEq
@[ext] structure It where
  id : Idt
  fields : List Pr
deriving DecidableEq
@[ext] structure Wt where
  id : Idt
  who : ByteArray
  at' : Int
  tm : Int
deriving DecidableEq
@[ext] structure Gr where
  name : ByteArray
  last : Idt
  waits : List Wt
deriving DecidableEq
@[ext] structure Stm where
  last : Idt
  items : List It
  groups : List Gr
deriving DecidableEq
def Pr.row (x : Pr) : List T := [.str x.k, .str x.v]
def It.row (x : It) : List T := [.int .i64 x.id.t, .int .i64 x.id.n, .list false 2 (x.fields.map Pr.row)]
def Wt.row (x : Wt) : List T := [.int .i64 x.id.t, .int .i64 x.id.n, .str x.who, .int .i64 x.at', .int .i64 x.tm]
def Gr.row (x : Gr) : List T := [.str x.name, .int .i64 x.last.t, .int .i64 x.last.n, .list false 5 (x.waits.map Wt.row)]
def It.rowO (x : It) : List T := [.int .i64 x.id.t, .int .i64 x.id.n, .list true 2 (x.fields.map Pr.row)]
def Gr.rowO (x : Gr) : List T := [.str x.name, .int .i64 x.last.t, .int .i64 x.last.n, .list true 5 (x.waits.map Wt.row)]
def Pr.w (x : Pr) : Nat := x.k.size + x.v.size
def It.w (x : It) : Nat := wAll Pr.w x.fields
def Wt.w (x : Wt) : Nat := x.who.size
def Gr.w (x : Gr) : Nat := x.name.size + wAll Wt.w x.waits
def Stm.w (x : Stm) : Nat := wAll It.w x.items + wAll Gr.w x.groups
def ts (l : List T) : List AV := l.map .t
abbrev Pr.av (x : Pr) : AV := .agg [.t (.str x.k), .t (.str x.v)]
abbrev Idt.av (x : Idt) : AV := .agg [I x.t, I x.n]
abbrev It.av (x : It) : AV := .agg [I x.id.t, I x.id.n, .t (.list false 2 (x.fields.map Pr.row))]
abbrev Wt.av (x : Wt) : AV := .agg [I x.id.t, I x.id.n, .t (.str x.who), I x.at', I x.tm]
abbrev Gr.av (x : Gr) : AV := .agg [.t (.str x.name), I x.last.t, I x.last.n, .t (.list false 5 (x.waits.map Wt.row))]
abbrev Stm.av (x : Stm) : AV := .agg [I x.last.t, I x.last.n, .t (.list false 3 (x.items.map It.row)), .t (.list false 4 (x.groups.map Gr.row))]
theorem bytesEq_iff (a b : ByteArray) : bytesEq a b = decide (a = b) := by
  unfold bytesEq
  rw [ByteArray.toList_eq, ByteArray.toList_eq]
  obtain ⟨⟨x⟩⟩ := a
  obtain ⟨⟨y⟩⟩ := b
  by_cases h : x = y
  · subst h; simp
  · have h1 : (x == y) = false := by simpa using h
    simp [h, h1]
theorem mk_rows {α : Type} (f : α → List T) (h : ∀ x, (f x).map (T.mk false) = f x) (l : List α) : (l.map f).map (List.map (T.mk false)) = l.map f := by
  rw [List.map_map]
  exact List.map_congr_left fun x _ => h x
theorem Pr.mk_rows (l : List Pr) : (l.map Pr.row).map (List.map (T.mk false)) = l.map Pr.row := Am.mk_rows _ (fun _ => rfl) l
theorem Wt.mk_rows (l : List Wt) : (l.map Wt.row).map (List.map (T.mk false)) = l.map Wt.row := Am.mk_rows _ (fun _ => rfl) l
theorem It.mk_rows (l : List It) : (l.map It.row).map (List.map (T.mk false)) = l.map It.row := Am.mk_rows _ (fun x => by simp only [It.row, List.map_cons, List.map_nil, T.mk_list, T.mk_int, Pr.mk_rows]) l
theorem Gr.mk_rows (l : List Gr) : (l.map Gr.row).map (List.map (T.mk false)) = l.map Gr.row := Am.mk_rows _ (fun x => by simp only [Gr.row, List.map_cons, List.map_nil, T.mk_list, T.mk_int, T.mk_str, Wt.mk_rows]) l
attribute [go_sem] bytesEq_iff Pr.mk_rows Wt.mk_rows It.mk_rows Gr.mk_rows
end Go.Proofs.Ythbhnjcnbnlidaa.Am
namespace Go.Proofs.Ythbhnjcnbnlidaa.Am
open Go
set_option maxRecDepth 100000
set_option linter.unusedSimpArgs false
set_option linter.unusedVariables false
theorem s_isNaN (n : Int) : Spec Try.prog 125 [I n] (fun r => r = Bo false) := by
  refine Spec.of tysOk mixed Try.func125 rfl (by decide) ?_
  simp -implicitDefEqProofs only [go_sem, Try.f125]
theorem p_isNaN : Plain Try.prog 125 := ⟨_, Try.func125, rfl, by decide⟩
def cmpM (a b : Int) : Int := if a < b then -1 else if b < a then 1 else 0
theorem s_compare (a b : Int) : Spec Try.prog 93 [I a, I b] (fun r => r = I (cmpM a b)) := by
  refine Spec.of tysOk mixed Try.func93 rfl (by decide) ?_
  simp -implicitDefEqProofs only [go_sem, Try.f93]
  refine .one (s_isNaN _) p_isNaN rfl trivial ?_
  simp -implicitDefEqProofs only [go_sem]
  refine .one (s_isNaN _) p_isNaN rfl trivial ?_
  simp -implicitDefEqProofs only [go_sem]
  refine BrA_i (fun h => ?_) (fun h => ?_)
  · simp -implicitDefEqProofs only [go_sem]; simp_all [cmpM]
  · simp -implicitDefEqProofs only [go_sem]
    refine BrA_i (fun h => ?_) (fun h => ?_) <;> simp -implicitDefEqProofs only [go_sem] <;> simp_all [cmpM] <;> omega
theorem p_compare : Plain Try.prog 93 := ⟨_, Try.func93, rfl, by decide⟩
def firstM (xs : List Int) : Int := (xs.find? (· != 0)).getD 0
theorem s_or (xs : List Int) (hx : xs.length < 1000000) : Spec Try.prog 92 [.t (.list false 1 (xs.map fun n => [T.int .i64 n]))] (fun r => r = I (firstM xs)) := by
  refine Spec.of tysOk mixed Try.func92 rfl (by decide) ?_
  simp -implicitDefEqProofs only [go_sem, Try.f92]
  refine LoopW.slots (α := Nat) (fun i => [(8, I i)]) (fun _ => []) (fun i => xs.length - i) (fun i => i ≤ xs.length ∧ (∀ n ∈ xs.take i, n = 0)) 0 rfl rfl (by simp) ?_
  rintro i ⟨hi, hz⟩
  simp -implicitDefEqProofs only [go_sem]
  refine BrA_i (fun h => ?_) (fun h => ?_)
  · have h : i < xs.length := by simp at h; omega
    simp -implicitDefEqProofs only [go_sem, row_getD _ _ h]
    refine ⟨⟨by omega, by omega⟩, BrA_i (fun h0 => ?_) (fun h0 => ?_)⟩
    rotate_left
    · simp -implicitDefEqProofs only [go_sem]
      have hz' : ∀ n ∈ xs.take i, ¬ ((n != 0) = true) := fun n hn => by simp [hz n hn]
      have : xs = xs.take i ++ xs[i] :: xs.drop (i + 1) := by simp
      have h0 : (xs[i] != 0) = true := by simpa using h0
      have h1 : xs.find? (· != 0) = some xs[i] := by
        rw [List.find?_eq_some_iff_append]
        exact ⟨h0, _, _, this, fun n hn => by simp [hz n hn]⟩
      unfold firstM; rw [h1]; rfl
    · simp -implicitDefEqProofs only [go_sem]
      refine .to [] (i + 1) rfl ?_ rfl (by omega) ⟨h, ?_⟩
      · simp -implicitDefEqProofs only [go_sem, LeTs_undef, LeTs_same]
        simp only [wrap64 (n := (i : Int) + 1) (by omega) (by omega)]
        simp [LeTs]
      · intro n hn
        simp at h0
        rw [List.take_succ_eq_append_getElem h, List.mem_append, List.mem_singleton] at hn
        rcases hn with hn | hn
        · exact hz n hn
        · rw [hn]; exact h0
  · simp -implicitDefEqProofs only [go_sem]
    have h : i = xs.length := by simp at h; omega
    subst h
    have : xs.find? (· != 0) = none := List.find?_eq_none.2 fun n hn => by simp [hz n (by simpa using hn)]
    simp [firstM, this]
theorem p_or : Plain Try.prog 92 := ⟨_, Try.func92, rfl, by decide⟩
theorem find2 (x y : Int) : firstM [x, y] = if x = 0 then y else x := by
  unfold firstM
  by_cases h : x = 0 <;> by_cases h' : y = 0 <;> simp [List.find?_cons, h, h', bne]
  all_goals (split <;> simp_all)
def withinM (n lo hi : Int) : Bool := decide (lo ≤ n) && decide (n ≤ hi)
theorem s_within (n lo hi : Int) : Spec Try.prog 64 [I n, I lo, I hi] (fun r => r = Bo (withinM n lo hi)) := by
  refine Spec.of tysOk mixed Try.func64 rfl (by decide) ?_
  simp -implicitDefEqProofs only [go_sem, Try.f64]
  refine BrA_i (fun h => ?_) (fun h => ?_) <;> simp -implicitDefEqProofs only [go_sem] <;> simp_all [withinM] <;> omega
theorem p_within : Plain Try.prog 64 := ⟨_, Try.func64, rfl, by decide⟩
end Go.Proofs.Ythbhnjcnbnlidaa.Am
namespace Go.Proofs.Ythbhnjcnbnlidaa.Am
open Go
set_option linter.unusedSimpArgs false
set_option linter.unusedVariables false
theorem bl_irrefl : ∀ x : List UInt8, Op.bytesLess x x = false
  | [] => rfl
  | a :: x => by simp [Op.bytesLess, bl_irrefl x]
theorem bl_trans : ∀ {x y z : List UInt8}, Op.bytesLess x y = true → Op.bytesLess y z = true → Op.bytesLess x z = true
  | _, [], _, h, _ => by simp [Op.bytesLess] at h
  | _, _ :: _, [], _, h => by simp [Op.bytesLess] at h
  | [], _ :: _, _ :: _, _, _ => rfl
  | a :: x, b :: y, c :: z, h, h' => by
    simp only [Op.bytesLess, Bool.or_eq_true, Bool.and_eq_true, decide_eq_true_eq, beq_iff_eq] at h h' ⊢
    rcases h with h | ⟨rfl, h⟩
    · rcases h' with h' | ⟨rfl, h'⟩
      · exact .inl (UInt8.lt_trans h h')
      · exact .inl h
    · rcases h' with h' | ⟨rfl, h'⟩
      · exact .inl h'
      · exact .inr ⟨rfl, bl_trans h h'⟩
theorem bl_total : ∀ {x y : List UInt8}, x ≠ y → Op.bytesLess x y = false → Op.bytesLess y x = true
  | [], [], h, _ => absurd rfl h
  | [], _ :: _, _, h => by simp [Op.bytesLess] at h
  | _ :: _, [], _, _ => rfl
  | a :: x, b :: y, h, h' => by
    simp only [Op.bytesLess, Bool.or_eq_false_iff, Bool.and_eq_false_iff, decide_eq_false_iff_not, beq_eq_false_iff_ne, ne_eq] at h'
    simp only [Op.bytesLess, Bool.or_eq_true, Bool.and_eq_true, decide_eq_true_eq, beq_iff_eq]
    obtain ⟨h1, h2⟩ := h'
    by_cases e : a = b
    · subst e
      refine .inr ⟨rfl, bl_total (fun e => h (by rw [e])) (by simpa using h2)⟩
    · have hne : a.toNat ≠ b.toNat := fun h => e (UInt8.toNat_inj.1 h)
      have h3 : a.toNat < b.toNat ∨ b.toNat < a.toNat := by omega
      rcases h3 with h3 | h3
      · exact absurd (UInt8.lt_iff_toNat_lt.2 h3) h1
      · exact .inl (UInt8.lt_iff_toNat_lt.2 h3)
theorem bytesLt_irrefl (a : ByteArray) : bytesLt a a = false := bl_irrefl _
theorem bytesLt_trans {a b c : ByteArray} (h : bytesLt a b = true) (h' : bytesLt b c = true) : bytesLt a c = true := bl_trans h h'
theorem bytesLt_total {a b : ByteArray} (h : a ≠ b) (h' : bytesLt a b = false) : bytesLt b a = true := by
  refine bl_total (fun e => h ?_) h'
  have := bytesEq_iff a b
  unfold bytesEq at this
  rw [e] at this
  simpa using this
end Go.Proofs.Ythbhnjcnbnlidaa.Am
namespace Go.Proofs.Ythbhnjcnbnlidaa.Am
open Go
set_option maxRecDepth 100000
set_option maxHeartbeats 1000000
set_option linter.unusedSimpArgs false
set_option linter.unusedVariables false
def cmpS (a b : ByteArray) : Int := if bytesLt a b = true then -1 else if a = b then 0 else 1
theorem cmpS_lt (a b : ByteArray) : decide (cmpS a b < 0) = bytesLt a b := by
  unfold cmpS
  cases h : bytesLt a b
  · by_cases e : a = b <;> simp [e]
  · simp
theorem p_isNaNS : Plain Try.prog 126 := ⟨_, Try.func126, rfl, by decide⟩
theorem s_isNaNS (n : ByteArray) : Spec Try.prog 126 [.t (.str n)] (fun r => r = Bo false) := by
  refine Spec.of tysOk mixed Try.func126 rfl (by decide) ?_
  simp -implicitDefEqProofs only [go_sem, Try.f126]
theorem p_compareS : Plain Try.prog 94 := ⟨_, Try.func94, rfl, by decide⟩
theorem s_compareS (a b : ByteArray) : Spec Try.prog 94 [.t (.str a), .t (.str b)] (fun r => r = I (cmpS a b)) := by
  refine Spec.of tysOk mixed Try.func94 rfl (by decide) ?_
  simp -implicitDefEqProofs only [go_sem, Try.f94]
  refine .one (s_isNaNS _) p_isNaNS rfl trivial ?_
  simp -implicitDefEqProofs only [go_sem]
  refine .one (s_isNaNS _) p_isNaNS rfl trivial ?_
  simp -implicitDefEqProofs only [go_sem]
  refine BrA_i (fun h => ?_) (fun h => ?_)
  · simp -implicitDefEqProofs only [go_sem]; simp [cmpS, h]
  · simp -implicitDefEqProofs only [go_sem]
    refine BrA_i (fun h2 => ?_) (fun h2 => ?_) <;> simp -implicitDefEqProofs only [go_sem] <;> simp_all [cmpS]
end Go.Proofs.Ythbhnjcnbnlidaa.Am
namespace Go.Proofs.Ythbhnjcnbnlidaa.Am
open Go
set_option maxRecDepth 100000
set_option linter.unusedSimpArgs false
set_option linter.unusedVariables false
def Idt.row (x : Idt) : List T := [.int .i64 x.t, .int .i64 x.n]
def lG {α : Type} (G : α → Prop) (xs : List α) : Prop := xs.length ≤ 140737488351232 ∧ ∀ x ∈ xs, G x
def Pr.G (x : Pr) : Prop := x.k.size ≤ 140737488351232 ∧ x.v.size ≤ 140737488351232
def It.G (x : It) : Prop := lG Pr.G x.fields
def Wt.G (x : Wt) : Prop := x.who.size ≤ 140737488351232
def Gr.G (x : Gr) : Prop := x.name.size ≤ 140737488351232 ∧ lG Wt.G x.waits
def Stm.G (x : Stm) : Prop := lG It.G x.items ∧ lG Gr.G x.groups
end Go.Proofs.Ythbhnjcnbnlidaa.Am
namespace Go.Proofs.Ythbhnjcnbnlidaa.Am
open Go
set_option maxRecDepth 100000
set_option linter.unusedSimpArgs false
set_option linter.unusedVariables false
abbrev Tx := ByteArray
abbrev Or := List Tx
def Tx.row (x : Tx) : List T := [.str x]
def Tx.w (x : Tx) : Nat := x.size
def Or.row (x : Or) : List T := [.list false 1 (x.map Tx.row)]
def Or.rowO (x : Or) : List T := [.list true 1 (x.map Tx.row)]
def Or.w (x : Or) : Nat := wAll Tx.w x
def Tx.G (x : Tx) : Prop := x.size ≤ 140737488351232
def Or.G (x : Or) : Prop := lG Tx.G x
@[ext] structure Sc where
  text : ByteArray
  num : Int
deriving DecidableEq
@[ext] structure En where
  key : ByteArray
  till : Int
  kind : Int
  text : ByteArray
  list : List Tx
  scores : List Sc
  fields : List Pr
deriving DecidableEq
@[ext] structure Bs where
  now : Int
  ents : List En
deriving DecidableEq
@[ext] structure Cl where
  multi : Bool
  wrong : Bool
  queue : List Or
  watch : List Tx
  touch : Bool
  hears : List Tx
deriving DecidableEq
@[ext] structure Sv where
  base : Bs
  file : ByteArray
  cls : List Cl
deriving DecidableEq
@[ext] structure Ld where
  srv : Sv
  hist : Int
deriving DecidableEq
@[ext] structure Fo where
  hist : Int
  text : ByteArray
  base : Bs
deriving DecidableEq
@[ext] structure Pac where
  full : Bool
  hist : Int
  pos : Int
  text : ByteArray
  now : Int
deriving DecidableEq
def Sc.row (x : Sc) : List T := [.str x.text, .int .i64 x.num]
abbrev Sc.av (x : Sc) : AV := .agg [.t (.str x.text), I x.num]
def Sc.w (x : Sc) : Nat := x.text.size
def Sc.G (x : Sc) : Prop := x.text.size ≤ 140737488351232
def En.row (x : En) : List T := [.str x.key, .int .i64 x.till, .int .i64 x.kind, .str x.text, .list false 1 (x.list.map Tx.row), .list false 2 (x.scores.map Sc.row), .list false 2 (x.fields.map Pr.row)]
def En.rowO (x : En) : List T := [.str x.key, .int .i64 x.till, .int .i64 x.kind, .str x.text, .list true 1 (x.list.map Tx.row), .list true 2 (x.scores.map Sc.row), .list true 2 (x.fields.map Pr.row)]
abbrev En.av (x : En) : AV := .agg [.t (.str x.key), I x.till, I x.kind, .t (.str x.text), .t (.list false 1 (x.list.map Tx.row)), .t (.list false 2 (x.scores.map Sc.row)), .t (.list false 2 (x.fields.map Pr.row))]
def En.w (x : En) : Nat := x.key.size + x.text.size + wAll Tx.w x.list + wAll Sc.w x.scores + wAll Pr.w x.fields
def En.G (x : En) : Prop := x.key.size ≤ 140737488351232 ∧ x.text.size ≤ 140737488351232 ∧ lG Tx.G x.list ∧ lG Sc.G x.scores ∧ lG Pr.G x.fields
def Bs.row (x : Bs) : List T := [.int .i64 x.now, .list false 7 (x.ents.map En.row)]
def Bs.rowO (x : Bs) : List T := [.int .i64 x.now, .list true 7 (x.ents.map En.rowO)]
abbrev Bs.av (x : Bs) : AV := .agg [I x.now, .t (.list false 7 (x.ents.map En.row))]
def Bs.w (x : Bs) : Nat := wAll En.w x.ents
def Bs.G (x : Bs) : Prop := lG En.G x.ents
def Cl.row (x : Cl) : List T := [.bool x.multi, .bool x.wrong, .list false 1 (x.queue.map Or.row), .list false 1 (x.watch.map Tx.row), .bool x.touch, .list false 1 (x.hears.map Tx.row)]
def Cl.rowO (x : Cl) : List T := [.bool x.multi, .bool x.wrong, .list true 1 (x.queue.map Or.rowO), .list true 1 (x.watch.map Tx.row), .bool x.touch, .list true 1 (x.hears.map Tx.row)]
abbrev Cl.av (x : Cl) : AV := .agg [Bo x.multi, Bo x.wrong, .t (.list false 1 (x.queue.map Or.row)), .t (.list false 1 (x.watch.map Tx.row)), Bo x.touch, .t (.list false 1 (x.hears.map Tx.row))]
def Cl.w (x : Cl) : Nat := wAll Or.w x.queue + wAll Tx.w x.watch + wAll Tx.w x.hears
def Cl.G (x : Cl) : Prop := lG Or.G x.queue ∧ lG Tx.G x.watch ∧ lG Tx.G x.hears
def Sv.row (x : Sv) : List T := [.int .i64 x.base.now, .list false 7 (x.base.ents.map En.row), .str x.file, .list false 6 (x.cls.map Cl.row)]
def Sv.rowO (x : Sv) : List T := [.int .i64 x.base.now, .list true 7 (x.base.ents.map En.rowO), .str x.file, .list true 6 (x.cls.map Cl.rowO)]
abbrev Sv.av (x : Sv) : AV := .agg [I x.base.now, .t (.list false 7 (x.base.ents.map En.row)), .t (.str x.file), .t (.list false 6 (x.cls.map Cl.row))]
def Sv.w (x : Sv) : Nat := Bs.w x.base + x.file.size + wAll Cl.w x.cls
def Sv.G (x : Sv) : Prop := Bs.G x.base ∧ x.file.size ≤ 140737488351232 ∧ lG Cl.G x.cls
def Ld.row (x : Ld) : List T := [.int .i64 x.srv.base.now, .list false 7 (x.srv.base.ents.map En.row), .str x.srv.file, .list false 6 (x.srv.cls.map Cl.row), .int .i64 x.hist]
def Ld.rowO (x : Ld) : List T := [.int .i64 x.srv.base.now, .list true 7 (x.srv.base.ents.map En.rowO), .str x.srv.file, .list true 6 (x.srv.cls.map Cl.rowO), .int .i64 x.hist]
abbrev Ld.av (x : Ld) : AV := .agg [I x.srv.base.now, .t (.list false 7 (x.srv.base.ents.map En.row)), .t (.str x.srv.file), .t (.list false 6 (x.srv.cls.map Cl.row)), I x.hist]
def Ld.w (x : Ld) : Nat := Sv.w x.srv
def Ld.G (x : Ld) : Prop := Sv.G x.srv
def Fo.row (x : Fo) : List T := [.int .i64 x.hist, .str x.text, .int .i64 x.base.now, .list false 7 (x.base.ents.map En.row)]
def Fo.rowO (x : Fo) : List T := [.int .i64 x.hist, .str x.text, .int .i64 x.base.now, .list true 7 (x.base.ents.map En.rowO)]
abbrev Fo.av (x : Fo) : AV := .agg [I x.hist, .t (.str x.text), I x.base.now, .t (.list false 7 (x.base.ents.map En.row))]
def Fo.w (x : Fo) : Nat := x.text.size + Bs.w x.base
def Fo.G (x : Fo) : Prop := x.text.size ≤ 140737488351232 ∧ Bs.G x.base
def Pac.row (x : Pac) : List T := [.bool x.full, .int .i64 x.hist, .int .i64 x.pos, .str x.text, .int .i64 x.now]
abbrev Pac.av (x : Pac) : AV := .agg [Bo x.full, I x.hist, I x.pos, .t (.str x.text), I x.now]
def Pac.w (x : Pac) : Nat := x.text.size
def Pac.G (x : Pac) : Prop := x.text.size ≤ 140737488351232
theorem Tx.mk_rows (l : List Tx) : (l.map Tx.row).map (List.map (T.mk false)) = l.map Tx.row := Am.mk_rows _ (fun _ => rfl) l
theorem Or.mk_rows (l : List Or) : (l.map Or.row).map (List.map (T.mk false)) = l.map Or.row := Am.mk_rows _ (fun x => by simp only [Or.row, List.map_cons, List.map_nil, T.mk_list, T.mk_int, T.mk_str, T.mk_bool, Pr.mk_rows, Tx.mk_rows]) l
theorem Or.mk_rowsO (l : List Or) : (l.map Or.rowO).map (List.map (T.mk false)) = l.map Or.row := by
  rw [List.map_map]; exact List.map_congr_left fun x _ => by simp only [Function.comp, Or.rowO, Or.row, List.map_cons, List.map_nil, T.mk_list, T.mk_int, T.mk_str, T.mk_bool, Pr.mk_rows, Tx.mk_rows]
theorem Sc.mk_rows (l : List Sc) : (l.map Sc.row).map (List.map (T.mk false)) = l.map Sc.row := Am.mk_rows _ (fun x => by simp only [Sc.row, List.map_cons, List.map_nil, T.mk_list, T.mk_int, T.mk_str, T.mk_bool, Pr.mk_rows, Tx.mk_rows, Or.mk_rows]) l
theorem En.mk_rows (l : List En) : (l.map En.row).map (List.map (T.mk false)) = l.map En.row := Am.mk_rows _ (fun x => by simp only [En.row, List.map_cons, List.map_nil, T.mk_list, T.mk_int, T.mk_str, T.mk_bool, Pr.mk_rows, Tx.mk_rows, Or.mk_rows, Sc.mk_rows]) l
theorem En.mk_rowsO (l : List En) : (l.map En.rowO).map (List.map (T.mk false)) = l.map En.row := by
  rw [List.map_map]; exact List.map_congr_left fun x _ => by simp only [Function.comp, En.rowO, En.row, List.map_cons, List.map_nil, T.mk_list, T.mk_int, T.mk_str, T.mk_bool, Pr.mk_rows, Tx.mk_rows, Or.mk_rows, Sc.mk_rows, Or.mk_rowsO]
theorem Cl.mk_rows (l : List Cl) : (l.map Cl.row).map (List.map (T.mk false)) = l.map Cl.row := Am.mk_rows _ (fun x => by simp only [Cl.row, List.map_cons, List.map_nil, T.mk_list, T.mk_int, T.mk_str, T.mk_bool, Pr.mk_rows, Tx.mk_rows, Or.mk_rows, Sc.mk_rows, En.mk_rows]) l
theorem Cl.mk_rowsO (l : List Cl) : (l.map Cl.rowO).map (List.map (T.mk false)) = l.map Cl.row := by
  rw [List.map_map]; exact List.map_congr_left fun x _ => by simp only [Function.comp, Cl.rowO, Cl.row, List.map_cons, List.map_nil, T.mk_list, T.mk_int, T.mk_str, T.mk_bool, Pr.mk_rows, Tx.mk_rows, Or.mk_rows, Sc.mk_rows, En.mk_rows, Or.mk_rowsO, En.mk_rowsO]
attribute [go_sem] Tx.mk_rows Or.mk_rows Or.mk_rowsO Sc.mk_rows En.mk_rows En.mk_rowsO Cl.mk_rows Cl.mk_rowsO
end Go.Proofs.Ythbhnjcnbnlidaa.Am
namespace Go.Proofs.Ythbhnjcnbnlidaa.Am
open Go
set_option linter.unusedVariables false
def mkC : AV → AV
  | .t x => .t (x.mk false)
  | x => x
def mkCs : List AV → List AV
  | [] => []
  | x :: l => mkC x :: mkCs l
def mkV : AV → AV
  | .agg cs => .agg (mkCs cs)
  | x => mkC x
def mkVs : List AV → List AV
  | [] => []
  | x :: l => mkV x :: mkVs l
def mkR : AV → AV
  | .tup l => .tup (mkVs l)
  | x => mkV x
theorem ResC.mk {c : Cx} {col : Col} {i j : Nat} {x : AV} {v : Value} (h : ResC c col i j x v) : ResC c col i j (mkC x) v := by
  cases x <;> first | exact Rd.mk false h | exact h
theorem ResCs.mk {c : Cx} {col : Col} {i : Nat} : ∀ {xs : List AV} {vs : List Value} {j : Nat}, ResCs c col i j xs vs → ResCs c col i j (mkCs xs) vs
  | [], [], _, _ => trivial
  | x :: xs, v :: vs, j, h => ⟨ResC.mk h.1, ResCs.mk h.2⟩
  | [], _ :: _, _, h => h.elim
  | _ :: _, [], _, h => h.elim
theorem ResV.mk {c : Cx} {col : Col} {i : Nat} {x : AV} {v : Value} (h : ResV c col i x v) : ResV c col i (mkV x) v := by
  cases x with
  | agg cs => obtain ⟨vs, e, h⟩ := h; exact ⟨vs, e, ResCs.mk h⟩
  | t y => exact ResC.mk (c := c) (col := col) (i := i) (j := 0) (x := .t y) h
  | _ => exact h
theorem ResVs.mk {c : Cx} {col : Col} : ∀ {xs : List AV} {vs : List Value} {i : Nat}, ResVs c col i xs vs → ResVs c col i (mkVs xs) vs
  | [], [], _, _ => trivial
  | x :: xs, v :: vs, i, h => ⟨ResV.mk h.1, ResVs.mk h.2⟩
  | [], _ :: _, _, h => h.elim
  | _ :: _, [], _, h => h.elim
theorem ResR.mk {c : Cx} {col : Col} {r : AV} {v : Value} (h : ResR c col r v) : ResR c col (mkR r) v := by
  cases r with
  | tup xs => obtain ⟨vs, e, h⟩ := h; exact ⟨vs, e, ResVs.mk h⟩
  | agg cs => exact ResV.mk (c := c) (col := col) (i := 0) (x := .agg cs) h
  | t y => exact ResV.mk (c := c) (col := col) (i := 0) (x := .t y) h
  | _ => exact h
theorem Spec.mkR {P : Program} {f : FuncId} {args : List AV} {Q : AV → Prop} (h : Spec P f args Q) : Spec P f args (fun r => ∃ r0, Q r0 ∧ r = Am.mkR r0) := fun w D vs hD hv => (h w D vs hD hv).mono fun e w' ⟨v, r, he, hq, hs, col, hc, hr⟩ =>
  ⟨v, Am.mkR r, he, ⟨r, hq, rfl⟩, hs, col, hc, hr.mk⟩
section
variable {P : Program} {Γ : Env} {f : FuncId} {avs args0 : List AV} {Q : AV → Prop} {d : Option Tmp} {K : St → Prop} {s : St}
theorem CallW.psm (hs : Spec P f args0 Q) (hp : Plain P f) (ha : (argAVs s.hp avs).map (List.map plV) = some args0) (hv : permVs avs = true) (hK : ∀ r, Q r → Sm (bindR s d (mkR (shareR r))) K) : CallW P Γ f avs d K s :=
  CallW.p hs.share.mkR hp ha hv fun r ⟨r0, ⟨r1, hq, e1⟩, e⟩ => by subst e e1; exact hK r1 hq
end
theorem LeS.freeze {s s' : St} {k : Nat} (h : s.freeze k = some s') : LeS s s' := fun B a w ⟨ρ, col, hs⟩ => by
  obtain ⟨sz, rs, hk, hn, hp, rfl⟩ := freeze_some h
  exact ⟨_, _, (hs.freeze hk hn hp).1⟩
theorem LeS.freezes : ∀ {ks : List Nat} {s s' : St}, s.freezes ks = some s' → LeS s s'
  | [], s, s', h => by simp [St.freezes] at h; subst h; exact LeS.refl _
  | k :: ks, s, s', h => by
    simp only [St.freezes, Option.bind_eq_some_iff] at h
    obtain ⟨s1, h1, h2⟩ := h
    exact (LeS.freeze h1).trans (LeS.freezes h2)
theorem LeS.rfz {s s' : St} {k : Nat} (h : s.rfz k = some s') : LeS s s' := fun B a w ⟨ρ, col, hs⟩ => by
  obtain ⟨sz, rs, hk, hn, hp, rfl⟩ := rfz_some h
  exact ⟨_, _, (hs.rfz hk hn hp).1⟩
attribute [go_sem] mkC mkCs mkV mkVs mkR
end Go.Proofs.Ythbhnjcnbnlidaa.Am
namespace Go.Proofs.Ythbhnjcnbnlidaa.Am
open Go Go.Sort
set_option linter.unusedVariables false
set_option linter.unusedSimpArgs false
structure El (sz : Nat) (typed : List T → List Value → Prop) where
  row : List T
  val : List Value
  rl : row.length = sz
  vl : val.length = sz
  one : ∀ v ∈ val, v.oneCell' = true
  ty : typed row val
structure RawSort (P : Program) (f g : FuncId) (sz : Nat) (typed : List T → List Value → Prop) (cf : List T → List T → Int) : Prop where
  nil : ∀ (w : World) (a : Option Addr) (cap : Nat), Calls P f #[.slice a 0 cap, .func (.func g) #[] #[]] w fun e w' => e = .returned (.tuple #[]) ∧ w' = w
  row : ∀ [Inhabited (El sz typed)] (w : World) (b cap : Nat) (d : Array (El sz typed)), HoldsK El.val sz w b 0 d → b < w.heap.size → d.size < 4611686018427387904 →
    Calls P f #[.slice (some ⟨b, 0, none⟩) d.size cap, .func (.func g) #[] #[]] w fun e w' => e = .returned (.tuple #[]) ∧ ∃ d' n os, PermIn 0 d.size d d' ∧ SortedIn (ltOf fun x y : El sz typed => cf x.row y.row) 0 d.size d' ∧ w' = sortWorldK El.val sz w b 0 n d' os
theorem list_choice {α : Type} {p : Nat → α → Prop} : ∀ (n : Nat), (∀ i, i < n → ∃ a, p i a) → ∃ l : List α, l.length = n ∧ ∀ i (h : i < l.length), p i l[i]
  | 0, _ => ⟨[], rfl, fun i h => absurd h (Nat.not_lt_zero i)⟩
  | n + 1, h => by
    obtain ⟨l, h1, h2⟩ := list_choice n fun i hi => h i (by omega)
    obtain ⟨a, ha⟩ := h n (by omega)
    refine ⟨l ++ [a], by simp [h1], fun i hi => ?_⟩
    by_cases hl : i < l.length
    · rw [List.getElem_append_left hl]; exact h2 i hl
    · have : i = n := by simp at hi; omega
      subst this
      rw [List.getElem_append_right (by omega)]
      simpa [h1] using ha
theorem get!_list {α : Type} [Inhabited α] (l : List α) (i : Nat) (h : i < l.length) : l.toArray[i]! = l[i] := by simp [h]
theorem sortWorld_block {α : Type} [Inhabited α] (enc : α → List Value) (k : Nat) (w : World) (b n : Nat) (d : Array α) (os : Array Obj) (hb : b < w.heap.size) :
    (∀ b1, b1 < w.heap.size → b1 ≠ b → (sortWorldK enc k w b 0 n d os).heap[b1]? = w.heap[b1]?) ∧
    (∀ cells e fr, w.heap[b]? = some (.cells cells e fr) → ∃ cells', cells'.size = cells.size ∧ (sortWorldK enc k w b 0 n d os).heap[b]? = some (.cells cells' e fr)) := by
  refine ⟨fun b1 h1 hne => ?_, fun cells e fr hc => ?_⟩
  · show ((w.heap.modify b _) ++ os)[b1]? = _
    rw [Array.getElem?_append_left (by simpa using h1), Array.getElem?_modify, if_neg (fun h => hne h.symm)]
  · refine ⟨putCells id 0 (flatK enc k d) cells, by simp [putCells], ?_⟩
    show ((w.heap.modify b _) ++ os)[b]? = _
    rw [Array.getElem?_append_left (by simpa using hb), Array.getElem?_modify, if_pos rfl, hc]
    rfl
theorem SpecO_sort {P : Program} {f g : FuncId} {sz : Nat} {typed : List T → List Value → Prop} {cf : List T → List T → Int} (raw : RawSort P f g sz typed cf) (hsz : 0 < sz)
    {rs : List (List T)} (hl : rs.length < 4611686018427387904) (hflat : ∀ r ∈ rs, ∀ x ∈ r, x.flat)
    (hty : ∀ r ∈ rs, ∀ (w : World) (D : Dm) (vs : List Value), vs.length = r.length → (∀ (j : Nat) x v, r[j]? = some x → vs[j]? = some v → Rd w D x v) → typed r vs) :
    SpecO P f [.refw 9000, .fn g []] [(9000, .rows sz rs)] (fun r h => r = .tup [] ∧ ∃ rs', rs'.Perm rs ∧ (∀ i j (hi : i < j) (hj : j < rs'.length), ¬ cf rs'[j] (rs'[i]'(by omega)) < 0) ∧ h = [(9000, .rows sz rs')]) := by
  intro w D ρ col vs hh hv
  match vs, hv with
  | [v0, v1], ⟨⟨sz', rs', g1, g2⟩, h1, _⟩ =>
    obtain ⟨vs1, rfl, hvs1⟩ := h1
    match vs1, hvs1 with
    | [], _ =>
    have hk : hget [(9000, Blk.rows sz rs)] 9000 = some (.rows sz rs) := by simp [hget]
    have g1 : hget [(9000, Blk.rows sz rs)] 9000 = some (.rows sz' rs') := g1
    rw [hk] at g1
    cases g1
    obtain ⟨hrow, hrest⟩ := hh.blk 9000 _ hk
    have only : ∀ k b1, ρ k = some b1 → k = 9000 := fun k b1 hk1 => by
      have h9 : hget [(9000, Blk.rows sz rs)] k ≠ none := fun h => by rw [hh.dom k h] at hk1; cases hk1
      simp only [hget] at h9
      split at h9
      · rename_i e; exact e.symm
      · exact absurd rfl h9
    rcases g2 with ⟨b, cap, e0, n0, hb, rfl, hcap, hsh, hcs⟩ | ⟨rfl, a, rfl⟩
    · rcases hrest with ⟨b', cells, e, fr, u, hb', hc, hf, hsz2, hu, how⟩ | ⟨rfl, hn⟩
      · obtain rfl : b' = b := by
          have q1 : ρ 9000 = some b' := hb'
          have q2 : ρ 9000 = some b := hb
          rw [q2] at q1; exact (Option.some.inj q1).symm
        have hc' : w.heap[b']? = some (.cells cells e fr) := hc
        have hsize : rs.length * sz ≤ cells.size := hsz2
        have hbl : b' < w.heap.size := hh.lab 9000 b' hb
        have cell : ∀ (i q : Nat), i < rs.length → q < sz → ∃ x, (rs.getD i [])[q]? = some x ∧ cells[i * sz + q]? = some (u i q) ∧ x.flat ∧ Rd w D x (u i q) := fun i q hi hq => by
          have hr : rs[i]? = some rs[i] := List.getElem?_eq_getElem hi
          have hlen : q < rs[i].length := by rw [hrow _ _ hr]; exact hq
          have hx : rs[i][q]? = some rs[i][q] := List.getElem?_eq_getElem hlen
          have hfl := hflat _ (List.getElem_mem hi) _ (List.getElem_mem hlen)
          have hgd : rs.getD i [] = rs[i] := by simp [List.getD, hr]
          exact ⟨rs[i][q], by rw [hgd]; exact hx, hu _ _ _ _ hr hx, hfl, Own.flat (how _ _ _ _ hr hx) hfl⟩
        have hel : ∀ i, i < rs.length → ∃ a : El sz typed, a.row = rs.getD i [] ∧ (∀ q, q < sz → a.val[q]? = some (u i q)) ∧ (∀ (q : Nat) x v, a.row[q]? = some x → a.val[q]? = some v → x.flat ∧ Rd w D x v) := fun i hi => by
          have hr : rs[i]? = some rs[i] := List.getElem?_eq_getElem hi
          have hgd : rs.getD i [] = rs[i] := by simp [List.getD, hr]
          have hlen : rs[i].length = sz := hrow _ _ hr
          have hval : ∀ q, q < sz → ((List.range sz).map (u i))[q]? = some (u i q) := fun q hq => by rw [List.getElem?_map, List.getElem?_range hq]; rfl
          have hrd : ∀ (q : Nat) x v, rs[i][q]? = some x → ((List.range sz).map (u i))[q]? = some v → x.flat ∧ Rd w D x v := fun q x v hx hv => by
            have hq : q < sz := by rw [← hlen]; exact (List.getElem?_eq_some_iff.1 hx).1
            obtain ⟨x', e1, _, e3, e4⟩ := cell i q hi hq
            rw [hgd, hx] at e1
            cases e1
            rw [hval q hq] at hv
            cases hv
            exact ⟨e3, e4⟩
          refine ⟨⟨rs[i], (List.range sz).map (u i), hlen, by simp, fun v hv => ?_, hty _ (List.getElem_mem hi) w D _ (by simp [hlen]) fun j x v hx hv => (hrd j x v hx hv).2⟩, hgd.symm, hval, hrd⟩
          obtain ⟨q, hq, rfl⟩ := List.mem_map.1 hv
          have hq := List.mem_range.1 hq
          have hx : rs[i][q]? = some (rs[i][q]'(by omega)) := List.getElem?_eq_getElem (by omega)
          exact (how _ _ _ _ hr hx).one
        obtain ⟨dl, hdl, hd⟩ := list_choice rs.length hel
        rcases Nat.eq_zero_or_pos rs.length with h0 | hpos
        · have hrs : rs = [] := List.length_eq_zero_iff.1 h0
          subst hrs
          refine (raw.nil w (some ⟨b', 0, none⟩) cap).mono ?_
          rintro e' w' ⟨rfl, rfl⟩
          refine ⟨_, .tup [], [(9000, .rows sz [])], col, rfl, ⟨rfl, [], List.Perm.refl _, fun i j hi hj => absurd hj (Nat.not_lt_zero j), rfl⟩, rfl, rfl, rfl, Nat.le_refl _, Nat.le_refl _, fun b1 hb1 h8 _ => rfl, fun k b1 hk1 => rfl, fun b1 p hp => ⟨(hh.colb b1 p hp).1, .inr (.inr ⟨p, hp⟩)⟩, hh.sep, ⟨rfl, ⟨rfl, rfl⟩, trivial⟩, fun k b1k hk1 => ?_, ⟨[], rfl, trivial⟩⟩
          have h9 : k = 9000 ∧ b1k = Blk.rows sz [] := by
            simp only [hget] at hk1
            split at hk1
            · rename_i e9; exact ⟨e9.symm, (Option.some.inj hk1).symm⟩
            · cases hk1
          obtain ⟨rfl, rfl⟩ := h9
          exact ⟨(fun i r hr => by simp at hr), .inl ⟨b', cells, e, fr, u, hb, hc', hf, hsz2, (fun i r j x hr => by simp at hr), (fun i r j x hr => by simp at hr)⟩⟩
        · have inh : Inhabited (El sz typed) := ⟨dl[0]'(by omega)⟩
          have hsz' : dl.toArray.size = rs.length := by simp [hdl]
          have hH : HoldsK El.val sz w b' 0 dl.toArray := by
            intro t ht
            rw [size_flatK, hsz'] at ht
            have hdiv : t / sz < rs.length := by rw [Nat.div_lt_iff_lt_mul hsz]; exact ht
            have hmod : t % sz < sz := Nat.mod_lt _ hsz
            obtain ⟨x, e1, e2, e3, e4⟩ := cell (t / sz) (t % sz) hdiv hmod
            have hdt := hd (t / sz) (by omega)
            have hg : (dl.toArray[t / sz]!).val[t % sz]! = u (t / sz) (t % sz) := by
              rw [get!_list _ _ (by omega)]
              have := hdt.2.1 (t % sz) hmod
              simp [this]
            rw [Nat.mul_comm, Nat.div_add_mod] at e2
            have ht2 : t < cells.size := (Array.getElem?_eq_some_iff.1 e2).1
            refine ⟨?_, ?_⟩
            · rw [get_flatK _ _ _ _ (by rw [hsz']; exact ht)]
              simp only [World.cell?, hc', Option.isSome_none, Bool.false_eq_true, if_false, Nat.zero_add, id]
              rw [e2]
              congr 1
              exact hg.symm
            · simp only [World.frozen?, hc', Nat.zero_add]
              unfold frOk at hf
              by_cases hlt : fr.1 < fr.2
              · have := hf hlt
                simp; omega
              · simp; omega
          have hraw := raw.row w b' cap dl.toArray hH hbl (by rw [hsz']; exact hl)
          rw [hsz'] at hraw
          refine hraw.mono ?_
          rintro e' w' ⟨rfl, d', n, os, hp, hs, rfl⟩
          obtain ⟨p1, _, p3⟩ := hp
          obtain ⟨hother, hsame⟩ := sortWorld_block El.val sz w b' n d' os hbl
          obtain ⟨cells', hcs', hc2⟩ := hsame cells e fr hc'
          have p4 : d'.toList.Perm dl := by
            have e1 : (d'.extract 0 rs.length).toList = d'.toList := by rw [show rs.length = d'.size by omega]; simp
            have e2 : (dl.toArray.extract 0 rs.length).toList = dl := by rw [show rs.length = dl.toArray.size by omega]; simp
            rwa [e1, e2] at p3
          have hmap : dl.map El.row = rs := by
            apply List.ext_getElem (by simp [hdl])
            intro i hi1 hi2
            have := (hd i (by simpa using hi1)).1
            simp [List.getElem_map, this, List.getD, hi2]
          have hgood : ∀ a ∈ d'.toList, ∀ (q : Nat) x v, a.row[q]? = some x → a.val[q]? = some v → x.flat ∧ Rd w D x v := fun a ha => by
            obtain ⟨i, hi, rfl⟩ := List.mem_iff_getElem.1 (p4.mem_iff.1 ha)
            exact (hd i hi).2.2
          have hsz3 : d'.size = rs.length := by omega
          have hW : (sortWorldK El.val sz w b' 0 n d' os).heap.size = w.heap.size + os.size := by
            show ((w.heap.modify b' _) ++ os).size = _
            simp
          have hHold := holdsK_sortWorldK_c El.val sz w b' 0 dl.toArray d' n os hH hbl (by omega)
          have blk' : ∀ b1, D b1 → (sortWorldK El.val sz w b' 0 n d' os).heap[b1]? = w.heap[b1]? := fun b1 h1 => by
            obtain ⟨d1, d2, d3⟩ := hh.dis b1 h1
            exact hother b1 d1 (fun h => d3 9000 (by rw [h]; exact hb))
          refine ⟨_, .tup [], [(9000, .rows sz (d'.toList.map El.row))], col, rfl, ⟨rfl, d'.toList.map El.row, ?_, ?_, rfl⟩, rfl, rfl, rfl, Nat.le_add_right _ _, by rw [hW]; omega, fun b1 hb1 h8 _ => hother b1 hb1 (fun h => h8 9000 (by rw [h]; exact hb)), fun k b1 hk1 => ?_, fun b1 p hp => ⟨by rw [hW]; have := (hh.colb b1 p hp).1; omega, .inr (.inr ⟨p, hp⟩)⟩, hh.sep, ⟨rfl, ⟨rfl, by simp [hsz3]⟩, trivial⟩, fun k b1k hk1 => ?_, ⟨[], rfl, trivial⟩⟩
          · have := p4.map El.row
            rwa [hmap] at this
          · intro i j hij hj
            have hj' : j < d'.size := by simpa using hj
            have := hs i j (Nat.zero_le _) hij (by omega)
            rw [getElem!_pos d' i (by omega), getElem!_pos d' j hj'] at this
            simpa [ltOf] using this
          · obtain rfl := only k b1 hk1
            have : b1 = b' := by
              have q2 : ρ 9000 = some b' := hb
              rw [q2] at hk1; exact (Option.some.inj hk1).symm
            subst this
            unfold World.shape?
            rw [hc2, hc']
            simp [hcs']
          · have h9 : k = 9000 ∧ b1k = Blk.rows sz (d'.toList.map El.row) := by
              simp only [hget] at hk1
              split at hk1
              · rename_i e9; exact ⟨e9.symm, (Option.some.inj hk1).symm⟩
              · cases hk1
            obtain ⟨rfl, rfl⟩ := h9
            have getr : ∀ (k : Nat) (r : List T), (d'.toList.map El.row)[k]? = some r → ∃ h : k < d'.size, r = d'[k].row := fun k r hr => by
              obtain ⟨h1, h2⟩ := List.getElem?_eq_some_iff.1 hr
              have h1' : k < d'.size := by simpa using h1
              exact ⟨h1', by rw [← h2]; simp⟩
            refine ⟨fun k r hr => ?_, .inl ⟨b', cells', e, fr, fun k q => (d'[k]!).val[q]!, hb, hc2, by rw [hcs']; exact hf, by simp only [List.length_map, Array.length_toList, hsz3, hcs']; exact hsize, fun k r q x hr hx => ?_, fun k r q x hr hx => ?_⟩⟩
            · obtain ⟨h1, rfl⟩ := getr k r hr
              exact d'[k].rl
            · obtain ⟨h1, rfl⟩ := getr k r hr
              have hq : q < sz := by rw [← d'[k].rl]; exact (List.getElem?_eq_some_iff.1 hx).1
              obtain ⟨c1, _⟩ := HoldsK.cell hHold h1 hq
              simp only [World.cell?, hc2, Option.isSome_none, Bool.false_eq_true, if_false, Nat.zero_add] at c1
              exact c1
            · obtain ⟨h1, rfl⟩ := getr k r hr
              have hq : q < sz := by rw [← d'[k].rl]; exact (List.getElem?_eq_some_iff.1 hx).1
              have hvq : d'[k].val[q]? = some ((d'[k]!).val[q]!) := by
                rw [getElem!_pos d' k h1, getElem!_pos _ q (by rw [d'[k].vl]; exact hq)]
                exact List.getElem?_eq_getElem _
              obtain ⟨hfl, hrd⟩ := hgood d'[k] (by simp) q x _ hx hvq
              exact .rd _ _ _ hfl (hrd.mono blk' fun b1 h1 => by
                obtain ⟨d1, d2, d3⟩ := hh.dis b1 h1
                exact ⟨by show b1 < (sortWorldK El.val sz w b' 0 n d' os).heap.size; rw [hW]; omega, .inl h1, d2, d3⟩)
      · have q1 : ρ 9000 = none := hn
        have q2 : ρ 9000 = some b := hb
        rw [q2] at q1; cases q1
    · refine (raw.nil w a 0).mono ?_
      rintro e' w' ⟨rfl, rfl⟩
      refine ⟨_, .tup [], [(9000, .rows sz [])], col, rfl, ⟨rfl, [], List.Perm.refl _, fun i j hi hj => absurd hj (Nat.not_lt_zero j), rfl⟩, rfl, rfl, rfl, Nat.le_refl _, Nat.le_refl _, fun b1 hb1 h8 _ => rfl, fun k b1 hk1 => rfl, fun b1 p hp => ⟨(hh.colb b1 p hp).1, .inr (.inr ⟨p, hp⟩)⟩, hh.sep, ⟨rfl, ⟨rfl, rfl⟩, trivial⟩, fun k b1k hk1 => ?_, ⟨[], rfl, trivial⟩⟩
      have h9 : k = 9000 ∧ b1k = Blk.rows sz [] := by
        simp only [hget] at hk1
        split at hk1
        · rename_i e9; exact ⟨e9.symm, (Option.some.inj hk1).symm⟩
        · cases hk1
      obtain ⟨rfl, rfl⟩ := h9
      rcases hrest with ⟨b', cells, e, fr, u, hb', hc, hf, hsz2, hu, how⟩ | ⟨_, hn⟩
      · exact ⟨(fun i r hr => by simp at hr), .inl ⟨b', cells, e, fr, u, hb', hc, hf, hsz2, (fun i r j x hr => by simp at hr), (fun i r j x hr => by simp at hr)⟩⟩
      · exact ⟨(fun i r hr => by simp at hr), .inr ⟨rfl, hn⟩⟩
theorem SpecO.mono {P : Program} {f : FuncId} {args : List AV} {hp : Hp} {Q Q' : AV → Hp → Prop} (h : SpecO P f args hp Q) (hq : ∀ r h, Q r h → Q' r h) : SpecO P f args hp Q' :=
  fun w D ρ col vs hh hv => (h w D ρ col vs hh hv).mono fun e w' ⟨v, r, hp', col', he, hr, ho⟩ => ⟨v, r, hp', col', he, hq _ _ hr, ho⟩
theorem perm_rows {α : Type} {row : α → List T} {of : List T → α} (h : ∀ x, of (row x) = x) {rs : List (List T)} {l : List α} (p : rs.Perm (l.map row)) : (rs.map of).Perm l ∧ (rs.map of).map row = rs := by
  refine ⟨?_, ?_⟩
  · have := p.map of
    rw [List.map_map] at this
    have e : l.map (of ∘ row) = l := by
      have : l.map (of ∘ row) = l.map id := List.map_congr_left fun x _ => h x
      rw [this, List.map_id]
    rwa [e] at this
  · rw [List.map_map]
    have : rs.map (row ∘ of) = rs.map id := List.map_congr_left fun r hr => by
      obtain ⟨x, _, rfl⟩ := List.mem_map.1 (p.mem_iff.1 hr)
      simp [h]
    rw [this, List.map_id]
theorem WStep.grown {w w' : World} (h : WStep w w' none) : ∃ q os', w' = grow (w.drewN q) os' := by
  refine ⟨w'.drawn - w.drawn, w'.heap.extract w.heap.size w'.heap.size, ?_⟩
  have hsz := h.size
  have hd := h.drawn
  have e1 : w'.heap = w.heap ++ w'.heap.extract w.heap.size w'.heap.size := by
    apply Array.ext_getElem?
    intro i
    by_cases hi : i < w.heap.size
    · rw [Array.getElem?_append_left hi]; exact h.block i hi (by simp)
    · rw [Array.getElem?_append_right (by omega), Array.getElem?_extract]
      by_cases h2 : i < w'.heap.size
      · rw [if_pos (by omega)]; congr 1; omega
      · rw [if_neg (by omega), Array.getElem?_eq_none (by omega)]
  have e2 : w'.drawn = w.drawn + (w'.drawn - w.drawn) := by omega
  cases w'
  cases w
  simp only [grow, World.drewN] at *
  obtain rfl := h.os
  obtain rfl := h.tape
  obtain rfl := h.output
  simp only [World.mk.injEq, true_and, and_true]
  exact ⟨e1, e2⟩
theorem RawSort.of {P : Program} {ρ : Go.Shelf.Ren} (L : SlLaysF0.n6 P ρ) {g : FuncId} {sz : Nat} {typed : List T → List Value → Prop} {cf : List T → List T → Int} (aE : ∀ w, (isAgg (ρ.t 24)).run P w = .ok true w) (zE : ∀ w, (Go.sizeOf (ρ.t 24)).run P w = .ok sz w)
    (eg : ∀ args w, (callFunc g args).run P w = .ok (.enter g args) w) {avs : List T → List AV} (hav : ∀ row val, typed row val → ∀ c, AVr.AVrs c (avs row) val)
    (sp : ∀ x y : El sz typed, Spec P g [.agg (avs x.row), .agg (avs y.row)] (fun r => r = I (cf x.row y.row))) (hO : SWO (ltOf fun x y : El sz typed => cf x.row y.row)) : RawSort P (ρ.f 6) g sz typed cf where
  nil := fun w a cap => AnyF.slices_SortFunc_none L a cap _ w
  row := fun w b cap d hH hb hs => by
    refine AnyQ.slices_SortFunc L sz aE zE El.val (fun x => x.vl) (fun x => x.one) (fun x y : El sz typed => cf x.row y.row) hO g #[] b 0 cap d w eg ?_ hH hb hs
    intro m os dk _ x y
    have hsp := sp x y (sortWorldK El.val sz w b 0 m dk os) (fun _ => False) [.agg x.val.toArray, .agg y.val.toArray] (fun _ h => h.elim) ⟨⟨x.val, rfl, hav _ _ x.ty _⟩, ⟨y.val, rfl, hav _ _ y.ty _⟩, trivial⟩
    simp only [Array.append_empty]
    refine Calls.mono hsp ?_
    rintro e w' ⟨v, r, rfl, rfl, hw, col, _, hr⟩
    have hv : v = .int .i64 (cf x.row y.row) := by
      have hr : Rd _ _ _ _ := hr
      cases hr
      rfl
    exact ⟨by rw [hv], hw.grown⟩
end Go.Proofs.Ythbhnjcnbnlidaa.Am
namespace Go.Proofs.Ythbhnjcnbnlidaa.Am
open Go Go.Sort
set_option maxRecDepth 1000000
set_option maxHeartbeats 1000000
set_option linter.unusedSimpArgs false
set_option linter.unusedVariables false
def laySc_ren : Go.Shelf.Ren := ⟨fun | 6 => 70 | 15 => 91 | 14 => 90 | 28 => 123 | 29 => 124 | 20 => 115 | 21 => 116 | 22 => 117 | 23 => 118 | 24 => 119 | 25 => 120 | 26 => 121 | 27 => 122 | 46 => 132 | 47 => 133 | 48 => 134 | 49 => 135 | 50 => 136 | 57 => 137 | n => n, fun | 22 => 36 | 24 => 61 | 25 => 97 | 3 => 3 | 39 => 118 | 0 => 0 | 53 => 143 | 55 => 145 | 4 => 4 | 46 => 137 | 45 => 136 | 50 => 68 | 5 => 5 | 9 => 9 | 66 => 152 | 70 => 156 | 76 => 158 | 77 => 159 | n => n, fun n => n⟩
theorem laySc : SlLaysF0.n6 Try.prog laySc_ren := {
  mixed := by kernel_rfl
  f6 := ⟨ "slices.SortFunc[[]loop.example/quincunx/impl.Score,loop.example/quincunx/impl.Score]", of_decide_eq_true (by kernel_rfl), Try.func70.trans (congrArg some (by kernel_rfl))⟩
  f14 := ⟨ "slices.pdqsortCmpFunc[loop.example/quincunx/impl.Score]", of_decide_eq_true (by kernel_rfl), Try.func90.trans (congrArg some (by kernel_rfl))⟩
  f15 := Try.func91.trans (congrArg some (by kernel_rfl))
  f20 := ⟨ "slices.insertionSortCmpFunc[loop.example/quincunx/impl.Score]", of_decide_eq_true (by kernel_rfl), Try.func115.trans (congrArg some (by kernel_rfl))⟩
  f21 := ⟨ "slices.heapSortCmpFunc[loop.example/quincunx/impl.Score]", of_decide_eq_true (by kernel_rfl), Try.func116.trans (congrArg some (by kernel_rfl))⟩
  f22 := ⟨ "slices.breakPatternsCmpFunc[loop.example/quincunx/impl.Score]", of_decide_eq_true (by kernel_rfl), Try.func117.trans (congrArg some (by kernel_rfl))⟩
  f23 := ⟨ "slices.choosePivotCmpFunc[loop.example/quincunx/impl.Score]", of_decide_eq_true (by kernel_rfl), Try.func118.trans (congrArg some (by kernel_rfl))⟩
  f24 := ⟨ "slices.reverseRangeCmpFunc[loop.example/quincunx/impl.Score]", of_decide_eq_true (by kernel_rfl), Try.func119.trans (congrArg some (by kernel_rfl))⟩
  f25 := ⟨ "slices.partialInsertionSortCmpFunc[loop.example/quincunx/impl.Score]", of_decide_eq_true (by kernel_rfl), Try.func120.trans (congrArg some (by kernel_rfl))⟩
  f26 := ⟨ "slices.partitionEqualCmpFunc[loop.example/quincunx/impl.Score]", of_decide_eq_true (by kernel_rfl), Try.func121.trans (congrArg some (by kernel_rfl))⟩
  f27 := ⟨ "slices.partitionCmpFunc[loop.example/quincunx/impl.Score]", of_decide_eq_true (by kernel_rfl), Try.func122.trans (congrArg some (by kernel_rfl))⟩
  f28 := Try.func123.trans (congrArg some (by kernel_rfl))
  f29 := Try.func124.trans (congrArg some (by kernel_rfl))
  f46 := ⟨ "slices.siftDownCmpFunc[loop.example/quincunx/impl.Score]", of_decide_eq_true (by kernel_rfl), Try.func132.trans (congrArg some (by kernel_rfl))⟩
  f47 := Try.func133.trans (congrArg some (by kernel_rfl))
  f48 := Try.func134.trans (congrArg some (by kernel_rfl))
  f49 := ⟨ "slices.medianAdjacentCmpFunc[loop.example/quincunx/impl.Score]", of_decide_eq_true (by kernel_rfl), Try.func135.trans (congrArg some (by kernel_rfl))⟩
  f50 := ⟨ "slices.medianCmpFunc[loop.example/quincunx/impl.Score]", of_decide_eq_true (by kernel_rfl), Try.func136.trans (congrArg some (by kernel_rfl))⟩
  f57 := ⟨ "slices.order2CmpFunc[loop.example/quincunx/impl.Score]", of_decide_eq_true (by kernel_rfl), Try.func137.trans (congrArg some (by kernel_rfl))⟩
  t0 := Try.underlying0
  a0 := Try.isAgg0
  z0 := Try.sizeOf0
  v0 := Try.zeroValue0
  t3 := Try.underlying3
  a3 := Try.isAgg3
  z3 := Try.sizeOf3
  v3 := Try.zeroValue3
  t4 := Try.underlying4
  a4 := Try.isAgg4
  z4 := Try.sizeOf4
  v4 := Try.zeroValue4
  t5 := Try.underlying5
  a5 := Try.isAgg5
  z5 := Try.sizeOf5
  v5 := Try.zeroValue5
  t9 := Try.underlying9
  a9 := Try.isAgg9
  z9 := Try.sizeOf9
  v9 := Try.zeroValue9
  t22 := Try.underlying36
  a22 := Try.isAgg36
  z22 := Try.sizeOf36
  v22 := Try.zeroValue36
  t25 := Try.underlying97
  a25 := Try.isAgg97
  z25 := Try.sizeOf97
  v25 := Try.zeroValue97
  t39 := Try.underlying118
  a39 := Try.isAgg118
  z39 := Try.sizeOf118
  v39 := Try.zeroValue118
  t45 := Try.underlying136
  a45 := Try.isAgg136
  z45 := Try.sizeOf136
  v45 := Try.zeroValue136
  t46 := Try.underlying137
  a46 := Try.isAgg137
  z46 := Try.sizeOf137
  v46 := Try.zeroValue137
  t50 := Try.underlying68
  a50 := Try.isAgg68
  z50 := Try.sizeOf68
  v50 := Try.zeroValue68
  t53 := Try.underlying143
  a53 := Try.isAgg143
  z53 := Try.sizeOf143
  v53 := Try.zeroValue143
  t55 := Try.underlying145
  a55 := Try.isAgg145
  z55 := Try.sizeOf145
  v55 := Try.zeroValue145
  t66 := Try.underlying152
  a66 := Try.isAgg152
  z66 := Try.sizeOf152
  v66 := Try.zeroValue152
  t70 := Try.underlying156
  a70 := Try.isAgg156
  z70 := Try.sizeOf156
  v70 := Try.zeroValue156
  t76 := Try.underlying158
  a76 := Try.isAgg158
  z76 := Try.sizeOf158
  v76 := Try.zeroValue158
  t77 := Try.underlying159
  a77 := Try.isAgg159
  z77 := Try.sizeOf159
  v77 := Try.zeroValue159
}
def scOrd (x y : Sc) : Int := if cmpM x.num y.num = 0 then cmpS x.text y.text else cmpM x.num y.num
theorem p_scoreOrder : Plain Try.prog 71 := ⟨_, Try.func71, rfl, by decide⟩
theorem s_scoreOrder (x y : Sc) : Spec Try.prog 71 [x.av, y.av] (fun r => r = I (scOrd x y)) := by
  refine Spec.of tysOk mixed Try.func71 rfl (by decide) ?_
  simp -implicitDefEqProofs only [go_sem, Try.f71]
  refine RegD_of sch_71_1 tysOk (by kernel_rfl) ?_
  simp -implicitDefEqProofs only [go_sem]
  refine .one (s_compare _ _) p_compare rfl trivial ?_
  simp -implicitDefEqProofs only [go_sem]
  refine .one (s_compareS _ _) p_compareS rfl trivial ?_
  simp -implicitDefEqProofs only [go_sem]
  refine .one (s_or [cmpM x.num y.num, cmpS x.text y.text] (by simp)) p_or rfl trivial ?_
  simp -implicitDefEqProofs only [go_sem]
  rw [find2]; rfl
def scLt (x y : Sc) : Bool := decide (x.num < y.num) || (decide (x.num = y.num) && bytesLt x.text y.text)
theorem scOrd_lt (x y : Sc) : decide (scOrd x y < 0) = scLt x y := by
  unfold scOrd scLt cmpM
  by_cases h1 : x.num < y.num
  · simp [h1]
  · by_cases h2 : y.num < x.num
    · have : ¬ x.num = y.num := by omega
      simp [h1, h2, this]
    · have : x.num = y.num := by omega
      simp [this, cmpS_lt]
theorem scLt_irrefl (x : Sc) : scLt x x = false := by simp [scLt, bytesLt_irrefl]
theorem scLt_trans {x y z : Sc} (h : scLt x y = true) (h' : scLt y z = true) : scLt x z = true := by
  simp only [scLt, Bool.or_eq_true, Bool.and_eq_true, decide_eq_true_eq] at *
  rcases h with h | ⟨h, g⟩ <;> rcases h' with h' | ⟨h', g'⟩
  · left; omega
  · left; omega
  · left; omega
  · right; exact ⟨by omega, bytesLt_trans g g'⟩
theorem scLt_total {x y : Sc} (h : scLt x y = false) (h' : scLt y x = false) : x = y := by
  have n1 : ¬ scLt x y = true := by simp [h]
  have n2 : ¬ scLt y x = true := by simp [h']
  simp only [scLt, Bool.or_eq_true, Bool.and_eq_true, decide_eq_true_eq, not_or, not_and] at n1 n2
  have hn : x.num = y.num := by omega
  have b1 : bytesLt x.text y.text = false := by simpa using n1.2 hn
  have b2 : bytesLt y.text x.text = false := by simpa using n2.2 hn.symm
  ext1
  · apply Classical.byContradiction
    intro hne
    rw [bytesLt_total hne b1] at b2; cases b2
  · exact hn
def tySc (r : List T) (v : List Value) : Prop := ∃ x : Sc, r = x.row ∧ v = [.string x.text, .int .i64 x.num]
def ofSc : List T → Sc
  | [.str a, .int _ n] => ⟨a, n⟩
  | _ => ⟨⟨#[]⟩, 0⟩
def avSc : List T → List AV := fun r => [.t (.str (ofSc r).text), I (ofSc r).num]
theorem swo_sc : SWO (ltOf fun x y : El 2 tySc => scOrd (ofSc x.row) (ofSc y.row)) := by
  have e : ∀ x y : El 2 tySc, ltOf (fun x y : El 2 tySc => scOrd (ofSc x.row) (ofSc y.row)) x y = scLt (ofSc x.row) (ofSc y.row) := fun x y => scOrd_lt _ _
  refine ⟨fun x => ?_, fun x y z h h' => ?_, fun x y z h h' => ?_⟩
  · rw [e]; exact scLt_irrefl _
  · rw [e] at *; exact scLt_trans h h'
  · rw [e] at *
    cases h3 : scLt (ofSc x.row) (ofSc z.row)
    · rfl
    · cases h1 : scLt (ofSc y.row) (ofSc x.row)
      · have := scLt_total h h1
        rw [this, h'] at h3; cases h3
      · rw [scLt_trans h1 h3] at h'; cases h'
theorem rawSort_Sc : RawSort Try.prog 70 71 2 tySc (fun r s => scOrd (ofSc r) (ofSc s)) :=
  RawSort.of laySc Try.isAgg61 Try.sizeOf61 (enters_of Try.func71 (by kernel_rfl) rfl) (avs := avSc)
    (fun row val h c => by obtain ⟨x, rfl, rfl⟩ := h; exact ⟨.str _, .int _ _, trivial⟩)
    (fun x y => s_scoreOrder (ofSc x.row) (ofSc y.row)) swo_sc
theorem p_sortSc : Plain Try.prog 70 := ⟨_, Try.func70, rfl, by decide⟩
theorem s_sortSc (l : List Sc) (hl : l.length < 4611686018427387904) : SpecO Try.prog 70 [.refw 9000, .fn 71 []] [(9000, .rows 2 (l.map Sc.row))] (fun r h => r = .tup [] ∧ ∃ l' : List Sc, l'.Perm l ∧ l'.Pairwise (fun x y => scLt y x = false) ∧ h = [(9000, .rows 2 (l'.map Sc.row))]) := by
  have h := SpecO_sort rawSort_Sc (by omega) (rs := l.map Sc.row) (by simpa using hl) (by
    intro r hr x hx
    obtain ⟨y, _, rfl⟩ := List.mem_map.1 hr
    simp only [Sc.row, List.mem_cons, List.not_mem_nil, or_false] at hx
    rcases hx with rfl | rfl <;> trivial) (by
    intro r hr w D vs hlen hrd
    obtain ⟨y, _, rfl⟩ := List.mem_map.1 hr
    match vs, hlen with
    | [v0, v1], _ =>
      have h0 := hrd 0 _ _ rfl rfl
      have h1 := hrd 1 _ _ rfl rfl
      cases h0
      cases h1
      exact ⟨y, rfl, rfl⟩)
  refine SpecO.mono h fun r h ⟨hr, rs', hp, hs, hh⟩ => ⟨hr, rs'.map ofSc, ?_⟩
  obtain ⟨p1, p2⟩ := perm_rows (of := ofSc) (fun x => rfl) hp
  refine ⟨p1, ?_, by rw [p2]; exact hh⟩
  rw [List.pairwise_iff_getElem]
  intro i j hi hj hij
  have := hs i j hij (by simpa using hj)
  rw [← decide_eq_false_iff_not, scOrd_lt] at this
  simpa using this
end Go.Proofs.Ythbhnjcnbnlidaa.Am
namespace Go.Proofs.Ythbhnjcnbnlidaa.Am
open Go
set_option maxRecDepth 100000
set_option linter.unusedSimpArgs false
set_option linter.unusedVariables false
theorem p_l1In : Plain Try.prog 60 := ⟨_, Try.func60, rfl, by decide⟩
theorem s_l1In (n lo hi : Int) : Spec Try.prog 60 [I n, I lo, I hi] (fun r => r = Bo (withinM n lo hi)) := by
  refine Spec.of tysOk mixed Try.func60 rfl (by decide) ?_
  simp -implicitDefEqProofs only [go_sem, Try.f60]
  refine BrA_i (fun h => ?_) (fun h => ?_) <;> simp -implicitDefEqProofs only [go_sem] <;> simp_all [withinM] <;> omega
end Go.Proofs.Ythbhnjcnbnlidaa.Am
namespace Go.Proofs.Ythbhnjcnbnlidaa.Am
open Go
set_option maxRecDepth 100000
set_option maxHeartbeats 1000000
set_option linter.unusedSimpArgs false
set_option linter.unusedVariables false
theorem p_position : Plain Try.prog 83 := ⟨_, Try.func83, rfl, by decide⟩
theorem s_position (n : Int) : Spec Try.prog 83 [I n] (fun r => r = Bo (withinM n (-1000000000) 1000000000)) := by
  refine Spec.of tysOk mixed Try.func83 rfl (by decide) ?_
  simp -implicitDefEqProofs only [go_sem, Try.f83]
  refine CallW.one (s_within n (-1000000000) 1000000000) p_within (by first | (simp -implicitDefEqProofs only [go_sem]; done) | ((conv => lhs; simp -implicitDefEqProofs only [go_sem]); done) | (simp -implicitDefEqProofs only [go_sem]; rfl) | rfl) (by first | trivial | (simp [DeepR, DeepV, DeepVs, DeepC, DeepCs, T.scal]; done)) ?_
  simp -implicitDefEqProofs only [go_sem]
def scIx (l : List Sc) (t : ByteArray) : Option Nat := l.findIdx? fun y => decide (y.text = t)
def ixN : Option Nat → Int
  | none => -1
  | some n => n
theorem scIx_some {l : List Sc} {t : ByteArray} {i : Nat} (h : i < l.length) (hn : l[i].text = t) (hj : ∀ j (h : j < l.length), j < i → l[j].text ≠ t) : scIx l t = some i :=
  List.findIdx?_eq_some_iff_getElem.2 ⟨h, by simp [hn], fun j hji => by simpa using hj j (by omega) hji⟩
theorem scIx_none {l : List Sc} {t : ByteArray} (hj : ∀ j (h : j < l.length), l[j].text ≠ t) : scIx l t = none :=
  List.findIdx?_eq_none_iff.2 fun y hy => by
    obtain ⟨j, h, rfl⟩ := List.mem_iff_getElem.1 hy
    simpa using hj j h
theorem scIx_at {l : List Sc} {t : ByteArray} {i : Nat} (h : scIx l t = some i) : ∃ hh : i < l.length, l[i].text = t ∧ ∀ j (h : j < l.length), j < i → l[j].text ≠ t := by
  obtain ⟨hh, h1, h2⟩ := List.findIdx?_eq_some_iff_getElem.1 h
  exact ⟨hh, by simpa using h1, fun j hj hji => by simpa using h2 j hji⟩
theorem p_scoreFn : Plain Try.prog 85 := ⟨_, Try.func85, rfl, by decide⟩
theorem s_scoreFn (y : Sc) (t : ByteArray) : Spec Try.prog 85 [y.av, .rop false [.str t] 0] (fun r => r = Bo (decide (y.text = t))) := by
  refine Spec.of tysOk mixed Try.func85 rfl (by decide) ?_
  simp -implicitDefEqProofs only [go_sem, Try.f85]
theorem p_IndexScore : Plain Try.prog 84 := ⟨_, Try.func84, rfl, by decide⟩
theorem s_IndexScore (l : List Sc) (t : ByteArray) (hs : l.length ≤ 1099511627776) : Spec Try.prog 84 [.t (.list false 2 (l.map Sc.row)), .fn 85 [.rop false [.str t] 0]] (fun r => r = I (ixN (scIx l t))) := by
  refine Spec.of tysOk mixed Try.func84 rfl (by decide) ?_
  simp -implicitDefEqProofs only [go_sem, Try.f84]
  refine LoopW.slotsM [true, true, false, false, false, false, false, true, true, false, false, false, false, false, false, false, false, false, false] (α := Nat) (fun i => [(8, I i)]) (fun i => []) (fun i => l.length - i) (fun i => i ≤ l.length ∧ ∀ j (h : j < l.length), j < i → l[j].text ≠ t) 0 (by simp -implicitDefEqProofs only [go_sem, LeTs_undef, LeTs_same, LeTs_nil]; try simp [LeTs]) rfl ⟨by omega, fun _ _ h => by omega⟩ ?_
  rintro i ⟨hi, hj⟩
  simp -implicitDefEqProofs only [go_sem]
  refine BrA_i (fun h => ?_) (fun h => ?_) <;> simp -implicitDefEqProofs only [go_sem]
  · skip
    have h : i < l.length := by simp at h; omega
    have h0i : (0 : Int) ≤ i := by omega
    have h1i : (i : Int) < l.length := by omega
    have wi : IntKind.i64.wrap ((i : Int) + 1) = ((i + 1 : Nat) : Int) := by rw [wrap64 (by omega) (by omega)]; omega
    have hr := row_getD Sc.row l h
    simp only [Sc.row] at hr
    simp -implicitDefEqProofs only [go_sem, h, h0i, h1i, hr, wi]
    refine CallW.one (s_scoreFn l[i] t) p_scoreFn (by first | (simp -implicitDefEqProofs only [go_sem]; done) | ((conv => lhs; simp -implicitDefEqProofs only [go_sem]); done) | (simp -implicitDefEqProofs only [go_sem]; rfl) | rfl) (by first | trivial | (simp [DeepR, DeepV, DeepVs, DeepC, DeepCs, T.scal]; done)) ?_
    simp -implicitDefEqProofs only [go_sem]
    refine BrA_i (fun h2 => ?_) (fun h2 => ?_) <;> (try simp only [decide_eq_true_eq, decide_eq_false_iff_not] at h2) <;> simp -implicitDefEqProofs only [go_sem, h, h0i, h1i, wi]
    · rw [scIx_some h h2 (fun j hj2 => hj j hj2)]; rfl
    · refine .to [129, 130, 131] (i + 1) rfl ?_ ?_ (by omega) ⟨by omega, fun j hj2 hj3 => by
        by_cases hji : j < i
        · exact hj j hj2 hji
        · obtain rfl : j = i := by omega
          exact h2⟩ <;> simp -implicitDefEqProofs only [go_sem, LeTs_undef, LeTs_same, LeTs_nil, wi]
  · have h : i = l.length := by simp at h; omega
    subst h
    rw [scIx_none (fun j h => hj j h h)]
    rfl
theorem p_scoreAt : Plain Try.prog 63 := ⟨_, Try.func63, rfl, by decide⟩
theorem s_scoreAt (l : List Sc) (t : ByteArray) (hs : l.length ≤ 1099511627776) : Spec Try.prog 63 [.t (.list false 2 (l.map Sc.row)), .t (.str t)] (fun r => r = I (ixN (scIx l t))) := by
  refine Spec.of tysOk mixed Try.func63 rfl (by decide) ?_
  simp -implicitDefEqProofs only [go_sem, Try.f63]
  refine CallW.one (s_IndexScore l t hs) p_IndexScore (by first | (simp -implicitDefEqProofs only [go_sem]; done) | ((conv => lhs; simp -implicitDefEqProofs only [go_sem]); done) | (simp -implicitDefEqProofs only [go_sem]; rfl) | rfl) (by first | trivial | (simp [DeepR, DeepV, DeepVs, DeepC, DeepCs, T.scal]; done)) ?_
  simp -implicitDefEqProofs only [go_sem]
def scGood (x : Sc) : Bool := decide (x.text.size ≤ 40) && withinM x.num (-1000000000) 1000000000
def okAll (g : Nat → Bool) (n : Nat) : Bool := (List.range n).all g
theorem okAll_no {g : Nat → Bool} {n i : Nat} (h : i < n) (hg : g i = false) : okAll g n = false := by
  cases ho : okAll g n
  · rfl
  · have := List.all_eq_true.1 ho i (List.mem_range.2 h)
    rw [hg] at this; cases this
theorem okAll_yes {g : Nat → Bool} {n : Nat} : okAll g n = true ↔ ∀ i, i < n → g i = true := by
  unfold okAll
  rw [List.all_eq_true]
  exact ⟨fun h i hi => h i (List.mem_range.2 hi), fun h i hi => h i (List.mem_range.1 hi)⟩
def scAt (l : List Sc) (i : Nat) : Bool := match l[i]? with
  | none => true
  | some x => scGood x && (decide (i = 0) || (match l[i - 1]? with | none => true | some y => scLt y x)) && decide (scIx l x.text = some i)
theorem scAt_eq (l : List Sc) {i : Nat} (h : i < l.length) : scAt l i = (scGood l[i] && (decide (i = 0) || scLt (l[i - 1]'(by omega)) l[i]) && decide (scIx l l[i].text = some i)) := by
  have h' : i - 1 < l.length := by omega
  simp [scAt, h, h']
def scoresOkM (l : List Sc) : Bool := okAll (scAt l) l.length && decide (l.length ≤ 16)
theorem p_ScoresOk : Plain Try.prog 62 := ⟨_, Try.func62, rfl, by decide⟩
theorem s_ScoresOk (l : List Sc) (hs : l.length ≤ 1099511627776) : Spec Try.prog 62 [.t (.list false 2 (l.map Sc.row))] (fun r => r = Bo (scoresOkM l)) := by
  refine Spec.of tysOk mixed Try.func62 rfl (by decide) ?_
  simp -implicitDefEqProofs only [go_sem, Try.f62]
  refine LoopW.slotsM [true, false, false, false, false, true, true, true, false, false, false, false, false, false, false, false, false, false, false, false, false, false, false, false, false, false, false, false, false, false, false, false, false, false, false, false, false, false, false, false, false, false, false, false, false, false, false, false] (α := Nat) (fun i => [(7, I i)]) (fun i => []) (fun i => l.length - i) (fun i => i ≤ l.length ∧ ∀ j, j < i → scAt l j = true) 0 (by simp -implicitDefEqProofs only [go_sem, LeTs_undef, LeTs_same, LeTs_nil]; try simp [LeTs]) rfl ⟨by omega, fun _ h => by omega⟩ ?_
  rintro i ⟨hi, hz⟩
  simp -implicitDefEqProofs only [go_sem]
  refine BrA_i (fun h => ?_) (fun h => ?_) <;> simp -implicitDefEqProofs only [go_sem]
  · skip
    have h : i < l.length := by simp at h; omega
    have h0i : (0 : Int) ≤ i := by omega
    have h1i : (i : Int) < l.length := by omega
    have wi : IntKind.i64.wrap ((i : Int) + 1) = ((i + 1 : Nat) : Int) := by rw [wrap64 (by omega) (by omega)]; omega
    have hr := row_getD Sc.row l h
    simp only [Sc.row] at hr
    have bad : scAt l i = false → AV.t (T.bool false) = Bo (scoresOkM l) := fun hg => by
      unfold scoresOkM; rw [okAll_no h hg]; rfl
    have e := scAt_eq l h
    simp -implicitDefEqProofs only [go_sem, h, h0i, h1i, hr, wi]
    refine RegD_of sch_62_4 tysOk (by kernel_rfl) ?_
    simp -implicitDefEqProofs only [go_sem]
    refine BrA_i (fun g1 => ?_) (fun g1 => ?_) <;> simp -implicitDefEqProofs only [go_sem]
    · exact bad (by rw [e]; simp [scGood] at g1 ⊢; intro h1; omega)
    refine CallW.one (s_position l[i].num) p_position (by first | (simp -implicitDefEqProofs only [go_sem]; done) | ((conv => lhs; simp -implicitDefEqProofs only [go_sem]); done) | (simp -implicitDefEqProofs only [go_sem]; rfl) | rfl) (by first | trivial | (simp [DeepR, DeepV, DeepVs, DeepC, DeepCs, T.scal]; done)) ?_
    cases g2 : withinM l[i].num (-1000000000) 1000000000
    · simp -implicitDefEqProofs only [go_sem, g2]
      exact bad (by rw [e]; simp [scGood, g2])
    simp -implicitDefEqProofs only [go_sem, g2]
    have hg : scGood l[i] = true := by simp at g1; simp [scGood, g2]; omega
    refine BrA_i (fun g3 => ?_) (fun g3 => ?_) <;> simp -implicitDefEqProofs only [go_sem]
    · have g3 : 0 < i := by simpa using g3
      have hq : i - 1 < l.length := by omega
      have hp : IntKind.i64.wrap ((i : Int) - 1) = ((i - 1 : Nat) : Int) := by rw [wrap64 (by omega) (by omega)]; omega
      have hrq := row_getD Sc.row l hq
      simp only [Sc.row] at hrq
      have q0 : (0 : Int) ≤ ((i - 1 : Nat) : Int) := by omega
      have q1 : ((i - 1 : Nat) : Int) < l.length := by omega
      simp -implicitDefEqProofs only [go_sem, hp, hrq, q0, q1]
      refine CallW.one (s_scoreOrder (l[i - 1]) (l[i])) p_scoreOrder (by first | (simp -implicitDefEqProofs only [go_sem]; done) | ((conv => lhs; simp -implicitDefEqProofs only [go_sem]); done) | (simp -implicitDefEqProofs only [go_sem]; rfl) | rfl) (by first | trivial | (simp [DeepR, DeepV, DeepVs, DeepC, DeepCs, T.scal]; done)) ?_
      simp -implicitDefEqProofs only [go_sem]
      have g4 : decide (scOrd l[i - 1] l[i] ≥ 0) = !scLt l[i - 1] l[i] := by rw [← scOrd_lt]; by_cases hh : scOrd l[i - 1] l[i] < 0 <;> simp [hh] <;> omega
      rw [g4]
      cases g5 : scLt l[i - 1] l[i]
      · simp -implicitDefEqProofs only [go_sem, Bool.not_false]
        exact bad (by rw [e, g5]; simp; omega)
      simp -implicitDefEqProofs only [go_sem, Bool.not_true]
      have hlk : (decide (i = 0) || scLt (l[i - 1]'(by omega)) l[i]) = true := by simp [g5]
      refine CallW.one (s_scoreAt l (l[i]).text hs) p_scoreAt (by first | (simp -implicitDefEqProofs only [go_sem]; done) | ((conv => lhs; simp -implicitDefEqProofs only [go_sem]); done) | (simp -implicitDefEqProofs only [go_sem]; rfl) | rfl) (by first | trivial | (simp [DeepR, DeepV, DeepVs, DeepC, DeepCs, T.scal]; done)) ?_
      simp -implicitDefEqProofs only [go_sem]
      have g7 : decide (ixN (scIx l l[i].text) = i) = decide (scIx l l[i].text = some i) := by
        cases scIx l l[i].text with
        | none => simp [ixN]
        | some k => simp only [ixN, Option.some.injEq]; exact decide_eq_decide.2 (by omega)
      rw [g7]
      refine BrA_i (fun g6 => ?_) (fun g6 => ?_) <;> simp -implicitDefEqProofs only [go_sem, wi]
      · refine .to [32, 153, 154, 155, 257, 258, 259, 321, 322, 323] (i + 1) rfl ?_ ?_ (by omega) ⟨by omega, fun j hj => by
          by_cases hji : j < i
          · exact hz j hji
          · obtain rfl : j = i := by omega
            rw [e, hg, hlk, g6]; rfl⟩ <;> simp -implicitDefEqProofs only [go_sem, LeTs_undef, LeTs_same, LeTs_nil, wi]
      · exact bad (by rw [e, g6]; simp)
    · have g3 : i = 0 := by have := of_decide_eq_false g3; omega
      have hlk : (decide (i = 0) || scLt (l[i - 1]'(by omega)) l[i]) = true := by simp [g3]
      refine CallW.one (s_scoreAt l (l[i]).text hs) p_scoreAt (by first | (simp -implicitDefEqProofs only [go_sem]; done) | ((conv => lhs; simp -implicitDefEqProofs only [go_sem]); done) | (simp -implicitDefEqProofs only [go_sem]; rfl) | rfl) (by first | trivial | (simp [DeepR, DeepV, DeepVs, DeepC, DeepCs, T.scal]; done)) ?_
      simp -implicitDefEqProofs only [go_sem]
      have g7 : decide (ixN (scIx l l[i].text) = i) = decide (scIx l l[i].text = some i) := by
        cases scIx l l[i].text with
        | none => simp [ixN]
        | some k => simp only [ixN, Option.some.injEq]; exact decide_eq_decide.2 (by omega)
      rw [g7]
      refine BrA_i (fun g6 => ?_) (fun g6 => ?_) <;> simp -implicitDefEqProofs only [go_sem, wi]
      · refine .to [32, 153, 154, 155, 257, 258, 259, 321, 322, 323] (i + 1) rfl ?_ ?_ (by omega) ⟨by omega, fun j hj => by
          by_cases hji : j < i
          · exact hz j hji
          · obtain rfl : j = i := by omega
            rw [e, hg, hlk, g6]; rfl⟩ <;> simp -implicitDefEqProofs only [go_sem, LeTs_undef, LeTs_same, LeTs_nil, wi]
      · exact bad (by rw [e, g6]; simp)
  · have h : i = l.length := by simp at h; omega
    subst h
    have : okAll (scAt l) l.length = true := okAll_yes.2 hz
    unfold scoresOkM
    have e16 : decide ((l.length : Int) ≤ 16) = decide (l.length ≤ 16) := decide_eq_decide.2 (by omega)
    rw [this, e16]; rfl
theorem p_l3Ahead : Plain Try.prog 61 := ⟨_, Try.func61, rfl, by decide⟩
theorem s_l3Ahead (x y : Sc) : Spec Try.prog 61 [x.av, y.av] (fun r => r = Bo (scLt x y)) := by
  refine Spec.of tysOk mixed Try.func61 rfl (by decide) ?_
  simp -implicitDefEqProofs only [go_sem, Try.f61]
  (repeat' (first   | (refine BrA_i (fun h => ?_) (fun h => ?_) <;> (try simp only [decide_eq_true_eq, decide_eq_false_iff_not, Bool.not_eq_true', Bool.not_eq_false', gt_iff_lt, ge_iff_le] at h) <;> try simp -implicitDefEqProofs only [go_sem])   | (refine And.intro (a := roomy _ _) (by (unfold roomy; (try simp only [List.length_take, List.length_append, List.length_map, List.length_cons, List.length_nil]); omega)) ?_; try simp -implicitDefEqProofs only [go_sem])))
  all_goals (try simp_all [scLt])
theorem p_sScoresOk : Plain Try.prog 33 := ⟨_, Try.func33, rfl, by decide⟩
theorem s_sScoresOk (l : List Sc) (hs : l.length ≤ 1099511627776) : Spec Try.prog 33 [.t (.list false 2 (l.map Sc.row))] (fun r => r = Bo (scoresOkM l)) := by
  refine Spec.of tysOk mixed Try.func33 rfl (by decide) ?_
  simp -implicitDefEqProofs only [go_sem, Try.f33]
  refine LoopW.slotsM [true, false, false, true, false, false, false, false, false, false, false, false, false, false, false, false, false, false, false, false, false, false, false, false, false, false, false, false, false, false, false, false, false, false, false, false, false, false, false, false, false, false, false, false, false, false, false, false, false, false, false, false, false, false, false, false, false, false, false, false, false, false, false] (α := Nat) (fun i => [(3, I i)]) (fun i => []) (fun i => l.length - i) (fun i => i ≤ l.length ∧ ∀ j, j < i → scAt l j = true) 0 (by simp -implicitDefEqProofs only [go_sem, LeTs_undef, LeTs_same, LeTs_nil]; try simp [LeTs]) rfl ⟨by omega, fun _ h => by omega⟩ ?_
  rintro i ⟨hi, hz⟩
  simp -implicitDefEqProofs only [go_sem]
  refine BrA_i (fun h => ?_) (fun h => ?_) <;> simp -implicitDefEqProofs only [go_sem]
  · skip
    have h : i < l.length := by simp at h; omega
    have h0i : (0 : Int) ≤ i := by omega
    have h1i : (i : Int) < l.length := by omega
    have wi : IntKind.i64.wrap ((i : Int) + 1) = ((i + 1 : Nat) : Int) := by rw [wrap64 (by omega) (by omega)]; omega
    have hr := row_getD Sc.row l h
    simp only [Sc.row] at hr
    have bad : scAt l i = false → AV.t (T.bool false) = Bo (scoresOkM l) := fun hg => by
      unfold scoresOkM; rw [okAll_no h hg]; rfl
    have e := scAt_eq l h
    refine RegD_of sch_33_4 tysOk (by kernel_rfl) ?_
    simp -implicitDefEqProofs only [go_sem, h, h0i, h1i, hr, wi]
    refine BrA_i (fun g1 => ?_) (fun g1 => ?_) <;> simp -implicitDefEqProofs only [go_sem]
    · exact bad (by rw [e]; simp [scGood] at g1 ⊢; intro h1; omega)
    simp -implicitDefEqProofs only [go_sem, h, h0i, h1i, hr, wi]
    refine CallW.one (s_l1In (l[i]).num (-1000000000) 1000000000) p_l1In (by first | (simp -implicitDefEqProofs only [go_sem]; done) | ((conv => lhs; simp -implicitDefEqProofs only [go_sem]); done) | (simp -implicitDefEqProofs only [go_sem]; rfl) | rfl) (by first | trivial | (simp [DeepR, DeepV, DeepVs, DeepC, DeepCs, T.scal]; done)) ?_
    cases g2 : withinM l[i].num (-1000000000) 1000000000
    · simp -implicitDefEqProofs only [go_sem, g2]
      exact bad (by rw [e]; simp [scGood, g2])
    simp -implicitDefEqProofs only [go_sem, g2]
    have hg : scGood l[i] = true := by simp at g1; simp [scGood, g2]; omega
    refine BrA_i (fun g3 => ?_) (fun g3 => ?_) <;> simp -implicitDefEqProofs only [go_sem]
    · have g3 : 0 < i := by simpa using g3
      have hq : i - 1 < l.length := by omega
      have hp : IntKind.i64.wrap ((i : Int) - 1) = ((i - 1 : Nat) : Int) := by rw [wrap64 (by omega) (by omega)]; omega
      have hrq := row_getD Sc.row l hq
      simp only [Sc.row] at hrq
      have q0 : (0 : Int) ≤ ((i - 1 : Nat) : Int) := by omega
      have q1 : ((i - 1 : Nat) : Int) < l.length := by omega
      simp -implicitDefEqProofs only [go_sem, hp, hrq, q0, q1, h, h0i, h1i, hr]
      refine CallW.one (s_l3Ahead (l[i - 1]) (l[i])) p_l3Ahead (by first | (simp -implicitDefEqProofs only [go_sem]; done) | ((conv => lhs; simp -implicitDefEqProofs only [go_sem]); done) | (simp -implicitDefEqProofs only [go_sem]; rfl) | rfl) (by first | trivial | (simp [DeepR, DeepV, DeepVs, DeepC, DeepCs, T.scal]; done)) ?_
      simp -implicitDefEqProofs only [go_sem]
      cases g5 : scLt l[i - 1] l[i]
      · simp -implicitDefEqProofs only [go_sem, Bool.not_false]
        exact bad (by rw [e, g5]; simp; omega)
      simp -implicitDefEqProofs only [go_sem, Bool.not_true]
      have hlk : (decide (i = 0) || scLt (l[i - 1]'(by omega)) l[i]) = true := by simp [g5]
      refine LoopW.slotsM [true, false, false, true, true, false, false, false, false, false, false, false, false, false, false, false, false, false, false, false, false, false, false, false, false, false, false, false, false, false, false, false, false, false, false, false, false, false, false, false, false, false, false, false, false, false, false, false, false, false, false, false, false, false, false, false, false, false, false, false, false, false, false] (α := Nat) (fun k => [(4, I k)]) (fun k => []) (fun k => i - k) (fun k => k ≤ i ∧ ∀ j (hj : j < l.length), j < k → l[j].text ≠ l[i].text) 0 (by simp -implicitDefEqProofs only [go_sem, LeTs_undef, LeTs_same, LeTs_nil]; try simp [LeTs]) rfl ⟨by omega, fun _ _ h => by omega⟩ ?_
      rintro k ⟨hk, hn⟩
      simp -implicitDefEqProofs only [go_sem]
      refine BrA_i (fun g7 => ?_) (fun g7 => ?_) <;> simp -implicitDefEqProofs only [go_sem]
      · have g7 : k < i := by have := of_decide_eq_true g7; omega
        have hkl : k < l.length := by omega
        have hrk := row_getD Sc.row l hkl
        simp only [Sc.row] at hrk
        have k0 : (0 : Int) ≤ k := by omega
        have k1 : (k : Int) < l.length := by omega
        have wk : IntKind.i64.wrap ((k : Int) + 1) = ((k + 1 : Nat) : Int) := by rw [wrap64 (by omega) (by omega)]; omega
        refine RegD_of sch_33_9 tysOk (by kernel_rfl) ?_
        simp -implicitDefEqProofs only [go_sem, hrk, k0, k1, h, h0i, h1i, hr]
        refine BrA_i (fun g8 => ?_) (fun g8 => ?_) <;> simp -implicitDefEqProofs only [go_sem, wk]
        · have g8 := of_decide_eq_true g8
          refine bad ?_
          rw [e]
          have : ¬ scIx l l[i].text = some i := fun hh => (scIx_at hh).2.2 k hkl g7 g8
          simp [this]
        · refine .to [] (k + 1) rfl ?_ ?_ (by omega) ⟨by omega, fun j hj hjk => by
            by_cases hji : j < k
            · exact hn j hj hji
            · obtain rfl : j = k := by omega
              exact of_decide_eq_false g8⟩ <;> simp -implicitDefEqProofs only [go_sem, LeTs_undef, LeTs_same, LeTs_nil, wk]
      · have g7 : k = i := by have := of_decide_eq_false g7; omega
        subst g7
        have g6 := scIx_some (t := l[k].text) h rfl hn
        simp -implicitDefEqProofs only [go_sem, wi]
        refine .to [193, 194, 195, 321, 322, 323] (k + 1) rfl ?_ ?_ (by omega) ⟨by omega, fun j hj => by
          by_cases hji : j < k
          · exact hz j hji
          · obtain rfl : j = k := by omega
            rw [e, hg, hlk, g6]; simp⟩ <;> simp -implicitDefEqProofs only [go_sem, LeTs_undef, LeTs_same, LeTs_nil, wi]
    · have g3 : i = 0 := by have := of_decide_eq_false g3; omega
      have hlk : (decide (i = 0) || scLt (l[i - 1]'(by omega)) l[i]) = true := by simp [g3]
      refine LoopW.slotsM [true, false, false, true, true, false, false, false, false, false, false, false, false, false, false, false, false, false, false, false, false, false, false, false, false, false, false, false, false, false, false, false, false, false, false, false, false, false, false, false, false, false, false, false, false, false, false, false, false, false, false, false, false, false, false, false, false, false, false, false, false, false, false] (α := Nat) (fun k => [(4, I k)]) (fun k => []) (fun k => i - k) (fun k => k ≤ i ∧ ∀ j (hj : j < l.length), j < k → l[j].text ≠ l[i].text) 0 (by simp -implicitDefEqProofs only [go_sem, LeTs_undef, LeTs_same, LeTs_nil]; try simp [LeTs]) rfl ⟨by omega, fun _ _ h => by omega⟩ ?_
      rintro k ⟨hk, hn⟩
      simp -implicitDefEqProofs only [go_sem]
      refine BrA_i (fun g7 => ?_) (fun g7 => ?_) <;> simp -implicitDefEqProofs only [go_sem]
      · have g7 : k < i := by have := of_decide_eq_true g7; omega
        have hkl : k < l.length := by omega
        have hrk := row_getD Sc.row l hkl
        simp only [Sc.row] at hrk
        have k0 : (0 : Int) ≤ k := by omega
        have k1 : (k : Int) < l.length := by omega
        have wk : IntKind.i64.wrap ((k : Int) + 1) = ((k + 1 : Nat) : Int) := by rw [wrap64 (by omega) (by omega)]; omega
        refine RegD_of sch_33_9 tysOk (by kernel_rfl) ?_
        simp -implicitDefEqProofs only [go_sem, hrk, k0, k1, h, h0i, h1i, hr]
        refine BrA_i (fun g8 => ?_) (fun g8 => ?_) <;> simp -implicitDefEqProofs only [go_sem, wk]
        · have g8 := of_decide_eq_true g8
          refine bad ?_
          rw [e]
          have : ¬ scIx l l[i].text = some i := fun hh => (scIx_at hh).2.2 k hkl g7 g8
          simp [this]
        · refine .to [] (k + 1) rfl ?_ ?_ (by omega) ⟨by omega, fun j hj hjk => by
            by_cases hji : j < k
            · exact hn j hj hji
            · obtain rfl : j = k := by omega
              exact of_decide_eq_false g8⟩ <;> simp -implicitDefEqProofs only [go_sem, LeTs_undef, LeTs_same, LeTs_nil, wk]
      · have g7 : k = i := by have := of_decide_eq_false g7; omega
        subst g7
        have g6 := scIx_some (t := l[k].text) h rfl hn
        simp -implicitDefEqProofs only [go_sem, wi]
        refine .to [193, 194, 195, 321, 322, 323] (k + 1) rfl ?_ ?_ (by omega) ⟨by omega, fun j hj => by
          by_cases hji : j < k
          · exact hz j hji
          · obtain rfl : j = k := by omega
            rw [e, hg, hlk, g6]; simp⟩ <;> simp -implicitDefEqProofs only [go_sem, LeTs_undef, LeTs_same, LeTs_nil, wi]
  · have h : i = l.length := by simp at h; omega
    subst h
    have : okAll (scAt l) l.length = true := okAll_yes.2 hz
    unfold scoresOkM
    have e16 : decide ((l.length : Int) ≤ 16) = decide (l.length ≤ 16) := decide_eq_decide.2 (by omega)
    rw [this, e16]; rfl
end Go.Proofs.Ythbhnjcnbnlidaa.Am
namespace Go.Proofs.Ythbhnjcnbnlidaa.Am
open Go
set_option maxRecDepth 100000
set_option maxHeartbeats 1000000
set_option linter.unusedSimpArgs false
set_option linter.unusedVariables false
def numM (l : List Sc) (t : ByteArray) : Option Int := (scIx l t).bind fun i => l[i]?.map Sc.num
theorem numM_some {l : List Sc} {t : ByteArray} {i : Nat} (h : scIx l t = some i) : ∃ hh : i < l.length, numM l t = some l[i].num := by
  obtain ⟨hh, _⟩ := scIx_at h
  exact ⟨hh, by simp [numM, h, hh]⟩
theorem numM_none {l : List Sc} {t : ByteArray} (h : scIx l t = none) : numM l t = none := by simp [numM, h]
theorem p_l8Num : Plain Try.prog 42 := ⟨_, Try.func42, rfl, by decide⟩
theorem s_l8Num (l : List Sc) (t : ByteArray) (hs : l.length ≤ 1099511627776) : Spec Try.prog 42 [.t (.list false 2 (l.map Sc.row)), .t (.str t)] (fun r => r = .tup [I ((numM l t).getD 0), Bo (numM l t).isSome]) := by
  refine Spec.of tysOk mixed Try.func42 rfl (by decide) ?_
  simp -implicitDefEqProofs only [go_sem, Try.f42]
  refine LoopW.slotsM [true, true, false, false, false, false, true, false, false, false, false, false, false, false, false, false, false, false, false, false, false, false, false, false, false] (α := Nat) (fun i => [(6, I i)]) (fun i => []) (fun i => l.length - i) (fun i => i ≤ l.length ∧ ∀ j (h : j < l.length), j < i → l[j].text ≠ t) 0 (by simp -implicitDefEqProofs only [go_sem, LeTs_undef, LeTs_same, LeTs_nil]; try simp [LeTs]) rfl ⟨by omega, fun _ _ h => by omega⟩ ?_
  rintro i ⟨hi, hj⟩
  simp -implicitDefEqProofs only [go_sem]
  refine BrA_i (fun h => ?_) (fun h => ?_) <;> simp -implicitDefEqProofs only [go_sem]
  · skip
    have h : i < l.length := by simp at h; omega
    have h0i : (0 : Int) ≤ i := by omega
    have h1i : (i : Int) < l.length := by omega
    have wi : IntKind.i64.wrap ((i : Int) + 1) = ((i + 1 : Nat) : Int) := by rw [wrap64 (by omega) (by omega)]; omega
    have hr := row_getD Sc.row l h
    simp only [Sc.row] at hr
    simp -implicitDefEqProofs only [go_sem, h, h0i, h1i, hr, wi]
    refine BrA_i (fun h2 => ?_) (fun h2 => ?_) <;> (try simp only [decide_eq_true_eq, decide_eq_false_iff_not] at h2) <;> simp -implicitDefEqProofs only [go_sem, h, h0i, h1i, hr, wi]
    · obtain ⟨_, e⟩ := numM_some (scIx_some h h2 (fun j hj2 => hj j hj2))
      rw [e]; rfl
    · refine .to [] (i + 1) rfl ?_ ?_ (by omega) ⟨by omega, fun j hj2 hj3 => by
        by_cases hji : j < i
        · exact hj j hj2 hji
        · obtain rfl : j = i := by omega
          exact h2⟩ <;> simp -implicitDefEqProofs only [go_sem, LeTs_undef, LeTs_same, LeTs_nil, wi]
  · have h : i = l.length := by simp at h; omega
    subst h
    rw [numM_none (scIx_none (fun j h => hj j h h))]
    rfl
def clampM (n : Int) : Int := if n > 1000000000 then 1000000000 else if n < -1000000000 then -1000000000 else n
theorem p_l8Within : Plain Try.prog 44 := ⟨_, Try.func44, rfl, by decide⟩
theorem s_l8Within (n : Int) : Spec Try.prog 44 [I n] (fun r => r = I (clampM n)) := by
  refine Spec.of tysOk mixed Try.func44 rfl (by decide) ?_
  simp -implicitDefEqProofs only [go_sem, Try.f44]
  (repeat' (first   | (refine BrA_i (fun h => ?_) (fun h => ?_) <;> (try simp only [decide_eq_true_eq, decide_eq_false_iff_not, Bool.not_eq_true', Bool.not_eq_false', gt_iff_lt, ge_iff_le] at h) <;> try simp -implicitDefEqProofs only [go_sem])   | (refine And.intro (a := roomy _ _) (by (unfold roomy; (try simp only [List.length_take, List.length_append, List.length_map, List.length_cons, List.length_nil]); omega)) ?_; try simp -implicitDefEqProofs only [go_sem])))
  all_goals (simp_all [clampM] <;> omega)
def scPl : List Sc → Sc → Nat
  | [], _ => 0
  | x :: l, s => if scLt x s = true then scPl l s + 1 else 0
def insSc (l : List Sc) (s : Sc) : List Sc := l.take (scPl l s) ++ s :: l.drop (scPl l s)
theorem scPl_le : ∀ (l : List Sc) (s : Sc), scPl l s ≤ l.length
  | [], _ => Nat.le_refl _
  | x :: l, s => by
    have := scPl_le l s
    simp only [scPl, List.length_cons]; split <;> omega
theorem scPl_of {s : Sc} : ∀ {l : List Sc} {i : Nat}, i ≤ l.length → (∀ j (h : j < l.length), j < i → scLt l[j] s = true) → (∀ h : i < l.length, scLt l[i] s = false) → scPl l s = i
  | [], i, hi, _, _ => by simp at hi; simp [scPl, hi]
  | x :: l, 0, _, _, hs => by
    have := hs (by simp)
    simp only [List.getElem_cons_zero] at this
    simp [scPl, this]
  | x :: l, i + 1, hi, hj, hs => by
    have h0 := hj 0 (by simp) (by omega)
    simp only [List.getElem_cons_zero] at h0
    simp only [scPl, h0, if_true]
    rw [scPl_of (l := l) (i := i) (by simpa using hi) (fun j h hji => by have := hj (j + 1) (by simpa using h) (by omega); rwa [List.getElem_cons_succ] at this) (fun h => by have := hs (by simpa using h); rwa [List.getElem_cons_succ] at this)]
theorem insSc_len (l : List Sc) (s : Sc) : (insSc l s).length = l.length + 1 := by
  have := scPl_le l s
  simp only [insSc, List.length_append, List.length_take, List.length_cons, List.length_drop]; omega
theorem shared_Sc (l : List Sc) : sharedRows (l.map Sc.row) = l.map Sc.row := by
  unfold sharedRows
  rw [List.map_map]; exact List.map_congr_left fun x _ => rfl
theorem p_l8Put : Plain Try.prog 43 := ⟨_, Try.func43, rfl, by decide⟩
theorem s_l8Put (l : List Sc) (s : Sc) (hl : l.length ≤ 1048576) : Spec Try.prog 43 [.t (.list false 2 (l.map Sc.row)), s.av] (fun r => r = .own (.list true 2 ((insSc l s).map Sc.row))) := by
  refine Spec.of tysOk mixed Try.func43 rfl (by decide) ?_
  simp -implicitDefEqProofs only [go_sem, Try.f43]
  refine LoopW.slotsM [true, false, false, true, false, true, false, false, false, false, false, false, false, false, false, false, false, false, false, false, false, false, false, false, false, false, false, false, false, false, false, false] (α := Nat) (fun i => [(5, I i)]) (fun i => []) (fun i => l.length - i) (fun i => i ≤ l.length ∧ ∀ j (h : j < l.length), j < i → scLt l[j] s = true) 0 (by simp -implicitDefEqProofs only [go_sem, LeTs_undef, LeTs_same, LeTs_nil]; try simp [LeTs]) rfl ⟨by omega, fun _ _ h => by omega⟩ ?_
  rintro i ⟨hi, hj⟩
  have e1 : sharedRows (List.take (i - Int.toNat 0) (List.drop (Int.toNat 0) (List.map Sc.row l))) = (l.take i).map Sc.row := by
    rw [show Int.toNat 0 = 0 from rfl, Nat.sub_zero, List.drop_zero, ← List.map_take, shared_Sc]
  have e2 : sharedRows (List.take (l.length - i) (List.drop i (List.map Sc.row l))) = (l.drop i).map Sc.row := by
    rw [← List.map_drop, List.take_of_length_le (by simp), shared_Sc]
  have h0i : (0 : Int) ≤ i := by omega
  have hle : (i : Int) ≤ l.length := by omega
  have wi : IntKind.i64.wrap ((i : Int) + 1) = ((i + 1 : Nat) : Int) := by rw [wrap64 (by omega) (by omega)]; omega
  simp -implicitDefEqProofs only [go_sem]
  refine RegD_of sch_43_2 tysOk (by kernel_rfl) ?_
  simp -implicitDefEqProofs only [go_sem]
  refine BrA_i (fun h => ?_) (fun h => ?_) <;> simp -implicitDefEqProofs only [go_sem]
  · have h : i < l.length := by simp at h; omega
    have h1i : (i : Int) < l.length := by omega
    have hr := row_getD Sc.row l h
    simp only [Sc.row] at hr
    simp -implicitDefEqProofs only [go_sem, h, h0i, h1i, hr]
    refine CallW.one (s_l3Ahead (l[i]) s) p_l3Ahead (by first | (simp -implicitDefEqProofs only [go_sem]; done) | ((conv => lhs; simp -implicitDefEqProofs only [go_sem]); done) | (simp -implicitDefEqProofs only [go_sem]; rfl) | rfl) (by first | trivial | (simp [DeepR, DeepV, DeepVs, DeepC, DeepCs, T.scal]; done)) ?_
    simp -implicitDefEqProofs only [go_sem]
    cases g : scLt l[i] s
    · simp -implicitDefEqProofs only [go_sem]
      have e := scPl_of hi hj (fun _ => g)
      refine RegD_of sch_43_4 tysOk (by kernel_rfl) ?_
      simp -implicitDefEqProofs only [go_sem, h0i, hle]
      have e3 : (l.take i).map Sc.row ++ [[T.str s.text, T.int .i64 s.num]] ++ (l.drop i).map Sc.row = (insSc l s).map Sc.row := by
        rw [insSc, e, List.map_append, List.map_cons, List.append_assoc]; rfl
      simp only [e1, e2, e3]
      refine ⟨by omega, by unfold roomy; simp; omega, by unfold roomy; simp; omega, by unfold roomy; simp; omega, ?_⟩
      first | rfl | trivial
    · simp -implicitDefEqProofs only [go_sem, wi]
      refine .to [129, 130, 131] (i + 1) rfl ?_ ?_ (by omega) ⟨by omega, fun j hj2 hj3 => by
        by_cases hji : j < i
        · exact hj j hj2 hji
        · obtain rfl : j = i := by omega
          exact g⟩ <;> simp -implicitDefEqProofs only [go_sem, LeTs_undef, LeTs_same, LeTs_nil, wi]
  · have e := scPl_of hi hj (fun h' => by simp at h; omega)
    refine RegD_of sch_43_4 tysOk (by kernel_rfl) ?_
    simp -implicitDefEqProofs only [go_sem, h0i, hle]
    have e3 : (l.take i).map Sc.row ++ [[T.str s.text, T.int .i64 s.num]] ++ (l.drop i).map Sc.row = (insSc l s).map Sc.row := by
      rw [insSc, e, List.map_append, List.map_cons, List.append_assoc]; rfl
    simp only [e1, e2, e3]
    refine ⟨by omega, by unfold roomy; simp; omega, by unfold roomy; simp; omega, by unfold roomy; simp; omega, ?_⟩
    first | rfl | trivial
theorem scoresOkM_len {l : List Sc} (h : scoresOkM l = true) : l.length ≤ 16 := by
  unfold scoresOkM at h
  simp only [Bool.and_eq_true, decide_eq_true_eq] at h
  exact h.2
theorem scoresOkM_at {l : List Sc} (h : scoresOkM l = true) {i : Nat} (hi : i < l.length) : (scGood l[i] = true ∧ (i = 0 ∨ scLt (l[i - 1]'(by omega)) l[i] = true)) ∧ scIx l l[i].text = some i := by
  unfold scoresOkM at h
  simp only [Bool.and_eq_true, decide_eq_true_eq] at h
  have := okAll_yes.1 h.1 i hi
  rw [scAt_eq l hi] at this
  simpa using this
theorem scoresOkM_num {l : List Sc} (h : scoresOkM l = true) {x : Sc} (hx : x ∈ l) : -1000000000 ≤ x.num ∧ x.num ≤ 1000000000 := by
  obtain ⟨i, hi, rfl⟩ := List.mem_iff_getElem.1 hx
  have := (scoresOkM_at h hi).1.1
  simp only [scGood, withinM, Bool.and_eq_true, decide_eq_true_eq] at this
  omega
theorem numM_num {l : List Sc} (h : scoresOkM l = true) (t : ByteArray) : -1000000000 ≤ (numM l t).getD 0 ∧ (numM l t).getD 0 ≤ 1000000000 := by
  cases hx : scIx l t with
  | none => rw [numM_none hx]; simp
  | some i =>
    obtain ⟨hh, e⟩ := numM_some hx
    rw [e]
    exact scoresOkM_num h (List.getElem_mem hh)
def anyS (b o : List Sc) (x : Sc) : List Sc := insSc o ⟨x.text, clampM (x.num + (numM b x.text).getD 0)⟩
def addS (a o : List Sc) (y : Sc) : List Sc := if (numM a y.text).isSome = true then o else insSc o y
def bothS (b o : List Sc) (x : Sc) : List Sc := if (numM b x.text).isSome = true then insSc o ⟨x.text, clampM (x.num + (numM b x.text).getD 0)⟩ else o
def anyM (a b : List Sc) : List Sc := if scoresOkM a = true ∧ scoresOkM b = true then b.foldl (addS a) (a.foldl (anyS b) []) else []
def bothM (a b : List Sc) : List Sc := if scoresOkM a = true ∧ scoresOkM b = true then a.foldl (bothS b) [] else []
theorem foldl_len {f : List Sc → Sc → List Sc} (h : ∀ o x, (f o x).length ≤ o.length + 1) : ∀ (l o : List Sc), (l.foldl f o).length ≤ o.length + l.length
  | [], o => by simp
  | x :: l, o => by
    have h1 := foldl_len h l (f o x)
    have h2 := h o x
    simp only [List.foldl_cons, List.length_cons]; omega
theorem anyS_len (b o : List Sc) (x : Sc) : (anyS b o x).length ≤ o.length + 1 := by rw [anyS, insSc_len]; omega
theorem addS_len (a o : List Sc) (x : Sc) : (addS a o x).length ≤ o.length + 1 := by
  unfold addS; split
  · omega
  · rw [insSc_len]; omega
theorem bothS_len (b o : List Sc) (x : Sc) : (bothS b o x).length ≤ o.length + 1 := by
  unfold bothS; split
  · rw [insSc_len]; omega
  · omega
theorem p_sScoresAny : Plain Try.prog 20 := ⟨_, Try.func20, rfl, by decide⟩
theorem s_sScoresAny (a b : List Sc) (ha : a.length ≤ 1099511627776) (hb : b.length ≤ 1099511627776) : Spec Try.prog 20 [.t (.list false 2 (a.map Sc.row)), .t (.list false 2 (b.map Sc.row))] (fun r => shareR r = .t (.list false 2 ((anyM a b).map Sc.row))) := by
  refine Spec.of tysOk mixed Try.func20 rfl (by decide) ?_
  simp -implicitDefEqProofs only [go_sem, Try.f20]
  refine CallW.one (s_sScoresOk a ha) p_sScoresOk (by first | (simp -implicitDefEqProofs only [go_sem]; done) | ((conv => lhs; simp -implicitDefEqProofs only [go_sem]); done) | (simp -implicitDefEqProofs only [go_sem]; rfl) | rfl) (by first | trivial | (simp [DeepR, DeepV, DeepVs, DeepC, DeepCs, T.scal]; done)) ?_
  cases oa : scoresOkM a
  · simp -implicitDefEqProofs only [go_sem, oa]
    simp [anyM, oa, shareR, shareV, T.mk_list]
  simp -implicitDefEqProofs only [go_sem, oa]
  refine CallW.one (s_sScoresOk b hb) p_sScoresOk (by first | (simp -implicitDefEqProofs only [go_sem]; done) | ((conv => lhs; simp -implicitDefEqProofs only [go_sem]); done) | (simp -implicitDefEqProofs only [go_sem]; rfl) | rfl) (by first | trivial | (simp [DeepR, DeepV, DeepVs, DeepC, DeepCs, T.scal]; done)) ?_
  cases ob : scoresOkM b
  · simp -implicitDefEqProofs only [go_sem, ob]
    simp [anyM, ob, shareR, shareV, T.mk_list]
  simp -implicitDefEqProofs only [go_sem, ob]
  have la := scoresOkM_len oa
  have lb := scoresOkM_len ob
  refine LoopW.empT [5] (by conv => lhs; simp -implicitDefEqProofs only [go_sem]) ?_
  refine LoopW.slotsM [true, true, false, false, false, true, true, false, false, false, false, false, false, false, false, false, false, false, false, false, false, false, false, false, false, false, false, false, false, false, false, false, false, false, false, false, false, false, false, false, false, false, false, false, false, false, false, false, false, false, false, false, false, false, false, false, false, false, false, false, false, false, false, false, false, false, false, false, false, false, false, false, false, false, false, false, false, false, false] (α := Nat) (fun i => [(6, I i), (5, .t (.list false 2 (((a.take i).foldl (anyS b) []).map Sc.row)))]) (fun i => []) (fun i => a.length - i) (fun i => i ≤ a.length) 0 (by simp -implicitDefEqProofs only [go_sem, LeTs_undef, LeTs_same, LeTs_nil]; try simp [LeTs]) rfl (by omega) ?_
  intro i hi
  simp -implicitDefEqProofs only [go_sem]
  refine BrA_i (fun h => ?_) (fun h => ?_) <;> simp -implicitDefEqProofs only [go_sem]
  · skip
    have h : i < a.length := by simp at h; omega
    have h0i : (0 : Int) ≤ i := by omega
    have h1i : (i : Int) < a.length := by omega
    have wi : IntKind.i64.wrap ((i : Int) + 1) = ((i + 1 : Nat) : Int) := by rw [wrap64 (by omega) (by omega)]; omega
    have hr := row_getD Sc.row a h
    simp only [Sc.row] at hr
    have ef := foldl_take (anyS b) [] a h
    have hl := foldl_len (anyS_len b) (a.take i) []
    obtain ⟨acc, hacc⟩ : ∃ acc, acc = (a.take i).foldl (anyS b) [] := ⟨_, rfl⟩
    rw [← hacc] at ef hl ⊢
    have hl1 : acc.length ≤ 1048576 := by simp at hl; omega
    have hn := scoresOkM_num oa (List.getElem_mem h)
    have hm := numM_num ob a[i].text
    have ws : IntKind.i64.wrap (a[i].num + (numM b a[i].text).getD 0) = a[i].num + (numM b a[i].text).getD 0 := wrap64 (by omega) (by omega)
    simp -implicitDefEqProofs only [go_sem, h, h0i, h1i, hr]
    refine CallW.ps (s_l8Num b (a[i]).text hb) p_l8Num (by first | (simp -implicitDefEqProofs only [go_sem]; done) | ((conv => lhs; simp -implicitDefEqProofs only [go_sem]); done) | (simp -implicitDefEqProofs only [go_sem]; rfl) | rfl) rfl ?_
    rintro _ rfl
    simp -implicitDefEqProofs only [go_sem]
    refine RegD_of sch_20_8 tysOk (by kernel_rfl) ?_
    simp -implicitDefEqProofs only [go_sem, h, h0i, h1i, hr, ws]
    refine CallW.one (s_l8Within (a[i].num + (numM b a[i].text).getD 0)) p_l8Within (by first | (simp -implicitDefEqProofs only [go_sem]; done) | ((conv => lhs; simp -implicitDefEqProofs only [go_sem]); done) | (simp -implicitDefEqProofs only [go_sem]; rfl) | rfl) (by first | trivial | (simp [DeepR, DeepV, DeepVs, DeepC, DeepCs, T.scal]; done)) ?_
    simp -implicitDefEqProofs only [go_sem]
    refine CallW.ps (s_l8Put acc ⟨a[i].text, clampM (a[i].num + (numM b a[i].text).getD 0)⟩ hl1) p_l8Put (by first | (simp -implicitDefEqProofs only [go_sem]; done) | ((conv => lhs; simp -implicitDefEqProofs only [go_sem]); done) | (simp -implicitDefEqProofs only [go_sem]; rfl) | rfl) rfl ?_
    rintro _ rfl
    simp -implicitDefEqProofs only [go_sem, wi]
    refine .to [281, 282, 283, 409, 410, 411, 425, 426, 427] (i + 1) rfl ?_ ?_ (by omega) (by omega) <;> simp -implicitDefEqProofs only [go_sem, LeTs_undef, LeTs_same, LeTs_nil, wi, ef, anyS]
  · have h : i = a.length := by simp at h; omega
    subst h
    rw [List.take_length]
    have hl := foldl_len (anyS_len b) a []
    obtain ⟨acc0, hacc0⟩ : ∃ acc0, acc0 = a.foldl (anyS b) [] := ⟨_, rfl⟩
    rw [← hacc0] at hl ⊢
    refine LoopW.slotsM [true, true, false, false, false, true, false, false, false, true, false, false, false, false, false, false, false, false, false, false, false, false, false, false, false, false, false, false, false, false, false, false, false, false, false, false, false, false, false, false, false, false, false, false, false, false, false, false, false, false, false, false, false, false, false, false, false, false, false, false, false, false, false, false, false, false, false, false, false, false, false, false, false, false, false, false, false, false, false] (α := Nat) (fun i => [(9, I i), (5, .t (.list false 2 (((b.take i).foldl (addS a) acc0).map Sc.row)))]) (fun i => []) (fun i => b.length - i) (fun i => i ≤ b.length) 0 (by simp -implicitDefEqProofs only [go_sem, LeTs_undef, LeTs_same, LeTs_nil]; try simp [LeTs]) rfl (by omega) ?_
    intro i hi
    simp -implicitDefEqProofs only [go_sem]
    refine BrA_i (fun h => ?_) (fun h => ?_) <;> simp -implicitDefEqProofs only [go_sem]
    · skip
      have h : i < b.length := by simp at h; omega
      have h0i : (0 : Int) ≤ i := by omega
      have h1i : (i : Int) < b.length := by omega
      have wi : IntKind.i64.wrap ((i : Int) + 1) = ((i + 1 : Nat) : Int) := by rw [wrap64 (by omega) (by omega)]; omega
      have hr := row_getD Sc.row b h
      simp only [Sc.row] at hr
      have ef := foldl_take (addS a) acc0 b h
      have hl2 := foldl_len (addS_len a) (b.take i) acc0
      obtain ⟨acc, hacc⟩ : ∃ acc, acc = (b.take i).foldl (addS a) acc0 := ⟨_, rfl⟩
      rw [← hacc] at ef hl2 ⊢
      have hl1 : acc.length ≤ 1048576 := by simp at hl hl2; omega
      simp -implicitDefEqProofs only [go_sem, h, h0i, h1i, hr]
      refine CallW.ps (s_l8Num a (b[i]).text ha) p_l8Num (by first | (simp -implicitDefEqProofs only [go_sem]; done) | ((conv => lhs; simp -implicitDefEqProofs only [go_sem]); done) | (simp -implicitDefEqProofs only [go_sem]; rfl) | rfl) rfl ?_
      rintro _ rfl
      simp -implicitDefEqProofs only [go_sem]
      cases hs : (numM a b[i].text).isSome
      · simp -implicitDefEqProofs only [go_sem, hs, h, h0i, h1i, hr]
        refine CallW.ps (s_l8Put acc b[i] hl1) p_l8Put (by first | (simp -implicitDefEqProofs only [go_sem]; done) | ((conv => lhs; simp -implicitDefEqProofs only [go_sem]); done) | (simp -implicitDefEqProofs only [go_sem]; rfl) | rfl) rfl ?_
        rintro _ rfl
        simp -implicitDefEqProofs only [go_sem, wi]
        refine .to [537, 538, 539, 617, 618, 619] (i + 1) rfl ?_ ?_ (by omega) (by omega) <;> simp -implicitDefEqProofs only [go_sem, LeTs_undef, LeTs_same, LeTs_nil, wi, ef, addS, hs]
      · simp -implicitDefEqProofs only [go_sem, hs, wi]
        refine .to [537, 538, 539, 617, 618, 619] (i + 1) rfl ?_ ?_ (by omega) (by omega) <;> simp -implicitDefEqProofs only [go_sem, LeTs_undef, LeTs_same, LeTs_nil, wi, ef, addS, hs]
    · have h : i = b.length := by simp at h; omega
      subst h
      rw [List.take_length]
      simp [anyM, oa, ob, shareR, shareV, T.mk_list, hacc0, Sc.mk_rows]
theorem p_sScoresBoth : Plain Try.prog 14 := ⟨_, Try.func14, rfl, by decide⟩
theorem s_sScoresBoth (a b : List Sc) (ha : a.length ≤ 1099511627776) (hb : b.length ≤ 1099511627776) : Spec Try.prog 14 [.t (.list false 2 (a.map Sc.row)), .t (.list false 2 (b.map Sc.row))] (fun r => shareR r = .t (.list false 2 ((bothM a b).map Sc.row))) := by
  refine Spec.of tysOk mixed Try.func14 rfl (by decide) ?_
  simp -implicitDefEqProofs only [go_sem, Try.f14]
  refine CallW.one (s_sScoresOk a ha) p_sScoresOk (by first | (simp -implicitDefEqProofs only [go_sem]; done) | ((conv => lhs; simp -implicitDefEqProofs only [go_sem]); done) | (simp -implicitDefEqProofs only [go_sem]; rfl) | rfl) (by first | trivial | (simp [DeepR, DeepV, DeepVs, DeepC, DeepCs, T.scal]; done)) ?_
  cases oa : scoresOkM a
  · simp -implicitDefEqProofs only [go_sem, oa]
    simp [bothM, oa, shareR, shareV, T.mk_list]
  simp -implicitDefEqProofs only [go_sem, oa]
  refine CallW.one (s_sScoresOk b hb) p_sScoresOk (by first | (simp -implicitDefEqProofs only [go_sem]; done) | ((conv => lhs; simp -implicitDefEqProofs only [go_sem]); done) | (simp -implicitDefEqProofs only [go_sem]; rfl) | rfl) (by first | trivial | (simp [DeepR, DeepV, DeepVs, DeepC, DeepCs, T.scal]; done)) ?_
  cases ob : scoresOkM b
  · simp -implicitDefEqProofs only [go_sem, ob]
    simp [bothM, ob, shareR, shareV, T.mk_list]
  simp -implicitDefEqProofs only [go_sem, ob]
  have la := scoresOkM_len oa
  have lb := scoresOkM_len ob
  refine LoopW.empT [5] (by conv => lhs; simp -implicitDefEqProofs only [go_sem]) ?_
  refine LoopW.slotsM [true, true, false, false, false, true, true, false, false, false, false, false, false, false, false, false, false, false, false, false, false, false, false, false, false, false, false, false, false, false, false, false, false, false, false, false, false, false, false, false, false, false, false, false, false, false, false, false, false, false, false, false, false] (α := Nat) (fun i => [(6, I i), (5, .t (.list false 2 (((a.take i).foldl (bothS b) []).map Sc.row)))]) (fun i => []) (fun i => a.length - i) (fun i => i ≤ a.length) 0 (by simp -implicitDefEqProofs only [go_sem, LeTs_undef, LeTs_same, LeTs_nil]; try simp [LeTs]) rfl (by omega) ?_
  intro i hi
  simp -implicitDefEqProofs only [go_sem]
  refine BrA_i (fun h => ?_) (fun h => ?_) <;> simp -implicitDefEqProofs only [go_sem]
  · skip
    have h : i < a.length := by simp at h; omega
    have h0i : (0 : Int) ≤ i := by omega
    have h1i : (i : Int) < a.length := by omega
    have wi : IntKind.i64.wrap ((i : Int) + 1) = ((i + 1 : Nat) : Int) := by rw [wrap64 (by omega) (by omega)]; omega
    have hr := row_getD Sc.row a h
    simp only [Sc.row] at hr
    have ef := foldl_take (bothS b) [] a h
    have hl := foldl_len (bothS_len b) (a.take i) []
    obtain ⟨acc, hacc⟩ : ∃ acc, acc = (a.take i).foldl (bothS b) [] := ⟨_, rfl⟩
    rw [← hacc] at ef hl ⊢
    have hl1 : acc.length ≤ 1048576 := by simp at hl; omega
    have hn := scoresOkM_num oa (List.getElem_mem h)
    have hm := numM_num ob a[i].text
    have ws : IntKind.i64.wrap (a[i].num + (numM b a[i].text).getD 0) = a[i].num + (numM b a[i].text).getD 0 := wrap64 (by omega) (by omega)
    simp -implicitDefEqProofs only [go_sem, h, h0i, h1i, hr]
    refine CallW.ps (s_l8Num b (a[i]).text hb) p_l8Num (by first | (simp -implicitDefEqProofs only [go_sem]; done) | ((conv => lhs; simp -implicitDefEqProofs only [go_sem]); done) | (simp -implicitDefEqProofs only [go_sem]; rfl) | rfl) rfl ?_
    rintro _ rfl
    simp -implicitDefEqProofs only [go_sem]
    cases hs : (numM b a[i].text).isSome
    · simp -implicitDefEqProofs only [go_sem, hs, wi]
      refine .to [257, 258, 259, 393, 394, 395, 409, 410, 411] (i + 1) rfl ?_ ?_ (by omega) (by omega) <;> simp -implicitDefEqProofs only [go_sem, LeTs_undef, LeTs_same, LeTs_nil, wi, ef, bothS, hs]
    · simp -implicitDefEqProofs only [go_sem, hs]
      refine RegD_of sch_14_9 tysOk (by kernel_rfl) ?_
      simp -implicitDefEqProofs only [go_sem, h, h0i, h1i, hr, ws]
      refine CallW.one (s_l8Within (a[i].num + (numM b a[i].text).getD 0)) p_l8Within (by first | (simp -implicitDefEqProofs only [go_sem]; done) | ((conv => lhs; simp -implicitDefEqProofs only [go_sem]); done) | (simp -implicitDefEqProofs only [go_sem]; rfl) | rfl) (by first | trivial | (simp [DeepR, DeepV, DeepVs, DeepC, DeepCs, T.scal]; done)) ?_
      simp -implicitDefEqProofs only [go_sem]
      refine CallW.ps (s_l8Put acc ⟨a[i].text, clampM (a[i].num + (numM b a[i].text).getD 0)⟩ hl1) p_l8Put (by first | (simp -implicitDefEqProofs only [go_sem]; done) | ((conv => lhs; simp -implicitDefEqProofs only [go_sem]); done) | (simp -implicitDefEqProofs only [go_sem]; rfl) | rfl) rfl ?_
      rintro _ rfl
      simp -implicitDefEqProofs only [go_sem, wi]
      refine .to [257, 258, 259, 393, 394, 395, 409, 410, 411] (i + 1) rfl ?_ ?_ (by omega) (by omega) <;> simp -implicitDefEqProofs only [go_sem, LeTs_undef, LeTs_same, LeTs_nil, wi, ef, bothS, hs]
  · have h : i = a.length := by simp at h; omega
    subst h
    rw [List.take_length]
    simp [bothM, oa, ob, shareR, shareV, T.mk_list, Sc.mk_rows]
def sumA (b : List Sc) (both : Bool) (x : Sc) : List Sc := match scIx b x.text with
  | some i => [⟨x.text, clampM (x.num + ((b[i]?.map Sc.num).getD 0))⟩]
  | none => if both = true then [] else [x]
def sumB (a : List Sc) (both : Bool) (y : Sc) : List Sc := if both = false ∧ scIx a y.text = none then [y] else []
theorem flat_take {α β : Type} (f : α → List β) (l : List α) {i : Nat} (h : i < l.length) : (l.take (i + 1)).flatMap f = (l.take i).flatMap f ++ f l[i] := by
  rw [List.take_succ_eq_append_getElem h, List.flatMap_append]; simp
theorem flat_len {α β : Type} {f : α → List β} (h : ∀ x, (f x).length ≤ 1) : ∀ l : List α, (l.flatMap f).length ≤ l.length
  | [] => by simp
  | x :: l => by
    have := flat_len h l
    have := h x
    simp only [List.flatMap_cons, List.length_append, List.length_cons]; omega
theorem sumA_len (b : List Sc) (both : Bool) (x : Sc) : (sumA b both x).length ≤ 1 := by
  unfold sumA; split
  · simp
  · split <;> simp
theorem sumB_len (a : List Sc) (both : Bool) (y : Sc) : (sumB a both y).length ≤ 1 := by
  unfold sumB; split <;> simp
theorem p_summed : Plain Try.prog 46 := ⟨_, Try.func46, rfl, by decide⟩
theorem s_summed (a b : List Sc) (both : Bool) (ha : a.length ≤ 1099511627776) (hb : b.length ≤ 1099511627776) : Spec Try.prog 46 [.t (.list false 2 (a.map Sc.row)), .t (.list false 2 (b.map Sc.row)), Bo both] (fun r => ∃ l : List Sc, r = .own (.list true 2 (l.map Sc.row)) ∧
    ((¬ (scoresOkM a = true ∧ scoresOkM b = true) ∧ l = []) ∨ (scoresOkM a = true ∧ scoresOkM b = true ∧ l.Perm (a.flatMap (sumA b both) ++ b.flatMap (sumB a both)) ∧ l.Pairwise (fun x y => scLt y x = false)))) := by
  refine Spec.of tysOk mixed Try.func46 rfl (by decide) ?_
  simp -implicitDefEqProofs only [go_sem, Try.f46]
  refine CallW.one (s_ScoresOk a ha) p_ScoresOk (by first | (simp -implicitDefEqProofs only [go_sem]; done) | ((conv => lhs; simp -implicitDefEqProofs only [go_sem]); done) | (simp -implicitDefEqProofs only [go_sem]; rfl) | rfl) (by first | trivial | (simp [DeepR, DeepV, DeepVs, DeepC, DeepCs, T.scal]; done)) ?_
  cases oa : scoresOkM a
  · simp -implicitDefEqProofs only [go_sem, oa]
    refine ⟨[], ?_⟩
    simp
  simp -implicitDefEqProofs only [go_sem, oa]
  refine CallW.one (s_ScoresOk b hb) p_ScoresOk (by first | (simp -implicitDefEqProofs only [go_sem]; done) | ((conv => lhs; simp -implicitDefEqProofs only [go_sem]); done) | (simp -implicitDefEqProofs only [go_sem]; rfl) | rfl) (by first | trivial | (simp [DeepR, DeepV, DeepVs, DeepC, DeepCs, T.scal]; done)) ?_
  cases ob : scoresOkM b
  · simp -implicitDefEqProofs only [go_sem, ob]
    refine ⟨[], ?_⟩
    simp
  simp -implicitDefEqProofs only [go_sem, ob]
  have la := scoresOkM_len oa
  have lb := scoresOkM_len ob
  refine LoopW.slotsM [true, true, true, false, false, false, false, true, false, false, false, false, false, false, false, false, false, false, false, false, false, false, false, true, true, true, false, false, false, false, false, false, false, false, false, false, false, false, false, false, false, false, false, false, false, false, false, false, false, false, false, false, false, false, false, false, false, false, false, false, false, false, false, false, false, false, false, false, false, false, false, false, false, false, false, false, false, false, false, false] (α := Nat) (fun i => [(25, I i)]) (fun i => [(104, .rows 2 (((a.take i).flatMap (sumA b both)).map Sc.row))]) (fun i => a.length - i) (fun i => i ≤ a.length) 0 (by simp -implicitDefEqProofs only [go_sem, LeTs_undef, LeTs_same, LeTs_nil]; try simp [LeTs]) (by simp -implicitDefEqProofs only [go_sem, List.take_zero, List.flatMap_nil, List.map_nil]) (by omega) ?_
  intro i hi
  simp -implicitDefEqProofs only [go_sem]
  refine BrA_i (fun h => ?_) (fun h => ?_) <;> simp -implicitDefEqProofs only [go_sem]
  · skip
    have h : i < a.length := by simp at h; omega
    have h0i : (0 : Int) ≤ i := by omega
    have h1i : (i : Int) < a.length := by omega
    have wi : IntKind.i64.wrap ((i : Int) + 1) = ((i + 1 : Nat) : Int) := by rw [wrap64 (by omega) (by omega)]; omega
    have hr := row_getD Sc.row a h
    simp only [Sc.row] at hr
    have ef := flat_take (sumA b both) a h
    have hl := flat_len (sumA_len b both) (a.take i)
    obtain ⟨acc, hacc⟩ : ∃ acc, acc = (a.take i).flatMap (sumA b both) := ⟨_, rfl⟩
    rw [← hacc] at ef hl ⊢
    have hl1 : acc.length ≤ 16 := by simp at hl; omega
    have hn := scoresOkM_num oa (List.getElem_mem h)
    simp -implicitDefEqProofs only [go_sem, h, h0i, h1i, hr]
    refine CallW.one (s_scoreAt b (a[i]).text hb) p_scoreAt (by first | (simp -implicitDefEqProofs only [go_sem]; done) | ((conv => lhs; simp -implicitDefEqProofs only [go_sem]); done) | (simp -implicitDefEqProofs only [go_sem]; rfl) | rfl) (by first | trivial | (simp [DeepR, DeepV, DeepVs, DeepC, DeepCs, T.scal]; done)) ?_
    cases hx : scIx b a[i].text with
    | none =>
      have ng : decide ((-1 : Int) ≥ 0) = false := by decide
      simp -implicitDefEqProofs only [go_sem, hx, ixN, ng]
      cases both
      · simp -implicitDefEqProofs only [go_sem]
        have e2 : (acc ++ sumA b false a[i]).map Sc.row = acc.map Sc.row ++ [[T.str a[i].text, T.int .i64 a[i].num]] := by
          rw [sumA, hx, List.map_append]; rfl
        refine ⟨by unfold roomy; omega, .to [72, 432, 440, 257, 258, 259] (i + 1) rfl ?_ ?_ (by omega) (by omega)⟩ <;> simp -implicitDefEqProofs only [go_sem, LeTs_undef, LeTs_same, LeTs_nil, wi, ef, e2]
      · simp -implicitDefEqProofs only [go_sem]
        have e2 : acc ++ sumA b true a[i] = acc := by rw [sumA, hx]; simp
        refine .to [72, 432, 440, 257, 258, 259] (i + 1) rfl ?_ ?_ (by omega) (by omega) <;> simp -implicitDefEqProofs only [go_sem, LeTs_undef, LeTs_same, LeTs_nil, wi, ef, e2]
    | some k =>
      obtain ⟨hk, hkt, _⟩ := scIx_at hx
      have hkr := row_getD Sc.row b hk
      simp only [Sc.row] at hkr
      have k0 : (0 : Int) ≤ k := by omega
      have k1 : (k : Int) < b.length := by omega
      have hm := scoresOkM_num ob (List.getElem_mem hk)
      have ws : IntKind.i64.wrap (a[i].num + b[k].num) = a[i].num + b[k].num := wrap64 (by omega) (by omega)
      have kg : decide ((k : Int) ≥ 0) = true := by simp
      have hc : (if 1000000000 < (if -1000000000 > a[i].num + b[k].num then -1000000000 else a[i].num + b[k].num) then 1000000000 else if -1000000000 > a[i].num + b[k].num then -1000000000 else a[i].num + b[k].num) = clampM (a[i].num + b[k].num) := by
        unfold clampM; (repeat' split) <;> omega
      simp -implicitDefEqProofs only [go_sem, hx, ixN, kg]
      refine RegD_of sch_46_9 tysOk (by kernel_rfl) ?_
      simp -implicitDefEqProofs only [go_sem, k0, k1, hkr, ws]
      simp only [hc]
      have e2 : (acc ++ sumA b both a[i]).map Sc.row = acc.map Sc.row ++ [[T.str a[i].text, T.int .i64 (clampM (a[i].num + b[k].num))]] := by
        rw [sumA, hx, List.map_append]; simp [hk]; rfl
      refine ⟨by unfold roomy; omega, .to [72, 432, 440, 257, 258, 259] (i + 1) rfl ?_ ?_ (by omega) (by omega)⟩ <;> simp -implicitDefEqProofs only [go_sem, LeTs_undef, LeTs_same, LeTs_nil, wi, ef, e2]
  · have h : i = a.length := by simp at h; omega
    subst h
    rw [List.take_length]
    have hl0 := flat_len (sumA_len b both) a
    obtain ⟨acc0, hacc0⟩ : ∃ acc0, acc0 = a.flatMap (sumA b both) := ⟨_, rfl⟩
    rw [← hacc0] at hl0 ⊢
    refine LoopW.slotsM [true, false, true, false, false, false, false, true, false, false, false, false, false, false, false, false, false, false, false, false, false, false, false, false, false, false, false, false, false, false, false, false, false, false, false, false, false, false, false, false, false, false, false, false, false, false, false, false, false, false, false, false, false, false, false, false, false, true, true, true, false, false, false, false, false, false, false, false, false, false, false, false, false, false, false, false, false, false, false, false] (α := Nat) (fun i => [(59, I i)]) (fun i => [(104, .rows 2 ((acc0 ++ (b.take i).flatMap (sumB a both)).map Sc.row))]) (fun i => b.length - i) (fun i => i ≤ b.length) 0 (by simp -implicitDefEqProofs only [go_sem, LeTs_undef, LeTs_same, LeTs_nil]; try simp [LeTs]) (by simp -implicitDefEqProofs only [go_sem, List.take_zero, List.flatMap_nil, List.append_nil]) (by omega) ?_
    intro i hi
    simp -implicitDefEqProofs only [go_sem]
    refine BrA_i (fun h => ?_) (fun h => ?_) <;> simp -implicitDefEqProofs only [go_sem]
    · skip
      have h : i < b.length := by simp at h; omega
      have h0i : (0 : Int) ≤ i := by omega
      have h1i : (i : Int) < b.length := by omega
      have wi : IntKind.i64.wrap ((i : Int) + 1) = ((i + 1 : Nat) : Int) := by rw [wrap64 (by omega) (by omega)]; omega
      have hr := row_getD Sc.row b h
      simp only [Sc.row] at hr
      have ef := flat_take (sumB a both) b h
      have hl := flat_len (sumB_len a both) (b.take i)
      obtain ⟨acc, hacc⟩ : ∃ acc, acc = acc0 ++ (b.take i).flatMap (sumB a both) := ⟨_, rfl⟩
      have ef2 : acc0 ++ (b.take (i + 1)).flatMap (sumB a both) = acc ++ sumB a both b[i] := by rw [ef, hacc, List.append_assoc]
      have hl1 : acc.length ≤ 32 := by rw [hacc]; simp at hl ⊢; omega
      rw [← hacc]
      clear ef
      simp -implicitDefEqProofs only [go_sem, h, h0i, h1i, hr]
      cases both
      · simp -implicitDefEqProofs only [go_sem]
        refine CallW.one (s_scoreAt a (b[i]).text ha) p_scoreAt (by first | (simp -implicitDefEqProofs only [go_sem]; done) | ((conv => lhs; simp -implicitDefEqProofs only [go_sem]); done) | (simp -implicitDefEqProofs only [go_sem]; rfl) | rfl) (by first | trivial | (simp [DeepR, DeepV, DeepVs, DeepC, DeepCs, T.scal]; done)) ?_
        cases hx : scIx a b[i].text with
        | none =>
          have ng : decide ((-1 : Int) < 0) = true := by decide
          simp -implicitDefEqProofs only [go_sem, hx, ixN, ng]
          have e2 : (acc ++ sumB a false b[i]).map Sc.row = acc.map Sc.row ++ [[T.str b[i].text, T.int .i64 b[i].num]] := by
            rw [sumB, if_pos ⟨rfl, hx⟩, List.map_append]; rfl
          refine ⟨by unfold roomy; omega, .to [96, 592, 600, 553, 554, 555] (i + 1) rfl ?_ ?_ (by omega) (by omega)⟩ <;> simp -implicitDefEqProofs only [go_sem, LeTs_undef, LeTs_same, LeTs_nil, wi, ef2, e2]
        | some k =>
          have ng : decide ((k : Int) < 0) = false := by simp
          simp -implicitDefEqProofs only [go_sem, hx, ixN, ng]
          have e2 : acc ++ sumB a false b[i] = acc := by rw [sumB, if_neg (by simp [hx])]; simp
          refine .to [96, 592, 600, 553, 554, 555] (i + 1) rfl ?_ ?_ (by omega) (by omega) <;> simp -implicitDefEqProofs only [go_sem, LeTs_undef, LeTs_same, LeTs_nil, wi, ef2, e2]
      · simp -implicitDefEqProofs only [go_sem]
        have e2 : acc ++ sumB a true b[i] = acc := by rw [sumB, if_neg (by simp)]; simp
        refine .to [96, 592, 600, 553, 554, 555] (i + 1) rfl ?_ ?_ (by omega) (by omega) <;> simp -implicitDefEqProofs only [go_sem, LeTs_undef, LeTs_same, LeTs_nil, wi, ef2, e2]
    · have h : i = b.length := by simp at h; omega
      subst h
      rw [List.take_length]
      have hl2 := flat_len (sumB_len a both) b
      obtain ⟨all, hall⟩ : ∃ all, all = acc0 ++ b.flatMap (sumB a both) := ⟨_, rfl⟩
      have hal : all.length < 4611686018427387904 := by rw [hall, List.length_append]; omega
      rw [← hall]
      refine CallW.o [(9000, 104)] (s_sortSc all hal) p_sortSc o70 rfl (by (conv => lhs; simp -implicitDefEqProofs only [go_sem]) <;> rfl) (by (simp -implicitDefEqProofs only [go_sem]) <;> rfl) ?_
      rintro _ _ ⟨rfl, l, hp, hs, rfl⟩
      simp -implicitDefEqProofs only [go_sem]
      exact ⟨l, rfl, .inr ⟨hp, hs⟩⟩
end Go.Proofs.Ythbhnjcnbnlidaa.Am
namespace Go.Proofs.Ythbhnjcnbnlidaa.Am
open Go
set_option maxRecDepth 100000
set_option linter.unusedSimpArgs false
set_option linter.unusedVariables false
theorem insSc_nil (s : Sc) : insSc [] s = [s] := rfl
theorem insSc_cons (x : Sc) (l : List Sc) (s : Sc) : insSc (x :: l) s = if scLt x s = true then x :: insSc l s else s :: x :: l := by
  have e : scPl (x :: l) s = if scLt x s = true then scPl l s + 1 else 0 := rfl
  unfold insSc
  rw [e]
  split <;> simp
theorem insSc_perm (s : Sc) : ∀ l : List Sc, (insSc l s).Perm (s :: l)
  | [] => List.Perm.refl _
  | x :: l => by
    rw [insSc_cons]
    split
    · exact ((insSc_perm s l).cons x).trans (List.Perm.swap s x l)
    · exact List.Perm.refl _
abbrev srt (l : List Sc) : Prop := l.Pairwise fun x y => scLt y x = false
theorem scLt_asymm {x y : Sc} (h : scLt x y = true) : scLt y x = false := by
  cases h' : scLt y x
  · rfl
  · have := scLt_trans h h'
    rw [scLt_irrefl] at this; cases this
theorem scLt_ge {x y z : Sc} (h : scLt y x = false) (h' : scLt z y = false) : scLt z x = false := by
  cases h3 : scLt z x
  · rfl
  · cases h1 : scLt x y
    · have := scLt_total h1 h
      subst this
      rw [h3] at h'; cases h'
    · rw [scLt_trans h3 h1] at h'; cases h'
theorem insSc_srt (s : Sc) : ∀ {l : List Sc}, srt l → srt (insSc l s)
  | [], _ => by simp [insSc_nil, srt]
  | x :: l, h => by
    have h' := List.pairwise_cons.1 h
    rw [insSc_cons]
    split
    · rename_i hx
      refine List.pairwise_cons.2 ⟨fun y hy => ?_, insSc_srt s h'.2⟩
      rcases List.mem_cons.1 ((insSc_perm s l).mem_iff.1 hy) with rfl | hy
      · exact scLt_asymm hx
      · exact h'.1 y hy
    · rename_i hx
      have hx : scLt x s = false := by simpa using hx
      refine List.pairwise_cons.2 ⟨fun y hy => ?_, h⟩
      rcases List.mem_cons.1 hy with rfl | hy
      · exact hx
      · exact scLt_ge hx (h'.1 y hy)
theorem srt_unique {l l' : List Sc} (h : srt l) (h' : srt l') (p : l.Perm l') : l = l' :=
  p.eq_of_pairwise (fun a b _ _ h1 h2 => scLt_total h2 h1) h h'
theorem foldl_ins {f : List Sc → Sc → List Sc} {g : Sc → List Sc} (h : ∀ o x, (f o x).Perm (o ++ g x)) (h' : ∀ o x, srt o → srt (f o x)) : ∀ (l o : List Sc), srt o → (l.foldl f o).Perm (o ++ l.flatMap g) ∧ srt (l.foldl f o)
  | [], o, ho => by simpa using ho
  | x :: l, o, ho => by
    obtain ⟨h1, h2⟩ := foldl_ins h h' l (f o x) (h' o x ho)
    refine ⟨?_, h2⟩
    rw [List.foldl_cons, List.flatMap_cons, ← List.append_assoc]
    exact h1.trans ((h o x).append_right _)
theorem clampM_id {n : Int} (h : -1000000000 ≤ n ∧ n ≤ 1000000000) : clampM n = n := by
  unfold clampM; rw [if_neg (by omega), if_neg (by omega)]
theorem sumA_any {b : List Sc} {x : Sc} (hx : -1000000000 ≤ x.num ∧ x.num ≤ 1000000000) : sumA b false x = [⟨x.text, clampM (x.num + (numM b x.text).getD 0)⟩] := by
  unfold sumA
  cases h : scIx b x.text with
  | none => rw [numM_none h]; simp [clampM_id hx]
  | some i =>
    obtain ⟨hh, e⟩ := numM_some h
    rw [e]; simp [hh]
theorem sumA_both {b : List Sc} {x : Sc} : sumA b true x = if (numM b x.text).isSome = true then [⟨x.text, clampM (x.num + (numM b x.text).getD 0)⟩] else [] := by
  unfold sumA
  cases h : scIx b x.text with
  | none => rw [numM_none h]; simp
  | some i =>
    obtain ⟨hh, e⟩ := numM_some h
    rw [e]; simp [hh]
theorem isSome_ix (a : List Sc) (t : ByteArray) : (numM a t).isSome = true ↔ scIx a t ≠ none := by
  cases h : scIx a t with
  | none => rw [numM_none h]; simp
  | some i => obtain ⟨hh, e⟩ := numM_some h; rw [e]; simp
theorem ins_app (o : List Sc) (s : Sc) : (insSc o s).Perm (o ++ [s]) := (insSc_perm s o).trans (List.perm_append_singleton s o).symm
theorem flatMap_congr' {α β : Type} {f g : α → List β} : ∀ {l : List α}, (∀ x ∈ l, f x = g x) → l.flatMap f = l.flatMap g
  | [], _ => rfl
  | x :: l, h => by rw [List.flatMap_cons, List.flatMap_cons, h x (by simp), flatMap_congr' fun y hy => h y (by simp [hy])]
theorem anyM_eq {a b l : List Sc} (oa : scoresOkM a = true) (ob : scoresOkM b = true) (hp : l.Perm (a.flatMap (sumA b false) ++ b.flatMap (sumB a false))) (hs : srt l) : l = anyM a b := by
  unfold anyM
  rw [if_pos ⟨oa, ob⟩]
  obtain ⟨p1, s1⟩ := foldl_ins (f := anyS b) (g := fun x => [⟨x.text, clampM (x.num + (numM b x.text).getD 0)⟩]) (fun o x => ins_app _ _) (fun o x ho => insSc_srt _ ho) a [] List.Pairwise.nil
  obtain ⟨p2, s2⟩ := foldl_ins (f := addS a) (g := sumB a false) (fun o y => by
      unfold addS sumB
      split
      · rename_i h; rw [if_neg (by rintro ⟨_, hh⟩; exact (isSome_ix _ _).1 h hh)]; simp
      · rename_i h; rw [if_pos ⟨rfl, Classical.byContradiction fun hh => h ((isSome_ix _ _).2 hh)⟩]; exact ins_app _ _)
    (fun o y ho => by unfold addS; split <;> first | exact ho | exact insSc_srt _ ho) b _ s1
  refine srt_unique hs s2 (hp.trans (List.Perm.trans ?_ p2.symm))
  refine List.Perm.append_right _ ?_
  refine List.Perm.trans ?_ p1.symm
  rw [List.nil_append, flatMap_congr' (f := sumA b false) fun x hx => sumA_any (scoresOkM_num oa hx)]
theorem bothM_eq {a b l : List Sc} (oa : scoresOkM a = true) (ob : scoresOkM b = true) (hp : l.Perm (a.flatMap (sumA b true) ++ b.flatMap (sumB a true))) (hs : srt l) : l = bothM a b := by
  unfold bothM
  rw [if_pos ⟨oa, ob⟩]
  obtain ⟨p1, s1⟩ := foldl_ins (f := bothS b) (g := sumA b true) (fun o x => by
      rw [sumA_both]
      unfold bothS
      split
      · exact ins_app _ _
      · simp) (fun o x ho => by unfold bothS; split <;> first | exact ho | exact insSc_srt _ ho) a [] List.Pairwise.nil
  refine srt_unique hs s1 (hp.trans (List.Perm.trans ?_ p1.symm))
  have : b.flatMap (sumB a true) = [] := by
    rw [List.flatMap_eq_nil_iff]; intro y _; unfold sumB; rw [if_neg (by simp)]
  rw [this]; simp
theorem p_ScoresAny : Plain Try.prog 21 := ⟨_, Try.func21, rfl, by decide⟩
theorem s_ScoresAny (a b : List Sc) (ha : a.length ≤ 1099511627776) (hb : b.length ≤ 1099511627776) : Spec Try.prog 21 [.t (.list false 2 (a.map Sc.row)), .t (.list false 2 (b.map Sc.row))] (fun r => r = .own (.list true 2 ((anyM a b).map Sc.row))) := by
  refine Spec.of tysOk mixed Try.func21 rfl (by decide) ?_
  simp -implicitDefEqProofs only [go_sem, Try.f21]
  refine CallW.p (s_summed a b false ha hb) p_summed (by first | (simp -implicitDefEqProofs only [go_sem]; done) | ((conv => lhs; simp -implicitDefEqProofs only [go_sem]); done) | (simp -implicitDefEqProofs only [go_sem]; rfl) | rfl) rfl ?_
  rintro _ ⟨l, rfl, ⟨h, rfl⟩ | ⟨oa, ob, hp, hs⟩⟩
  · simp -implicitDefEqProofs only [go_sem]
    simp [anyM, h]
  · simp -implicitDefEqProofs only [go_sem]
    rw [anyM_eq oa ob hp hs]
theorem p_ScoresBoth : Plain Try.prog 16 := ⟨_, Try.func16, rfl, by decide⟩
theorem s_ScoresBoth (a b : List Sc) (ha : a.length ≤ 1099511627776) (hb : b.length ≤ 1099511627776) : Spec Try.prog 16 [.t (.list false 2 (a.map Sc.row)), .t (.list false 2 (b.map Sc.row))] (fun r => r = .own (.list true 2 ((bothM a b).map Sc.row))) := by
  refine Spec.of tysOk mixed Try.func16 rfl (by decide) ?_
  simp -implicitDefEqProofs only [go_sem, Try.f16]
  refine CallW.p (s_summed a b true ha hb) p_summed (by first | (simp -implicitDefEqProofs only [go_sem]; done) | ((conv => lhs; simp -implicitDefEqProofs only [go_sem]); done) | (simp -implicitDefEqProofs only [go_sem]; rfl) | rfl) rfl ?_
  rintro _ ⟨l, rfl, ⟨h, rfl⟩ | ⟨oa, ob, hp, hs⟩⟩
  · simp -implicitDefEqProofs only [go_sem]
    simp [bothM, h]
  · simp -implicitDefEqProofs only [go_sem]
    rw [bothM_eq oa ob hp hs]
end Go.Proofs.Ythbhnjcnbnlidaa.Am
namespace Go.Proofs.Ythbhnjcnbnlidaa.Am
open Go
set_option maxRecDepth 100000
set_option maxHeartbeats 1000000
set_option linter.unusedSimpArgs false
set_option linter.unusedVariables false
def woSc (l : List Sc) (t : ByteArray) : List Sc := l.filter fun x => !decide (x.text = t)
theorem woSc_len (l : List Sc) (t : ByteArray) : (woSc l t).length ≤ l.length := List.length_filter_le _ _
theorem woSc_take (l : List Sc) (t : ByteArray) {i : Nat} (h : i < l.length) : woSc (l.take (i + 1)) t = if l[i].text = t then woSc (l.take i) t else woSc (l.take i) t ++ [l[i]] := by
  unfold woSc
  rw [List.take_add_one, List.getElem?_eq_getElem h, List.filter_append]
  by_cases e : l[i].text = t <;> simp [e]
theorem p_l3Without : Plain Try.prog 131 := ⟨_, Try.func131, rfl, by decide⟩
theorem s_l3Without (l : List Sc) (t : ByteArray) (hl : l.length ≤ 1048576) : Spec Try.prog 131 [.t (.list false 2 (l.map Sc.row)), .t (.str t)] (fun r => r = .own (.list true 2 ((woSc l t).map Sc.row))) := by
  refine Spec.of tysOk mixed Try.func131 rfl (by decide) ?_
  simp -implicitDefEqProofs only [go_sem, Try.f131]
  refine LoopW.slotsM [true, true, false, false, false, true, true, false, false, false, false, false, false, false, false, false, false, false, false, false, false, false, false, false, false, false, false, false, false] (α := Nat) (fun i => [(6, I i)]) (fun i => [(56, .rows 2 ((woSc (l.take i) t).map Sc.row))]) (fun i => l.length - i) (fun i => i ≤ l.length) 0 (by simp -implicitDefEqProofs only [go_sem, LeTs_undef, LeTs_same, LeTs_nil]; try simp [LeTs]) rfl (by omega) ?_
  intro i hi
  simp -implicitDefEqProofs only [go_sem]
  refine BrA_i (fun h => ?_) (fun h => ?_) <;> simp -implicitDefEqProofs only [go_sem]
  · skip
    have h : i < l.length := by simp at h; omega
    have h0i : (0 : Int) ≤ i := by omega
    have h1i : (i : Int) < l.length := by omega
    have wi : IntKind.i64.wrap ((i : Int) + 1) = ((i + 1 : Nat) : Int) := by rw [wrap64 (by omega) (by omega)]; omega
    have hr := row_getD Sc.row l h
    simp only [Sc.row] at hr
    have hw := woSc_len (l.take i) t
    have hw2 : (woSc (l.take i) t).length ≤ 1048576 := by rw [List.length_take] at hw; omega
    have e := woSc_take l t h
    simp -implicitDefEqProofs only [go_sem, h, h0i, h1i, hr, wi]
    refine BrA_i (fun h2 => ?_) (fun h2 => ?_) <;> (try simp only [decide_eq_true_eq, decide_eq_false_iff_not] at h2) <;> simp -implicitDefEqProofs only [go_sem, h, h0i, h1i, hr, wi]
    · rw [if_pos h2] at e
      refine .to [208, 216] (i + 1) rfl ?_ ?_ (by omega) (by omega) <;> simp -implicitDefEqProofs only [go_sem, LeTs_undef, LeTs_same, LeTs_nil, wi, e]
    · rw [if_neg h2] at e
      refine ⟨by unfold roomy; omega, ?_⟩
      refine .to [208, 216] (i + 1) rfl ?_ ?_ (by omega) (by omega)
      · simp -implicitDefEqProofs only [go_sem, LeTs_undef, LeTs_same, LeTs_nil]
      · simp -implicitDefEqProofs only [go_sem, wi, e, List.map_append, List.map_cons, List.map_nil, Sc.row]
  · have h : i = l.length := by simp at h; omega
    subst h
    rw [List.take_length]
def putSc (l : List Sc) (s : Sc) : List Sc × Bool × Bool :=
  if scoresOkM l = true then (if scoresOkM (insSc (woSc l s.text) s) = true then (insSc (woSc l s.text) s, decide ((woSc l s.text).length = l.length), true) else (l, false, false)) else ([], false, false)
abbrev putScR (x : List Sc × Bool × Bool) : AV := .tup [.own (.list true 2 (x.1.map Sc.row)), Bo x.2.1, Bo x.2.2]
theorem p_sScoresPut : Plain Try.prog 109 := ⟨_, Try.func109, rfl, by decide⟩
theorem s_sScoresPut (l : List Sc) (s : Sc) (hl : l.length ≤ 1048576) : Spec Try.prog 109 [.t (.list false 2 (l.map Sc.row)), s.av] (fun r => r = putScR (putSc l s)) := by
  refine Spec.of tysOk mixed Try.func109 rfl (by decide) ?_
  simp -implicitDefEqProofs only [go_sem, Try.f109]
  refine CallW.one (s_sScoresOk l (by omega)) p_sScoresOk (by first | (simp -implicitDefEqProofs only [go_sem]; done) | ((conv => lhs; simp -implicitDefEqProofs only [go_sem]); done) | (simp -implicitDefEqProofs only [go_sem]; rfl) | rfl) (by first | trivial | (simp [DeepR, DeepV, DeepVs, DeepC, DeepCs, T.scal]; done)) ?_
  simp -implicitDefEqProofs only [go_sem]
  cases hok : scoresOkM l
  · simp -implicitDefEqProofs only [go_sem]
    simp [putSc, hok]
  have h16 := scoresOkM_len hok
  obtain ⟨w, hw⟩ : ∃ w, w = woSc l s.text := ⟨_, rfl⟩
  have hwl := woSc_len l s.text
  rw [← hw] at hwl
  have ho := insSc_len w s
  simp -implicitDefEqProofs only [go_sem, Bool.not_true]
  refine CallW.ps (s_l3Without l s.text hl) p_l3Without (by first | (simp -implicitDefEqProofs only [go_sem]; done) | ((conv => lhs; simp -implicitDefEqProofs only [go_sem]); done) | (simp -implicitDefEqProofs only [go_sem]; rfl) | rfl) rfl ?_
  rintro _ rfl
  simp -implicitDefEqProofs only [go_sem, ← hw]
  refine LoopW.slotsM [true, false, false, true, false, false, false, true, true, false, false, false, false, false, false, false, false, false, false, false, false, false, false, false, false, false, false, false, false, false, false, false, false, false, false, false, false, false, false, false, false, false, false, false, false, false, false, false, false, false, false, false, false, false, false, false] (α := Nat) (fun i => [(8, I i)]) (fun i => []) (fun i => w.length - i) (fun i => i ≤ w.length ∧ ∀ j (h : j < w.length), j < i → scLt w[j] s = true) 0 (by simp -implicitDefEqProofs only [go_sem, LeTs_undef, LeTs_same, LeTs_nil]; try simp [LeTs]) rfl ⟨by omega, fun _ _ h => by omega⟩ ?_
  rintro i ⟨hi, hj⟩
  have e1 : sharedRows (List.take (i - Int.toNat 0) (List.drop (Int.toNat 0) (List.map Sc.row w))) = (w.take i).map Sc.row := by
    rw [show Int.toNat 0 = 0 from rfl, Nat.sub_zero, List.drop_zero, ← List.map_take, shared_Sc]
  have e2 : sharedRows (List.take (w.length - i) (List.drop i (List.map Sc.row w))) = (w.drop i).map Sc.row := by
    rw [← List.map_drop, List.take_of_length_le (by simp), shared_Sc]
  have h0i : (0 : Int) ≤ i := by omega
  have hle : (i : Int) ≤ w.length := by omega
  have wi : IntKind.i64.wrap ((i : Int) + 1) = ((i + 1 : Nat) : Int) := by rw [wrap64 (by omega) (by omega)]; omega
  have fin : scPl w s = i → (w.take i).map Sc.row ++ [[T.str s.text, T.int .i64 s.num]] ++ (w.drop i).map Sc.row = (insSc w s).map Sc.row := fun e => by
    rw [insSc, e, List.map_append, List.map_cons, List.append_assoc]; rfl
  simp -implicitDefEqProofs only [go_sem]
  refine RegD_of sch_109_5 tysOk (by kernel_rfl) ?_
  simp -implicitDefEqProofs only [go_sem]
  refine BrA_i (fun h => ?_) (fun h => ?_) <;> simp -implicitDefEqProofs only [go_sem]
  · have h : i < w.length := by simp at h; omega
    have h1i : (i : Int) < w.length := by omega
    have hr := row_getD Sc.row w h
    simp only [Sc.row] at hr
    simp -implicitDefEqProofs only [go_sem, h, h0i, h1i, hr]
    refine CallW.one (s_l3Ahead (w[i]) s) p_l3Ahead (by first | (simp -implicitDefEqProofs only [go_sem]; done) | ((conv => lhs; simp -implicitDefEqProofs only [go_sem]); done) | (simp -implicitDefEqProofs only [go_sem]; rfl) | rfl) (by first | trivial | (simp [DeepR, DeepV, DeepVs, DeepC, DeepCs, T.scal]; done)) ?_
    simp -implicitDefEqProofs only [go_sem]
    cases g : scLt w[i] s
    · simp -implicitDefEqProofs only [go_sem]
      have e3 := fin (scPl_of hi hj (fun _ => g))
      refine RegD_of sch_109_7 tysOk (by kernel_rfl) ?_
      simp -implicitDefEqProofs only [go_sem, h0i, hle]
      simp only [e1, e2, e3]
      refine ⟨by omega, by unfold roomy; simp; omega, by unfold roomy; simp; omega, by unfold roomy; simp; omega, ?_⟩
      refine CallW.one (s_sScoresOk (insSc w s) (by omega)) p_sScoresOk (by first | (simp -implicitDefEqProofs only [go_sem]; done) | ((conv => lhs; simp -implicitDefEqProofs only [go_sem]); done) | (simp -implicitDefEqProofs only [go_sem]; rfl) | rfl) (by first | trivial | (simp [DeepR, DeepV, DeepVs, DeepC, DeepCs, T.scal]; done)) ?_
      simp -implicitDefEqProofs only [go_sem]
      cases hok2 : scoresOkM (insSc w s)
      · simp -implicitDefEqProofs only [go_sem, Bool.not_false, shared_Sc]
        exact ⟨by unfold roomy; omega, by simp [putSc, hok, ← hw, hok2]⟩
      · simp -implicitDefEqProofs only [go_sem, Bool.not_true]
        simp only [putSc, hok, ← hw, hok2, if_true]; simp; omega
    · simp -implicitDefEqProofs only [go_sem, wi]
      refine .to [225, 226, 227] (i + 1) rfl ?_ ?_ (by omega) ⟨by omega, fun j hj2 hj3 => by
        by_cases hji : j < i
        · exact hj j hj2 hji
        · obtain rfl : j = i := by omega
          exact g⟩ <;> simp -implicitDefEqProofs only [go_sem, LeTs_undef, LeTs_same, LeTs_nil, wi]
  · have e3 := fin (scPl_of hi hj (fun h' => by simp at h; omega))
    refine RegD_of sch_109_7 tysOk (by kernel_rfl) ?_
    simp -implicitDefEqProofs only [go_sem, h0i, hle]
    simp only [e1, e2, e3]
    refine ⟨by omega, by unfold roomy; simp; omega, by unfold roomy; simp; omega, by unfold roomy; simp; omega, ?_⟩
    refine CallW.one (s_sScoresOk (insSc w s) (by omega)) p_sScoresOk (by first | (simp -implicitDefEqProofs only [go_sem]; done) | ((conv => lhs; simp -implicitDefEqProofs only [go_sem]); done) | (simp -implicitDefEqProofs only [go_sem]; rfl) | rfl) (by first | trivial | (simp [DeepR, DeepV, DeepVs, DeepC, DeepCs, T.scal]; done)) ?_
    simp -implicitDefEqProofs only [go_sem]
    cases hok2 : scoresOkM (insSc w s)
    · simp -implicitDefEqProofs only [go_sem, Bool.not_false, shared_Sc]
      exact ⟨by unfold roomy; omega, by simp [putSc, hok, ← hw, hok2]⟩
    · simp -implicitDefEqProofs only [go_sem, Bool.not_true]
      simp only [putSc, hok, ← hw, hok2, if_true]; simp; omega
end Go.Proofs.Ythbhnjcnbnlidaa.Am
namespace Go.Proofs.Ythbhnjcnbnlidaa.Am
open Go
set_option maxRecDepth 100000
set_option linter.unusedSimpArgs false
set_option linter.unusedVariables false
theorem scoresOkM_lt {l : List Sc} (h : scoresOkM l = true) : ∀ {i j : Nat} (hj : j < l.length) (hij : i < j), scLt (l[i]'(by omega)) l[j] = true := by
  intro i j hj hij
  induction j with
  | zero => omega
  | succ j ih =>
    have h1 := (scoresOkM_at h hj).1.2.resolve_left (by omega)
    simp only [Nat.add_sub_cancel] at h1
    by_cases e : i = j
    · subst e; exact h1
    · exact scLt_trans (ih (by omega) (by omega)) h1
theorem scoresOkM_ne {l : List Sc} (h : scoresOkM l = true) {i j : Nat} (hj : j < l.length) (hij : i < j) : (l[i]'(by omega)).text ≠ l[j].text := by
  obtain ⟨_, _, h3⟩ := scIx_at (scoresOkM_at h hj).2
  exact h3 i (by omega) hij
theorem scoresOkM_iff {l : List Sc} : scoresOkM l = true ↔ srt l ∧ (l.map Sc.text).Nodup ∧ (∀ x ∈ l, scGood x = true) ∧ l.length ≤ 16 := by
  constructor
  · intro h
    refine ⟨List.pairwise_iff_getElem.2 fun i j hi hj hij => scLt_asymm (scoresOkM_lt h hj hij), ?_, fun x hx => ?_, scoresOkM_len h⟩
    · rw [List.Nodup, List.pairwise_map]
      exact List.pairwise_iff_getElem.2 fun i j hi hj hij => scoresOkM_ne h hj hij
    · obtain ⟨i, hi, rfl⟩ := List.getElem_of_mem hx
      exact (scoresOkM_at h hi).1.1
  · rintro ⟨h1, h2, h3, h4⟩
    rw [List.Nodup, List.pairwise_map] at h2
    rw [srt, List.pairwise_iff_getElem] at h1
    rw [List.pairwise_iff_getElem] at h2
    unfold scoresOkM
    simp only [Bool.and_eq_true, decide_eq_true_eq]
    refine ⟨okAll_yes.2 fun i hi => ?_, h4⟩
    rw [scAt_eq l hi]
    simp only [Bool.and_eq_true, Bool.or_eq_true, decide_eq_true_eq]
    refine ⟨⟨h3 _ (List.getElem_mem hi), ?_⟩, scIx_some hi rfl fun j hj hji => h2 j i hj hi hji⟩
    by_cases hz : i = 0
    · exact .inl hz
    · right
      have a := h1 (i - 1) i (by omega) hi (by omega)
      cases e : scLt l[i - 1] l[i]
      · have := scLt_total e a
        exact absurd (congrArg Sc.text this) (h2 (i - 1) i (by omega) hi (by omega))
      · rfl
theorem numM_mem {l : List Sc} (h : scoresOkM l = true) {x : Sc} (hx : x ∈ l) : numM l x.text = some x.num := by
  obtain ⟨i, hi, rfl⟩ := List.getElem_of_mem hx
  obtain ⟨_, e⟩ := numM_some (scoresOkM_at h hi).2
  exact e
theorem numM_of {l : List Sc} {t : ByteArray} {n : Int} (h : numM l t = some n) : (⟨t, n⟩ : Sc) ∈ l := by
  cases e : scIx l t with
  | none => rw [numM_none e] at h; cases h
  | some i =>
    obtain ⟨hh, e2⟩ := numM_some e
    rw [e2] at h
    obtain ⟨_, e3, _⟩ := scIx_at e
    have : l[i] = ⟨t, n⟩ := by
      cases hli : l[i] with
      | mk tt nn => rw [hli] at e3 h; simp at e3 h; subst e3; subst h; rfl
    rw [← this]; exact List.getElem_mem hh
theorem isSome_text {l : List Sc} (h : scoresOkM l = true) {t : ByteArray} : (numM l t).isSome = true ↔ t ∈ l.map Sc.text := by
  constructor
  · intro hs
    obtain ⟨n, hn⟩ := Option.isSome_iff_exists.1 hs
    exact List.mem_map.2 ⟨_, numM_of hn, rfl⟩
  · intro ht
    obtain ⟨x, hx, rfl⟩ := List.mem_map.1 ht
    rw [numM_mem h hx]; rfl
abbrev sumF (b : List Sc) (x : Sc) : Sc := ⟨x.text, clampM (x.num + (numM b x.text).getD 0)⟩
theorem sumB_filter (a : List Sc) : ∀ b : List Sc, b.flatMap (sumB a false) = b.filter fun y => !(numM a y.text).isSome
  | [] => rfl
  | y :: b => by
    rw [List.flatMap_cons, sumB_filter a b, List.filter_cons]
    unfold sumB
    cases h : scIx a y.text with
    | none => simp [numM_none h]
    | some i => obtain ⟨_, e⟩ := numM_some h; simp [e]
theorem anyM_perm {a b : List Sc} (oa : scoresOkM a = true) (ob : scoresOkM b = true) : (anyM a b).Perm (a.map (sumF b) ++ b.filter fun y => !(numM a y.text).isSome) ∧ srt (anyM a b) := by
  unfold anyM
  rw [if_pos ⟨oa, ob⟩]
  obtain ⟨p1, s1⟩ := foldl_ins (f := anyS b) (g := fun x => [sumF b x]) (fun o x => ins_app _ _) (fun o x ho => insSc_srt _ ho) a [] List.Pairwise.nil
  obtain ⟨p2, s2⟩ := foldl_ins (f := addS a) (g := sumB a false) (fun o y => by
      unfold addS sumB
      split
      · rename_i h; rw [if_neg (by rintro ⟨_, hh⟩; exact (isSome_ix _ _).1 h hh)]; simp
      · rename_i h; rw [if_pos ⟨rfl, Classical.byContradiction fun hh => h ((isSome_ix _ _).2 hh)⟩]; exact ins_app _ _)
    (fun o y ho => by unfold addS; split <;> first | exact ho | exact insSc_srt _ ho) b _ s1
  refine ⟨p2.trans ?_, s2⟩
  rw [sumB_filter]
  refine List.Perm.append_right _ ?_
  refine p1.trans ?_
  rw [List.nil_append, ← List.map_eq_flatMap]
theorem bothM_perm {a b : List Sc} (oa : scoresOkM a = true) (ob : scoresOkM b = true) : (bothM a b).Perm ((a.filter fun x => (numM b x.text).isSome).map (sumF b)) ∧ srt (bothM a b) := by
  unfold bothM
  rw [if_pos ⟨oa, ob⟩]
  obtain ⟨p1, s1⟩ := foldl_ins (f := bothS b) (g := fun x => if (numM b x.text).isSome = true then [sumF b x] else []) (fun o x => by
      unfold bothS
      split
      · exact ins_app _ _
      · simp) (fun o x ho => by unfold bothS; split <;> first | exact ho | exact insSc_srt _ ho) a [] List.Pairwise.nil
  refine ⟨p1.trans ?_, s1⟩
  rw [List.nil_append]
  have : ∀ l : List Sc, l.flatMap (fun x => if (numM b x.text).isSome = true then [sumF b x] else []) = (l.filter fun x => (numM b x.text).isSome).map (sumF b) := by
    intro l
    induction l with
    | nil => rfl
    | cons x l ih =>
      rw [List.flatMap_cons, ih, List.filter_cons]
      split <;> simp
  rw [this]
abbrev both2 (a b : List Sc) (t : ByteArray) : Int := (numM a t).getD 0 + (numM b t).getD 0
theorem anyM_mem {a b : List Sc} (oa : scoresOkM a = true) (ob : scoresOkM b = true) (y : Sc) : y ∈ anyM a b ↔ ((numM a y.text).isSome = true ∨ (numM b y.text).isSome = true) ∧ y.num = clampM (both2 a b y.text) := by
  rw [(anyM_perm oa ob).1.mem_iff, List.mem_append, List.mem_map, List.mem_filter]
  constructor
  · rintro (⟨x, hx, rfl⟩ | ⟨hy, hn⟩)
    · refine ⟨.inl ?_, ?_⟩
      · show (numM a x.text).isSome = true
        rw [numM_mem oa hx]; rfl
      · show clampM (x.num + (numM b x.text).getD 0) = clampM ((numM a x.text).getD 0 + _)
        rw [numM_mem oa hx]; rfl
    · have hm := numM_mem ob hy
      refine ⟨.inr (by rw [hm]; rfl), ?_⟩
      cases e : numM a y.text with
      | none =>
        unfold both2
        rw [e, hm]
        simp only [Option.getD]
        rw [Int.zero_add, clampM_id (scoresOkM_num ob hy)]
      | some n => rw [e] at hn; cases hn
  · rintro ⟨h, hn⟩
    by_cases ha : (numM a y.text).isSome = true
    · obtain ⟨n, e⟩ := Option.isSome_iff_exists.1 ha
      refine .inl ⟨_, numM_of e, ?_⟩
      obtain ⟨t, m⟩ := y
      simp only at hn e ⊢
      rw [hn]; unfold both2; rw [e]; rfl
    · have hb := h.resolve_left ha
      obtain ⟨n, e⟩ := Option.isSome_iff_exists.1 hb
      right
      have hy := numM_of e
      have en : numM a y.text = none := by simpa using ha
      have : y.num = n := by
        rw [hn]; unfold both2; rw [en, e]; simp only [Option.getD]
        rw [Int.zero_add, clampM_id (scoresOkM_num ob hy)]
      obtain ⟨t, m⟩ := y
      simp only at this
      subst this
      exact ⟨hy, by simp [en]⟩
theorem bothM_mem {a b : List Sc} (oa : scoresOkM a = true) (ob : scoresOkM b = true) (y : Sc) : y ∈ bothM a b ↔ ((numM a y.text).isSome = true ∧ (numM b y.text).isSome = true) ∧ y.num = clampM (both2 a b y.text) := by
  rw [(bothM_perm oa ob).1.mem_iff, List.mem_map]
  constructor
  · rintro ⟨x, hx, rfl⟩
    obtain ⟨hx, hb⟩ := List.mem_filter.1 hx
    refine ⟨⟨?_, hb⟩, ?_⟩
    · show (numM a x.text).isSome = true
      rw [numM_mem oa hx]; rfl
    · show clampM (x.num + (numM b x.text).getD 0) = clampM ((numM a x.text).getD 0 + _)
      rw [numM_mem oa hx]; rfl
  · rintro ⟨⟨ha, hb⟩, hn⟩
    obtain ⟨n, e⟩ := Option.isSome_iff_exists.1 ha
    refine ⟨_, List.mem_filter.2 ⟨numM_of e, hb⟩, ?_⟩
    obtain ⟨t, m⟩ := y
    simp only at hn e ⊢
    rw [hn]; unfold both2; rw [e]; rfl
theorem filter_text (f : ByteArray → Bool) (l : List Sc) : (l.filter fun x => f x.text).map Sc.text = (l.map Sc.text).filter f := by
  rw [List.filter_map]; rfl
theorem anyM_text {a b : List Sc} (oa : scoresOkM a = true) (ob : scoresOkM b = true) : ((anyM a b).map Sc.text).Nodup := by
  have h := (anyM_perm oa ob).1.map Sc.text
  refine List.Nodup.perm ?_ h.symm
  rw [List.map_append, List.map_map, filter_text fun t => !(numM a t).isSome]
  refine List.nodup_append.2 ⟨(scoresOkM_iff.1 oa).2.1, (scoresOkM_iff.1 ob).2.1.sublist List.filter_sublist, ?_⟩
  intro t ht t' ht' e
  subst e
  have h1 := (List.mem_filter.1 ht').2
  have : (numM a t).isSome = true := (isSome_text oa).2 ht
  rw [this] at h1; cases h1
theorem bothM_text {a b : List Sc} (oa : scoresOkM a = true) (ob : scoresOkM b = true) : ((bothM a b).map Sc.text).Nodup := by
  have h := (bothM_perm oa ob).1.map Sc.text
  refine List.Nodup.perm ?_ h.symm
  rw [List.map_map]
  show ((a.filter fun x => (numM b x.text).isSome).map Sc.text).Nodup
  rw [filter_text fun t => (numM b t).isSome]
  exact (scoresOkM_iff.1 oa).2.1.sublist List.filter_sublist
theorem nodup_of_text {l : List Sc} (h : (l.map Sc.text).Nodup) : l.Nodup := by
  rw [List.Nodup, List.pairwise_map] at h
  exact h.imp fun hne e => hne (congrArg Sc.text e)
theorem anyM_comm {a b : List Sc} (oa : scoresOkM a = true) (ob : scoresOkM b = true) : anyM b a = anyM a b := by
  refine srt_unique (anyM_perm ob oa).2 (anyM_perm oa ob).2 ((List.perm_ext_iff_of_nodup (nodup_of_text (anyM_text ob oa)) (nodup_of_text (anyM_text oa ob))).2 fun y => ?_)
  rw [anyM_mem ob oa, anyM_mem oa ob, both2, both2, Int.add_comm, Or.comm]
theorem bothM_comm {a b : List Sc} (oa : scoresOkM a = true) (ob : scoresOkM b = true) : bothM b a = bothM a b := by
  refine srt_unique (bothM_perm ob oa).2 (bothM_perm oa ob).2 ((List.perm_ext_iff_of_nodup (nodup_of_text (bothM_text ob oa)) (nodup_of_text (bothM_text oa ob))).2 fun y => ?_)
  rw [bothM_mem ob oa, bothM_mem oa ob, both2, both2, Int.add_comm, And.comm (a := (numM b y.text).isSome = true)]
theorem any_both_len {a b : List Sc} (oa : scoresOkM a = true) (ob : scoresOkM b = true) : (anyM a b).length + (bothM a b).length = a.length + b.length := by
  have h1 := (anyM_perm oa ob).1.length_eq
  have h2 := (bothM_perm ob oa).1.length_eq
  rw [bothM_comm oa ob] at h2
  rw [List.length_append, List.length_map] at h1
  rw [List.length_map] at h2
  have h3 : (b.filter fun y => !(numM a y.text).isSome).length + (b.filter fun y => (numM a y.text).isSome).length = b.length := by
    have := List.length_eq_countP_add_countP (fun y : Sc => (numM a y.text).isSome) (l := b)
    rw [List.countP_eq_length_filter, List.countP_eq_length_filter] at this
    have e : (b.filter fun y => decide ¬(numM a y.text).isSome = true) = b.filter fun y => !(numM a y.text).isSome := List.filter_congr fun x _ => by cases h : numM a x.text <;> simp
    rw [e] at this
    omega
  omega
theorem anyM_lt {a b : List Sc} (oa : scoresOkM a = true) (ob : scoresOkM b = true) {i : Nat} (hi : i < (anyM a b).length) (h0 : 0 < i) : scLt ((anyM a b)[i - 1]'(by omega)) (anyM a b)[i] = true := by
  have hs := (anyM_perm oa ob).2
  rw [srt, List.pairwise_iff_getElem] at hs
  have hn := anyM_text oa ob
  rw [List.Nodup, List.pairwise_map, List.pairwise_iff_getElem] at hn
  have a1 := hs (i - 1) i (by omega) hi (by omega)
  have a2 := hn (i - 1) i (by omega) hi (by omega)
  cases e : scLt ((anyM a b)[i - 1]'(by omega)) (anyM a b)[i]
  · exact absurd (congrArg Sc.text (scLt_total e a1)) a2
  · rfl
theorem numM_any {a b : List Sc} (oa : scoresOkM a = true) (ob : scoresOkM b = true) {y : Sc} (hy : y ∈ anyM a b) : numM (anyM a b) y.text = some y.num := by
  cases e : numM (anyM a b) y.text with
  | none =>
    obtain ⟨i, hi, rfl⟩ := List.getElem_of_mem hy
    cases e2 : scIx (anyM a b) (anyM a b)[i].text with
    | none =>
      unfold scIx at e2
      rw [List.findIdx?_eq_none_iff] at e2
      have := e2 _ (List.getElem_mem hi)
      simp at this
    | some j => obtain ⟨_, e3⟩ := numM_some e2; rw [e3] at e; cases e
  | some n =>
    have := numM_of e
    rw [anyM_mem oa ob] at this hy
    have h2 : n = clampM (both2 a b y.text) := this.2
    rw [h2, hy.2]
end Go.Proofs.Ythbhnjcnbnlidaa.Am
namespace Go.Proofs.Ythbhnjcnbnlidaa.Am
open Go
set_option maxRecDepth 100000
set_option linter.unusedSimpArgs false
set_option linter.unusedVariables false
def dig (n : Nat) : ByteArray := ⟨#[UInt8.ofNat (IntKind.u8.wrap (48 + (n : Int))).toNat]⟩
def mtL (n : Nat) (out : ByteArray) : ByteArray := if h : n = 0 then out else mtL (n / 10) (dig (n % 10) ++ out)
termination_by n
decreasing_by omega
def mt (k : Int) : ByteArray := if k ≤ 0 then "m0".toUTF8 else "m".toUTF8 ++ mtL k.toNat .empty
end Go.Proofs.Ythbhnjcnbnlidaa.Am
namespace Go.Proofs.Ythbhnjcnbnlidaa.Am
open Go
set_option maxRecDepth 100000
set_option linter.unusedSimpArgs false
set_option linter.unusedVariables false
def Pr.mw (x : Pr) : Nat := 2
def Pr.m (x : Pr) (k : Int) : Pr := ⟨mt (k), mt (k + 1)⟩
def It.mw (x : It) : Nat := 2 + wSum Pr.mw x.fields
def It.m (x : It) (k : Int) : It := ⟨⟨k, k + 1⟩, mkAll Pr.m Pr.mw x.fields (k + 2)⟩
def Wt.mw (x : Wt) : Nat := 5
def Wt.m (x : Wt) (k : Int) : Wt := ⟨⟨k, k + 1⟩, mt (k + 2), k + 3, k + 4⟩
def Gr.mw (x : Gr) : Nat := 3 + wSum Wt.mw x.waits
def Gr.m (x : Gr) (k : Int) : Gr := ⟨mt (k), ⟨k + 1, k + 2⟩, mkAll Wt.m Wt.mw x.waits (k + 3)⟩
end Go.Proofs.Ythbhnjcnbnlidaa.Am
namespace Go.Proofs.Ythbhnjcnbnlidaa.Am
open Go
set_option maxRecDepth 100000
set_option linter.unusedSimpArgs false
set_option linter.unusedVariables false
def Tx.mw (x : Tx) : Nat := 1
def Tx.m (x : Tx) (k : Int) : Tx := mt (k)
def Or.mw (x : Or) : Nat := wSum Tx.mw x
def Or.m (x : Or) (k : Int) : Or := mkAll Tx.m Tx.mw x (k)
def Sc.mw (x : Sc) : Nat := 2
def Sc.m (x : Sc) (k : Int) : Sc := ⟨mt (k), k + 1⟩
def En.mw (x : En) : Nat := 4 + wSum Tx.mw x.list + wSum Sc.mw x.scores + wSum Pr.mw x.fields
def En.m (x : En) (k : Int) : En := ⟨mt (k), k + 1, k + 2, mt (k + 3), mkAll Tx.m Tx.mw x.list (k + 4), mkAll Sc.m Sc.mw x.scores (k + 4 + (wSum Tx.mw x.list : Nat)), mkAll Pr.m Pr.mw x.fields (k + 4 + (wSum Tx.mw x.list : Nat) + (wSum Sc.mw x.scores : Nat))⟩
def Cl.mw (x : Cl) : Nat := 3 + wSum Or.mw x.queue + wSum Tx.mw x.watch + wSum Tx.mw x.hears
def Cl.m (x : Cl) (k : Int) : Cl := ⟨decide ((k).tmod 3 = 0), decide ((k + 1).tmod 3 = 0), mkAll Or.m Or.mw x.queue (k + 2), mkAll Tx.m Tx.mw x.watch (k + 2 + (wSum Or.mw x.queue : Nat)), decide ((k + 2 + (wSum Or.mw x.queue : Nat) + (wSum Tx.mw x.watch : Nat)).tmod 3 = 0), mkAll Tx.m Tx.mw x.hears (k + 3 + (wSum Or.mw x.queue : Nat) + (wSum Tx.mw x.watch : Nat))⟩
def Bs.mw (x : Bs) : Nat := wSum En.mw x.ents
def Bs.m (x : Bs) (k : Int) : Bs := ⟨x.now, mkAll En.m En.mw x.ents (k)⟩
def Sv.mw (x : Sv) : Nat := Bs.mw x.base + wSum Cl.mw x.cls
def Sv.m (x : Sv) (k : Int) : Sv := ⟨Bs.m x.base (k), x.file, mkAll Cl.m Cl.mw x.cls (k + (Bs.mw x.base : Nat))⟩
def Ld.mw (x : Ld) : Nat := Sv.mw x.srv
def Ld.m (x : Ld) (k : Int) : Ld := ⟨Sv.m x.srv (k), x.hist⟩
def Fo.mw (x : Fo) : Nat := Bs.mw x.base
def Fo.m (x : Fo) (k : Int) : Fo := ⟨x.hist, x.text, Bs.m x.base (k)⟩
end Go.Proofs.Ythbhnjcnbnlidaa.Am
namespace Go.Proofs.Ythbhnjcnbnlidaa.Am
open Go
set_option maxRecDepth 100000
set_option maxHeartbeats 1000000
set_option linter.unusedSimpArgs false
set_option linter.unusedVariables false
theorem deep_rows' {α : Type} (row : α → List T) (h : ∀ x, ∀ t ∈ row x, Deep t) (n : Nat) (l : List α) : Deep (.list true n (l.map row)) :=
  .list _ _ fun r hr x hx => by
    obtain ⟨y, _, rfl⟩ := List.mem_map.1 hr
    exact h y x hx
theorem deep_scs (l : List Sc) : Deep (.list true 2 (l.map Sc.row)) := deep_rows' _ (fun x t ht => by simp only [Sc.row, List.mem_cons, List.not_mem_nil, or_false] at ht; rcases ht with rfl | rfl <;> exact .sc _ trivial) _ _
end Go.Proofs.Ythbhnjcnbnlidaa.Am
namespace Go.Proofs.Ythbhnjcnbnlidaa.Am
open Go
set_option maxRecDepth 100000
set_option maxHeartbeats 1000000
set_option linter.unusedSimpArgs false
set_option linter.unusedVariables false
abbrev by8 (bs : List Int) : AV := .t (.list false 1 (bs.map fun b => [T.int .u8 b]))
structure Drw (bs : List Int) (p : Int) : Prop where
  b : ∀ x ∈ bs, 0 ≤ x ∧ x ≤ 255
  l : bs.length ≤ 2000
  p0 : 0 ≤ p
  p1 : p ≤ 1000000000
abbrev dwH (bs : List Int) (p : Int) : Hp := [(9000, .box [by8 bs, I p])]
theorem wrap_i {n : Int} (h0 : 0 ≤ n) (h1 : n ≤ 9223372036854775807) : IntKind.i64.wrap n = n := wrap64 (by omega) (by omega)
theorem xor_ok {a b : Int} (ha : 0 ≤ a ∧ a < 4611686018427387904) (hb : 0 ≤ b ∧ b < 4611686018427387904) :
    ∃ v : Int, IntKind.i64.wrap (BitVec.ofInt IntKind.i64.bits a ^^^ BitVec.ofInt IntKind.i64.bits b).toNat = v ∧ 0 ≤ v ∧ v < 4611686018427387904 := by
  obtain ⟨a, rfl⟩ := Int.eq_ofNat_of_zero_le ha.1
  obtain ⟨b, rfl⟩ := Int.eq_ofNat_of_zero_le hb.1
  have h1 : a < 2 ^ 62 := by have := ha.2; omega
  have h2 : b < 2 ^ 62 := by have := hb.2; omega
  have h3 : (BitVec.ofInt IntKind.i64.bits (a : Int) ^^^ BitVec.ofInt IntKind.i64.bits (b : Int)).toNat = a ^^^ b := by
    rw [BitVec.toNat_xor, BitVec.ofInt_natCast, BitVec.ofInt_natCast, BitVec.toNat_ofNat, BitVec.toNat_ofNat, Nat.mod_eq_of_lt, Nat.mod_eq_of_lt]
    · show b < 2 ^ 64; omega
    · show a < 2 ^ 64; omega
  have h4 : a ^^^ b < 2 ^ 62 := Nat.xor_lt_two_pow h1 h2
  rw [h3]
  exact ⟨_, rfl, by rw [wrap64 (by omega) (by omega)]; omega, by rw [wrap64 (by omega) (by omega)]; omega⟩
theorem p_pick : Plain Try.prog 80 := ⟨_, Try.func80, rfl, by decide⟩
theorem byte_at {bs : List Int} {k : Nat} (hk : k < bs.length) : (bs.map fun b => [T.int .u8 b]).getD k [] = [T.int .u8 bs[k]] := row_getD (fun b => [T.int .u8 b]) bs hk
theorem s_pick (bs : List Int) (p n : Int) (h : Drw bs p) (hn : n ≤ 1000000000) : SpecO Try.prog 80 [.ptr 9000 0 0, I n] (dwH bs p)
    (fun r h' => (∃ v : Int, r = I v ∧ 0 ≤ v ∧ (v < n ∨ v = 0)) ∧ h' = dwH bs (p + 1)) := by
  obtain ⟨hb, hl, hp0, hp1⟩ := h
  refine SpecO.of tysOk mixed Try.func80 rfl (by decide) ?_
  have w1 : IntKind.i64.wrap (p + 1) = p + 1 := wrap64 (by omega) (by omega)
  have w2 : IntKind.i64.wrap (p + 1 - 1) = p := by rw [wrap64 (by omega) (by omega)]; omega
  simp -implicitDefEqProofs only [go_sem, Try.f80, by8, w1, w2]
  refine BrA_i (fun h1 => ?_) (fun h1 => ?_) <;> simp -implicitDefEqProofs only [go_sem]
  · exact ⟨0, rfl, by omega, .inr rfl⟩
  have h1 : 1 ≤ n := by simp at h1; omega
  refine BrA_i (fun h2 => ?_) (fun h2 => ?_) <;> simp -implicitDefEqProofs only [go_sem]
  · exact ⟨0, rfl, by omega, .inr rfl⟩
  have h2 : 0 < bs.length := by have := of_decide_eq_false h2; omega
  simp -implicitDefEqProofs only [go_sem, w2]
  refine BrA_i (fun h3 => ?_) (fun h3 => ?_) <;> simp -implicitDefEqProofs only [go_sem]
  · obtain ⟨k, rfl⟩ := Int.eq_ofNat_of_zero_le hp0
    have h3 : k < bs.length := by simp at h3; omega
    have hk := hb _ (List.getElem_mem h3)
    have h0i : (0 : Int) ≤ k := by omega
    have h1i : (k : Int) < bs.length := by omega
    have wk : IntKind.i64.wrap bs[k] = bs[k] := wrap_i (by omega) (by omega)
    simp -implicitDefEqProofs only [go_sem, h0i, h1i, byte_at h3, wk]
    exact ⟨by omega, _, rfl, Int.tmod_nonneg _ hk.1, .inl (Int.tmod_lt_of_pos _ (by omega))⟩
  · obtain ⟨k, rfl⟩ := Int.eq_ofNat_of_zero_le hp0
    have e1 : ((k : Int).tmod bs.length) = ((k % bs.length : Nat) : Int) := rfl
    have e2 : (IntKind.i64.wrap (IntKind.i64.wrap ((k : Int) * 7) + 3)).tmod bs.length = (((k * 7 + 3) % bs.length : Nat) : Int) := by
      rw [wrap_i (n := (k : Int) * 7) (by omega) (by omega), wrap_i (by omega) (by omega)]; rfl
    have g1 : k % bs.length < bs.length := Nat.mod_lt _ h2
    have g2 : (k * 7 + 3) % bs.length < bs.length := Nat.mod_lt _ h2
    obtain ⟨m1, hm1⟩ : ∃ m, m = k % bs.length := ⟨_, rfl⟩
    obtain ⟨m2, hm2⟩ : ∃ m, m = (k * 7 + 3) % bs.length := ⟨_, rfl⟩
    rw [← hm1] at e1 g1
    rw [← hm2] at e2 g2
    have z1 : (0 : Int) ≤ m1 := by omega
    have z2 : (0 : Int) ≤ m2 := by omega
    have y1 : (m1 : Int) < bs.length := by omega
    have y2 : (m2 : Int) < bs.length := by omega
    have k1 := hb _ (List.getElem_mem g1)
    have k2 := hb _ (List.getElem_mem g2)
    have wk1 : IntKind.i64.wrap bs[m1] = bs[m1] := wrap_i (by omega) (by omega)
    have wk2 : IntKind.i64.wrap bs[m2] = bs[m2] := wrap_i (by omega) (by omega)
    have hn0 : ¬ (bs.length : Int) = 0 := by omega
    refine RegD_of sch_80_7 tysOk (by kernel_rfl) ?_
    simp -implicitDefEqProofs only [go_sem, e1, e2, z1, z2, y1, y2, byte_at g1, byte_at g2, wk1, wk2, hn0]
    refine ⟨by omega, ?_⟩
    have q1 : (k : Int).tdiv bs.length = ((k / bs.length : Nat) : Int) := rfl
    have q2 : k / bs.length ≤ k := Nat.div_le_self _ _
    obtain ⟨q, hq⟩ : ∃ q, q = k / bs.length := ⟨_, rfl⟩
    rw [← hq] at q1 q2
    have u1 : IntKind.i64.wrap (bs[m1] * 131) = bs[m1] * 131 := wrap_i (by omega) (by omega)
    have u2 : IntKind.i64.wrap (bs[m2] * 1117) = bs[m2] * 1117 := wrap_i (by omega) (by omega)
    have u3 : IntKind.i64.wrap (bs[m1] * 131 + bs[m2] * 1117) = bs[m1] * 131 + bs[m2] * 1117 := wrap_i (by omega) (by omega)
    have u4 : IntKind.i64.wrap ((k : Int) * 29) = (k : Int) * 29 := wrap_i (by omega) (by omega)
    have u5 : IntKind.i64.wrap (q : Int) = (q : Int) := wrap_i (by omega) (by omega)
    have u6 : IntKind.i64.wrap ((q : Int) * 53) = (q : Int) * 53 := wrap_i (by omega) (by omega)
    have u7 : IntKind.i64.wrap (bs[m1] * 131 + bs[m2] * 1117 + (k : Int) * 29) = bs[m1] * 131 + bs[m2] * 1117 + (k : Int) * 29 := wrap_i (by omega) (by omega)
    have u8 : IntKind.i64.wrap (bs[m1] * 131 + bs[m2] * 1117 + (k : Int) * 29 + (q : Int) * 53) = bs[m1] * 131 + bs[m2] * 1117 + (k : Int) * 29 + (q : Int) * 53 := wrap_i (by omega) (by omega)
    rw [q1, u1, u2, u3, u4, u5, u6, u7, u8]
    obtain ⟨X, hX⟩ : ∃ X : Int, X = bs[m1] * 131 + bs[m2] * 1117 + (k : Int) * 29 + (q : Int) * 53 := ⟨_, rfl⟩
    rw [← hX]
    have hX0 : 0 ≤ X ∧ X < 4611686018427387904 := by omega
    have u9 : IntKind.i64.wrap (X.tdiv 64) = X.tdiv 64 := by
      have : X.tdiv 64 = X / 64 := Int.tdiv_eq_ediv_of_nonneg hX0.1
      rw [this]; exact wrap_i (by omega) (by omega)
    have hY0 : 0 ≤ X.tdiv 64 ∧ X.tdiv 64 < 4611686018427387904 := by
      have : X.tdiv 64 = X / 64 := Int.tdiv_eq_ediv_of_nonneg hX0.1
      rw [this]; omega
    obtain ⟨v, e, v0, v1⟩ := xor_ok hX0 hY0
    rw [u9]
    exact ⟨v.tmod n, congrArg (fun z => AV.t (T.int IntKind.i64 (Int.tmod z n))) e, Int.tmod_nonneg _ v0, .inl (Int.tmod_lt_of_pos _ (by omega))⟩
theorem p_of : Plain Try.prog 111 := ⟨_, Try.func111, rfl, by decide⟩
abbrev strR (b : ByteArray) : List T := [.str b]
theorem s_of (bs : List Int) (p : Int) (xs : List ByteArray) (h : Drw bs p) (hx : 0 < xs.length ∧ xs.length ≤ 1000) : SpecO Try.prog 111 [.ptr 9000 0 0, .refw 9001] (dwH bs p ++ [(9001, .rows 1 (xs.map strR))])
    (fun r h' => (∃ b, r = .t (.str b) ∧ b ∈ xs) ∧ h' = dwH bs (p + 1) ++ [(9001, .rows 1 (xs.map strR))]) := by
  refine SpecO.of tysOk mixed Try.func111 rfl (by decide) ?_
  simp -implicitDefEqProofs only [go_sem, Try.f111, by8, List.cons_append, List.nil_append]
  refine CallW.o [(9000, 9000)] (s_pick bs p xs.length h (by omega)) p_pick o80 rfl (by conv => lhs; simp -implicitDefEqProofs only [go_sem]) (by simp -implicitDefEqProofs only [go_sem]) ?_
  rintro _ _ ⟨⟨v, rfl, h0, h1⟩, rfl⟩
  obtain ⟨k, rfl⟩ := Int.eq_ofNat_of_zero_le h0
  have h1 : k < xs.length := by omega
  have h1i : (k : Int) < xs.length := by omega
  simp -implicitDefEqProofs only [go_sem, by8, h0, h1i, row_getD _ _ h1]
  exact ⟨h1, _, rfl, List.getElem_mem _⟩
theorem p_oneI : Plain Try.prog 82 := ⟨_, Try.func82, rfl, by decide⟩
abbrev intR (n : Int) : List T := [.int .i64 n]
theorem s_oneI (bs : List Int) (p : Int) (xs : List Int) (h : Drw bs p) (hx : 0 < xs.length ∧ xs.length ≤ 1000) : SpecO Try.prog 82 [.ptr 9000 0 0, .refw 9001] (dwH bs p ++ [(9001, .rows 1 (xs.map intR))])
    (fun r h' => (∃ b, r = I b ∧ b ∈ xs) ∧ h' = dwH bs (p + 1) ++ [(9001, .rows 1 (xs.map intR))]) := by
  refine SpecO.of tysOk mixed Try.func82 rfl (by decide) ?_
  simp -implicitDefEqProofs only [go_sem, Try.f82, by8, List.cons_append, List.nil_append]
  refine CallW.o [(9000, 9000)] (s_pick bs p xs.length h (by omega)) p_pick o80 rfl (by conv => lhs; simp -implicitDefEqProofs only [go_sem]) (by simp -implicitDefEqProofs only [go_sem]) ?_
  rintro _ _ ⟨⟨v, rfl, h0, h1⟩, rfl⟩
  obtain ⟨k, rfl⟩ := Int.eq_ofNat_of_zero_le h0
  have h1 : k < xs.length := by omega
  have h1i : (k : Int) < xs.length := by omega
  simp -implicitDefEqProofs only [go_sem, by8, h0, h1i, row_getD _ _ h1]
  exact ⟨h1, _, rfl, List.getElem_mem _⟩
theorem p_l1Open : Plain Try.prog 58 := ⟨_, Try.func58, rfl, by decide⟩
theorem s_l1Open (bs : List Int) (hb : ∀ x ∈ bs, 0 ≤ x ∧ x ≤ 255) (hl : bs.length ≤ 1048576) : ∃ cs, Drw cs 0 ∧ SpecB Try.prog 58 [by8 bs] [by8 cs, I 0] := by
  refine ⟨bs.take 2000, ⟨fun x hx => hb x (List.mem_of_mem_take hx), by simp; omega, by omega, by omega⟩, ?_⟩
  refine SpecB.of tysOk mixed Try.func58 rfl (by decide) rfl ?_
  simp -implicitDefEqProofs only [go_sem, Try.f58]
  refine BrA_i (fun h1 => ?_) (fun h1 => ?_) <;> simp -implicitDefEqProofs only [go_sem]
  · have e : List.take (Int.toNat 2000 - Int.toNat 0) (List.drop (Int.toNat 0) (List.map (fun b => [T.int IntKind.u8 b]) bs)) = (bs.take 2000).map fun b => [T.int IntKind.u8 b] := by
      show List.take 2000 (List.map _ bs) = _
      rw [List.map_take]
    rw [e]
    have h1 := of_decide_eq_true h1
    exact ⟨by omega, 2, 80, rfl, rfl, by decide, rfl⟩
  · have h1 := of_decide_eq_false h1
    have e : bs.take 2000 = bs := List.take_of_length_le (by omega)
    rw [e]
    exact ⟨2, 80, rfl, rfl, by decide, rfl⟩
theorem p_l1Many : Plain Try.prog 112 := ⟨_, Try.func112, rfl, by decide⟩
theorem s_l1Many (s : ByteArray) (n : Nat) (hs : s.size ≤ 1) (hn : n < 100) : Spec Try.prog 112 [.t (.str s), I n] (fun r => ∃ b, r = .t (.str b) ∧ b.size ≤ 1000 ∧ ∀ c ∈ b.data.toList, c ∈ s.data.toList) := by
  obtain ⟨s0, hs0⟩ : ∃ s0 : ByteArray, s0 = s := ⟨_, rfl⟩
  rw [← hs0]
  refine Spec.of tysOk mixed Try.func112 rfl (by decide) ?_
  simp -implicitDefEqProofs only [go_sem, Try.f112]
  refine LoopW.slotsM [true, true, false, false, false, true, false, false, false, false, false, false, false, false, false, false, false, false, false, false] (α := ByteArray × Nat × ByteArray × Nat) (fun x => [(0, .t (.str x.1)), (1, I x.2.1), (5, .t (.str x.2.2.1))]) (fun _ => []) (fun x => x.2.1) (fun x => x.2.2.1.size ≤ x.1.size ∧ x.2.1 < 2 ^ x.2.2.2 ∧ x.1.size * 2 ^ x.2.2.2 ≤ 1000 ∧ x.2.1 < 100 ∧ (∀ c ∈ x.1.data.toList, c ∈ s0.data.toList) ∧ ∀ c ∈ x.2.2.1.data.toList, c ∈ s0.data.toList) (s0, n, ⟨#[]⟩, 7) (by simp -implicitDefEqProofs only [go_sem, LeTs_undef, LeTs_same, LeTs_nil]; try simp [LeTs]) rfl ⟨Nat.zero_le _, (show n < 2 ^ 7 by omega), (show s0.size * 2 ^ 7 ≤ 1000 by rw [hs0]; omega), hn, fun _ h => h, fun _ h => (by cases h)⟩ ?_
  clear hs0 hs s
  rintro ⟨s, n, o, f⟩ ⟨h1, h2, h3, h8, h9, h10⟩
  simp only at h1 h2 h3 h8 h9 h10
  have hss9 : ∀ c ∈ (s ++ s).data.toList, c ∈ s0.data.toList := fun c hc => by
    rw [ByteArray.data_append, Array.toList_append, List.mem_append] at hc
    exact hc.elim (h9 c) (h9 c)
  have hos9 : ∀ c ∈ (o ++ s).data.toList, c ∈ s0.data.toList := fun c hc => by
    rw [ByteArray.data_append, Array.toList_append, List.mem_append] at hc
    exact hc.elim (h10 c) (h9 c)
  simp -implicitDefEqProofs only [go_sem]
  refine BrA_i (fun h => ?_) (fun h => ?_) <;> simp -implicitDefEqProofs only [go_sem]
  · have h : 0 < n := by simp at h; omega
    obtain ⟨f, rfl⟩ : ∃ g, f = g + 1 := ⟨f - 1, by cases f <;> simp at h2 ⊢; omega⟩
    rw [Nat.pow_succ] at h2 h3
    have h4 : s.size * 2 ≤ 1000 := by
      have := Nat.one_le_two_pow (n := f)
      have h5 : s.size * 2 * 1 ≤ s.size * 2 * 2 ^ f := Nat.mul_le_mul_left _ this
      have h6 : s.size * (2 ^ f * 2) = s.size * 2 * 2 ^ f := by rw [Nat.mul_comm (2 ^ f) 2, Nat.mul_assoc]
      omega
    have e1 : (n : Int).tmod 2 = ((n % 2 : Nat) : Int) := rfl
    have e2 : IntKind.i64.wrap ((n : Int).tdiv 2) = ((n / 2 : Nat) : Int) := by
      have h0 : (n : Int).tdiv 2 = ((n / 2 : Nat) : Int) := rfl
      rw [h0, wrap64 (by omega) (by omega)]
    have hss : (s ++ s).size = s.size + s.size := ByteArray.size_append
    have hos : (o ++ s).size = o.size + s.size := ByteArray.size_append
    have h7 : (s ++ s).size * 2 ^ f ≤ 1000 := by
      rw [hss]
      have : s.size * (2 ^ f * 2) = (s.size + s.size) * 2 ^ f := by rw [Nat.mul_comm (2 ^ f) 2, ← Nat.mul_assoc, Nat.mul_two]
      omega
    have m1 : (o.size : Int) + s.size ≤ strMax := by unfold strMax; omega
    have m2 : (s.size : Int) + s.size ≤ strMax := by unfold strMax; omega
    simp -implicitDefEqProofs only [go_sem, e1, e2, m1, m2]
    refine BrA_i (fun h => ?_) (fun h => ?_) <;> simp -implicitDefEqProofs only [go_sem, e1, e2, m1, m2]
    · refine .to [] (s ++ s, n / 2, o ++ s, f) rfl ?_ rfl (by show n / 2 < n; omega) ⟨by show (o ++ s).size ≤ (s ++ s).size; omega, by show n / 2 < 2 ^ f; omega, h7, by show n / 2 < 100; omega, hss9, hos9⟩
      simp -implicitDefEqProofs only [go_sem, LeTs_undef, LeTs_same, LeTs_nil]
    · refine .to [] (s ++ s, n / 2, o, f) rfl ?_ rfl (by show n / 2 < n; omega) ⟨by show o.size ≤ (s ++ s).size; omega, by show n / 2 < 2 ^ f; omega, h7, by show n / 2 < 100; omega, hss9, h10⟩
      simp -implicitDefEqProofs only [go_sem, LeTs_undef, LeTs_same, LeTs_nil]
  · refine ⟨o, rfl, ?_, h10⟩
    have := Nat.one_le_two_pow (n := f)
    have h5 : s.size * 1 ≤ s.size * 2 ^ f := Nat.mul_le_mul_left _ this
    omega
theorem p_l11Text : Plain Try.prog 81 := ⟨_, Try.func81, rfl, by decide⟩
theorem s_l11Text (bs : List Int) (p : Int) (h : Drw bs p) : SpecO Try.prog 81 [.ptr 9000 0 0] (dwH bs p)
    (fun r h' => (∃ b, r = .t (.str b) ∧ b.size ≤ 1000 ∧ ∀ c ∈ b.data.toList, c ≠ 102) ∧ h' = dwH bs (p + 1)) := by
  refine SpecO.of tysOk mixed Try.func81 rfl (by decide) ?_
  simp -implicitDefEqProofs only [go_sem, Try.f81]
  refine CallW.p (s_l1Many ⟨#[120]⟩ 40 (by decide) (by decide)) p_l1Many rfl rfl ?_
  rintro _ ⟨b, rfl, hb, hb2⟩
  simp -implicitDefEqProofs only [go_sem]
  refine CallW.o [(9000, 9000), (9001, 40)] (s_of bs p [⟨#[]⟩, ⟨#[97]⟩, ⟨#[98]⟩, ⟨#[99]⟩, ⟨#[53]⟩, ⟨#[45, 51]⟩, ⟨#[104, 101, 108, 108, 111]⟩, ⟨#[13, 10]⟩, ⟨#[255]⟩, b, ⟨#[57, 57, 57, 57, 57, 57, 57, 57, 57]⟩] h (by simp)) p_of o111 rfl (by (conv => lhs; simp -implicitDefEqProofs only [go_sem]) <;> rfl) (by (simp -implicitDefEqProofs only [go_sem]) <;> rfl) ?_
  rintro _ _ ⟨⟨c, rfl, hc⟩, rfl⟩
  simp -implicitDefEqProofs only [go_sem]
  refine ⟨c, rfl, ?_⟩
  have hb3 : ∀ c ∈ b.data.toList, c ≠ 102 := fun c hc => by
    have := hb2 c hc
    simp at this
    subst this
    decide
  simp only [List.mem_cons, List.not_mem_nil, or_false] at hc
  rcases hc with rfl | rfl | rfl | rfl | rfl | rfl | rfl | rfl | rfl | rfl | rfl <;> first | exact ⟨hb, hb3⟩ | decide
end Go.Proofs.Ythbhnjcnbnlidaa.Am
namespace Go.Proofs.Ythbhnjcnbnlidaa.Am
open Go
set_option maxRecDepth 100000
set_option linter.unusedSimpArgs false
set_option linter.unusedVariables false
def decM (n : Nat) : ByteArray := if h : n < 10 then dig n else decM (n / 10) ++ dig (n % 10)
termination_by n
decreasing_by omega
theorem decM_lt {n : Nat} (h : n < 10) : decM n = dig n := by rw [decM, dif_pos h]
theorem decM_ge {n : Nat} (h : ¬ n < 10) : decM n = decM (n / 10) ++ dig (n % 10) := by rw [decM, dif_neg h]
def bval (l : List UInt8) : Nat := l.foldl (fun a b => 10 * a + (b.toNat - 48)) 0
theorem bval_snoc (l : List UInt8) (b : UInt8) : bval (l ++ [b]) = 10 * bval l + (b.toNat - 48) := by simp [bval, List.foldl_append]
theorem dig_list (n : Nat) (h : n < 10) : ∃ b : UInt8, (dig n).data.toList = [b] ∧ b.toNat = 48 + n := by
  refine ⟨UInt8.ofNat (IntKind.u8.wrap (48 + (n : Int))).toNat, rfl, ?_⟩
  have : IntKind.u8.wrap (48 + (n : Int)) = 48 + (n : Int) := by
    simp [IntKind.wrap, IntKind.signed, IntKind.bits]; omega
  rw [this]
  have h2 : (48 + (n : Int)).toNat = 48 + n := by omega
  rw [h2]
  simp [UInt8.toNat_ofNat']
  omega
theorem bval_decM (n : Nat) : bval (decM n).data.toList = n := by
  induction n using Nat.strongRecOn with
  | _ n ih =>
    by_cases h : n < 10
    · obtain ⟨b, h1, h2⟩ := dig_list n h
      rw [decM_lt h, h1]
      simp [bval, h2]
    · obtain ⟨b, h1, h2⟩ := dig_list (n % 10) (by omega)
      rw [decM_ge h, ByteArray.data_append, Array.toList_append, h1, bval_snoc, ih _ (by omega), h2]
      omega
theorem decM_inj {m n : Nat} (h : decM m = decM n) : m = n := by
  have := congrArg (fun b : ByteArray => bval b.data.toList) h
  simpa [bval_decM] using this
theorem decM_size (n : Nat) (h : n < 10000000000000000000) : (decM n).size ≤ 19 := by
  have : ∀ k n, n < 10 ^ (k + 1) → (decM n).size ≤ k + 1 := by
    intro k
    induction k with
    | zero => intro n hn; rw [decM_lt (by simpa using hn)]; show 1 ≤ 1; omega
    | succ k ih =>
      intro n hn
      by_cases h : n < 10
      · rw [decM_lt h]; show 1 ≤ _; omega
      · rw [decM_ge h, ByteArray.size_append]
        have := ih (n / 10) (by rw [Nat.pow_succ] at hn; omega)
        have h1 : (dig (n % 10)).size = 1 := rfl
        omega
  exact this 18 n (by simpa using h)
theorem app_inj {a b c : ByteArray} (h : a ++ b = a ++ c) : b = c := by
  have := congrArg (fun x : ByteArray => x.data.toList) h
  simp only [ByteArray.data_append, Array.toList_append, List.append_cancel_left_eq] at this
  obtain ⟨⟨x⟩⟩ := b
  obtain ⟨⟨y⟩⟩ := c
  simp at this
  rw [this]
theorem p_l1Dec : Plain Try.prog 110 := ⟨_, Try.func110, rfl, by decide⟩
theorem s_l1Dec (n : Nat) (hn : n < 1000000000000000000) : Spec Try.prog 110 [I n] (fun r => r = .t (.str (decM n))) := by
  induction n using Nat.strongRecOn with
  | _ n ih =>
    refine Spec.of tysOk mixed Try.func110 rfl (by decide) ?_
    have h1 : ¬ (n : Int) < -9223372036854775807 := by omega
    have h2 : ¬ (n : Int) < 0 := by omega
    simp -implicitDefEqProofs only [go_sem, Try.f110, h1, h2, decide_false]
    refine BrA_i (fun h => ?_) (fun h => ?_)
    · have h : n < 10 := by have := of_decide_eq_true h; omega
      have w : IntKind.i64.wrap (48 + (n : Int)) = 48 + (n : Int) := wrap64 (by omega) (by omega)
      simp -implicitDefEqProofs only [go_sem, w]
      rw [decM_lt h]; rfl
    · have h : ¬ n < 10 := by have := of_decide_eq_false h; omega
      have e1 : (n : Int).tmod 10 = ((n % 10 : Nat) : Int) := rfl
      have e2 : IntKind.i64.wrap ((n : Int).tdiv 10) = ((n / 10 : Nat) : Int) := by
        have h0 : (n : Int).tdiv 10 = ((n / 10 : Nat) : Int) := rfl
        rw [h0, wrap64 (by omega) (by omega)]
      have w : IntKind.i64.wrap (48 + ((n % 10 : Nat) : Int)) = 48 + ((n % 10 : Nat) : Int) := wrap64 (by omega) (by omega)
      have ed : (⟨#[UInt8.ofNat (IntKind.u8.wrap (48 + ((n % 10 : Nat) : Int))).toNat]⟩ : ByteArray) = dig (n % 10) := rfl
      have hsz := decM_size (n / 10) (by omega)
      have hs2 : ((decM (n / 10)).size : Int) + (dig (n % 10)).size ≤ strMax := by
        have : (dig (n % 10)).size = 1 := rfl
        unfold strMax; omega
      simp -implicitDefEqProofs only [go_sem]
      refine RegD_of sch_110_7 tysOk (by kernel_rfl) ?_
      simp -implicitDefEqProofs only [go_sem, e1, e2, w]
      refine ⟨?_, ?_⟩
      all_goals (first | (refine CallW.one (ih (n / 10) (by omega) (by omega)) p_l1Dec rfl trivial ?_) | skip)
      all_goals simp -implicitDefEqProofs only [go_sem, e1, e2, w, ed, hs2, decM_ge h]
end Go.Proofs.Ythbhnjcnbnlidaa.Am
namespace Go.Proofs.Ythbhnjcnbnlidaa.Am
open Go
set_option maxRecDepth 100000
set_option maxHeartbeats 4000000
set_option linter.unusedSimpArgs false
set_option linter.unusedVariables false
theorem Drw.to {bs : List Int} {p q : Int} (h : Drw bs p) (h0 : p ≤ q) (h1 : q ≤ 1000000000) : Drw bs q := ⟨h.b, h.l, by have := h.p0; omega, h1⟩
theorem p_l11TextN : Plain Try.prog 81 := p_l11Text
theorem s_l11TextN (bs : List Int) (p : Int) (h : Drw bs p) : SpecO Try.prog 81 [.ptr 9000 0 0] (dwH bs p)
    (fun r h' => (∃ b, r = .t (.str b) ∧ b.size ≤ 1000 ∧ ∀ c ∈ b.data.toList, c ≠ 110) ∧ h' = dwH bs (p + 1)) := by
  refine SpecO.of tysOk mixed Try.func81 rfl (by decide) ?_
  simp -implicitDefEqProofs only [go_sem, Try.f81]
  refine CallW.p (s_l1Many ⟨#[120]⟩ 40 (by decide) (by decide)) p_l1Many rfl rfl ?_
  rintro _ ⟨b, rfl, hb, hb2⟩
  simp -implicitDefEqProofs only [go_sem]
  refine CallW.o [(9000, 9000), (9001, 40)] (s_of bs p [⟨#[]⟩, ⟨#[97]⟩, ⟨#[98]⟩, ⟨#[99]⟩, ⟨#[53]⟩, ⟨#[45, 51]⟩, ⟨#[104, 101, 108, 108, 111]⟩, ⟨#[13, 10]⟩, ⟨#[255]⟩, b, ⟨#[57, 57, 57, 57, 57, 57, 57, 57, 57]⟩] h (by simp)) p_of o111 rfl (by (conv => lhs; simp -implicitDefEqProofs only [go_sem]) <;> rfl) (by (simp -implicitDefEqProofs only [go_sem]) <;> rfl) ?_
  rintro _ _ ⟨⟨c, rfl, hc⟩, rfl⟩
  simp -implicitDefEqProofs only [go_sem]
  refine ⟨c, rfl, ?_⟩
  have hb3 : ∀ c ∈ b.data.toList, c ≠ 110 := fun c hc => by
    have := hb2 c hc
    simp at this
    subst this
    decide
  simp only [List.mem_cons, List.not_mem_nil, or_false] at hc
  rcases hc with rfl | rfl | rfl | rfl | rfl | rfl | rfl | rfl | rfl | rfl | rfl <;> first | exact ⟨hb, hb3⟩ | decide
def noN (l : List Sc) : Prop := ∀ x ∈ l, ∀ c ∈ x.text.data.toList, c ≠ 110
def freshN (n : Nat) (l : List Sc) : Prop := ∀ x ∈ l, ∀ m, n ≤ m → x.text ≠ ⟨#[110]⟩ ++ decM m
theorem woSc_no {l : List Sc} {t : ByteArray} (h : ∀ x ∈ l, x.text ≠ t) : woSc l t = l := by
  unfold woSc
  rw [List.filter_eq_self]
  intro x hx
  simp [h x hx]
theorem putSc_mem {l : List Sc} {s x : Sc} (h : x ∈ (putSc l s).1) : x = s ∨ x ∈ l := by
  unfold putSc at h
  split at h
  · split at h
    · have := (insSc_perm s _).mem_iff.1 h
      rcases List.mem_cons.1 this with e | hx
      · exact .inl e
      · exact .inr (List.mem_filter.1 hx).1
    · exact .inr h
  · cases h
theorem putSc_ok (l : List Sc) (s : Sc) : scoresOkM (putSc l s).1 = true := by
  unfold putSc
  split
  · split
    · assumption
    · assumption
  · rfl
theorem putSc_new {l : List Sc} {s : Sc} (hl : scoresOkM l = true) (hs : scGood s = true) (hn : ∀ x ∈ l, x.text ≠ s.text) (h16 : l.length < 16) : (putSc l s).1 = insSc l s ∧ (putSc l s).1.length = l.length + 1 := by
  have hw := woSc_no hn
  have hok : scoresOkM (insSc l s) = true := by
    rw [scoresOkM_iff] at hl ⊢
    obtain ⟨h1, h2, h3, h4⟩ := hl
    have hp := insSc_perm s l
    refine ⟨insSc_srt s h1, ?_, fun x hx => ?_, by rw [insSc_len]; omega⟩
    · refine List.Nodup.perm ?_ (hp.map Sc.text).symm
      rw [List.map_cons, List.nodup_cons]
      refine ⟨fun hm => ?_, h2⟩
      obtain ⟨x, hx, e⟩ := List.mem_map.1 hm
      exact hn x hx e
    · rcases List.mem_cons.1 (hp.mem_iff.1 hx) with rfl | hx
      · exact hs
      · exact h3 x hx
  have e : (putSc l s).1 = insSc l s := by
    unfold putSc
    rw [if_pos hl, hw, if_pos hok]
  exact ⟨e, by rw [e, insSc_len]⟩
theorem deep_putScR (x : List Sc × Bool × Bool) : DeepR (putScR x) := ⟨deep_scs _, trivial, trivial, trivial⟩
abbrev scs (l : List Sc) : AV := .t (.list false 2 (l.map Sc.row))
theorem p_l11Scores : Plain Try.prog 79 := ⟨_, Try.func79, rfl, by decide⟩
theorem s_l11Scores (bs : List Int) (p : Int) (h : Drw bs p) (hp : p ≤ 900000000) : SpecO Try.prog 79 [.ptr 9000 0 0] (dwH bs p)
    (fun r h' => (∃ l : List Sc, r = .own (.list true 2 (l.map Sc.row)) ∧ scoresOkM l = true) ∧ ∃ q, h' = dwH bs q ∧ p ≤ q ∧ q ≤ p + 20) := by
  refine SpecO.of tysOk mixed Try.func79 rfl (by decide) ?_
  simp -implicitDefEqProofs only [go_sem, Try.f79]
  refine CallW.o [(9000, 9000)] (s_pick bs p 7 h (by omega)) p_pick o80 rfl (by (conv => lhs; simp -implicitDefEqProofs only [go_sem]) <;> rfl) (by (simp -implicitDefEqProofs only [go_sem]) <;> rfl) ?_
  rintro _ _ ⟨⟨v, rfl, h0, h2⟩, rfl⟩
  obtain ⟨k, rfl⟩ := Int.eq_ofNat_of_zero_le h0
  simp -implicitDefEqProofs only [go_sem]
  refine LoopW.slotsM [true, false, false, true, true, false, false, false, false, false, false, false, false, false, false, false, false, false, false, false, false, false, false, false, false, false, false, false, false, false, false, false, false, false, false, false, false, false, false, false, false, false, false, false, false, false] (α := Nat × List Sc × Int) (fun x => [(4, I x.1)]) (fun x => [(48, .rows 2 (x.2.1.map Sc.row)), (9000, .box [by8 bs, I x.2.2])]) (fun x => x.1) (fun x => x.1 ≤ k ∧ scoresOkM x.2.1 = true ∧ p ≤ x.2.2 ∧ x.2.2 ≤ p + 1 + 2 * (k - x.1) ∧ noN x.2.1) (k, [], p + 1) (by simp -implicitDefEqProofs only [go_sem, LeTs_undef, LeTs_same, LeTs_nil]; try simp [LeTs]) (by simp -implicitDefEqProofs only [go_sem, List.map_nil]) ⟨by simp, rfl, by simp only; omega, by simp only; omega, fun _ h => by cases h⟩ ?_
  rintro ⟨n, l, q⟩ ⟨g1, g2, g3, g4, g5⟩
  simp only at g1 g2 g3 g4 g5
  have hl := scoresOkM_len g2
  simp -implicitDefEqProofs only [go_sem]
  refine BrA_i (fun h => ?_) (fun h => ?_) <;> simp -implicitDefEqProofs only [go_sem]
  · have h' : 0 < n := by have := of_decide_eq_true h; omega
    refine CallW.o [(9000, 9000)] (s_l11TextN bs q (by exact Drw.to (by assumption) (by omega) (by omega))) p_l11TextN o81 rfl (by (conv => lhs; simp -implicitDefEqProofs only [go_sem]) <;> rfl) (by (simp -implicitDefEqProofs only [go_sem]) <;> rfl) ?_
    rintro _ _ ⟨⟨a, rfl, ha, ha2⟩, rfl⟩
    simp -implicitDefEqProofs only [go_sem]
    refine CallW.o [(9000, 9000), (9001, 144)] (s_oneI bs (q + 1) [0, 1, 1, 2, -5, 7, 1000000000] (by exact Drw.to (by assumption) (by omega) (by omega)) (by simp)) p_oneI o82 rfl (by (conv => lhs; simp -implicitDefEqProofs only [go_sem]) <;> rfl) (by (simp -implicitDefEqProofs only [go_sem]) <;> rfl) ?_
    rintro _ _ ⟨⟨b, rfl, hb⟩, rfl⟩
    simp -implicitDefEqProofs only [go_sem]
    refine CallW.one (s_sScoresPut l ⟨a, b⟩ (by omega)) p_sScoresPut (by first | (simp -implicitDefEqProofs only [go_sem]; done) | ((conv => lhs; simp -implicitDefEqProofs only [go_sem]); done) | (simp -implicitDefEqProofs only [go_sem]; rfl) | rfl) (deep_putScR _) ?_
    have wn : IntKind.i64.wrap ((n : Int) - 1) = ((n - 1 : Nat) : Int) := by rw [wrap64 (by omega) (by omega)]; omega
    simp -implicitDefEqProofs only [go_sem, wn]
    refine .toR [48, 144] [(169, 48)] (n - 1, (putSc l ⟨a, b⟩).1, q + 1 + 1) rfl rfl ?_ ?_ (by show n - 1 < n; omega) ⟨by simp only; omega, putSc_ok _ _, by simp only; omega, by simp only; omega, fun x hx => (putSc_mem hx).elim (fun e => by subst e; exact ha2) (g5 x)⟩
    · simp -implicitDefEqProofs only [go_sem, LeTs_undef, LeTs_same, LeTs_nil]
    · simp -implicitDefEqProofs only [go_sem]
  · clear hl
    refine CallW.o [(9000, 9000)] (s_pick bs q 30 (by exact Drw.to (by assumption) (by omega) (by omega)) (by omega)) p_pick o80 rfl (by (conv => lhs; simp -implicitDefEqProofs only [go_sem]) <;> rfl) (by (simp -implicitDefEqProofs only [go_sem]) <;> rfl) ?_
    rintro _ _ ⟨⟨v, rfl, v0, v1⟩, rfl⟩
    simp -implicitDefEqProofs only [go_sem]
    refine BrA_i (fun h2 => ?_) (fun h2 => ?_) <;> simp -implicitDefEqProofs only [go_sem]
    · have hfr : freshN 0 l := fun x hx m _ e => by
        have := g5 x hx 110 (by rw [e, ByteArray.data_append, Array.toList_append]; simp)
        exact this rfl
      refine LoopW.slotsM [false, false, false, true, false, true, false, false, false, false, false, false, false, false, false, false, false, false, false, false, false, false, false, false, false, false, false, false, false, false, false, false, false, false, false, false, false, false, false, false, false, false, false, false, false, false] (α := Nat × List Sc) (fun x => [(5, I x.1)]) (fun x => [(48, .rows 2 (x.2.map Sc.row)), (9000, .box [by8 bs, I (q + 1)])]) (fun x => 16 - x.2.length) (fun x => scoresOkM x.2 = true ∧ freshN x.1 x.2 ∧ x.1 ≤ x.2.length) (0, l) (by simp -implicitDefEqProofs only [go_sem, LeTs_undef, LeTs_same, LeTs_nil]; try simp [LeTs]) rfl ⟨g2, hfr, by simp⟩ ?_
      clear hfr g5 g2
      rintro ⟨n, l⟩ ⟨g1, g2, g3⟩
      simp only at g1 g2 g3
      have hl := scoresOkM_len g1
      simp -implicitDefEqProofs only [go_sem]
      refine BrA_i (fun h => ?_) (fun h => ?_) <;> simp -implicitDefEqProofs only [go_sem]
      · have h' : l.length < 16 := by have := of_decide_eq_true h; omega
        have hsz := decM_size n (by omega)
        have hs1 : ((⟨#[110]⟩ : ByteArray).size : Int) + (decM n).size ≤ strMax := by
          have : (⟨#[110]⟩ : ByteArray).size = 1 := rfl
          unfold strMax; omega
        refine CallW.one (s_l1Dec n (by omega)) p_l1Dec (by first | (simp -implicitDefEqProofs only [go_sem]; done) | ((conv => lhs; simp -implicitDefEqProofs only [go_sem]); done) | (simp -implicitDefEqProofs only [go_sem]; rfl) | rfl) (by first | trivial | (simp [DeepR, DeepV, DeepVs, DeepC, DeepCs, T.scal]; done)) ?_
        simp -implicitDefEqProofs only [go_sem, hs1]
        refine ⟨hs1, ?_⟩
        obtain ⟨c, hc⟩ : ∃ c : Int, c = (n : Int).tmod 3 := ⟨_, rfl⟩
        have hc2 : 0 ≤ c ∧ c ≤ 2 := by rw [hc, Int.tmod_eq_emod_of_nonneg (by omega)]; omega
        rw [← hc]
        have hgood : scGood ⟨⟨#[110]⟩ ++ decM n, c⟩ = true := by
          have h1 : ((⟨#[110]⟩ : ByteArray) ++ decM n).size = 1 + (decM n).size := by rw [ByteArray.size_append]; rfl
          simp only [scGood, h1, Bool.and_eq_true, decide_eq_true_eq, withinM]
          omega
        obtain ⟨e1, e2⟩ := putSc_new (s := ⟨⟨#[110]⟩ ++ decM n, c⟩) g1 hgood (fun x hx => g2 x hx n (Nat.le_refl _)) h'
        refine CallW.one (s_sScoresPut l ⟨⟨#[110]⟩ ++ decM n, c⟩ (by omega)) p_sScoresPut (by first | (simp -implicitDefEqProofs only [go_sem]; done) | ((conv => lhs; simp -implicitDefEqProofs only [go_sem]); done) | (simp -implicitDefEqProofs only [go_sem]; rfl) | rfl) (deep_putScR _) ?_
        have wn : IntKind.i64.wrap ((n : Int) + 1) = ((n + 1 : Nat) : Int) := by rw [wrap64 (by omega) (by omega)]; omega
        simp -implicitDefEqProofs only [go_sem, wn]
        refine .toR [48] [(329, 48)] (n + 1, (putSc l ⟨⟨#[110]⟩ ++ decM n, c⟩).1) rfl rfl ?_ ?_ (by show 16 - (putSc l _).1.length < 16 - l.length; rw [e2]; omega) ⟨putSc_ok _ _, fun x hx m hm => ?_, by show n + 1 ≤ (putSc l _).1.length; rw [e2]; omega⟩
        · simp -implicitDefEqProofs only [go_sem, LeTs_undef, LeTs_same, LeTs_nil]
        · simp -implicitDefEqProofs only [go_sem]
        · rcases putSc_mem hx with e | hx
          · subst e
            intro e
            have := decM_inj (app_inj e)
            simp only at hm
            omega
          · exact g2 x hx m (by simp only at hm; omega)
      · exact ⟨⟨l, rfl, g1⟩, _, rfl, by omega, by omega⟩
    · exact ⟨⟨l, rfl, g2⟩, _, rfl, by omega, by omega⟩
theorem p_l11AnyScores : Plain Try.prog 59 := ⟨_, Try.func59, rfl, by decide⟩
theorem s_l11AnyScores (bs : List Int) (p : Int) (h : Drw bs p) (hp : p ≤ 900000000) : SpecO Try.prog 59 [.ptr 9000 0 0] (dwH bs p)
    (fun r h' => (∃ l : List Sc, r = .own (.list true 2 (l.map Sc.row)) ∧ l.length ≤ 17) ∧ ∃ q, h' = dwH bs q ∧ p ≤ q ∧ q ≤ p + 30) := by
  refine SpecO.of tysOk mixed Try.func59 rfl (by decide) ?_
  simp -implicitDefEqProofs only [go_sem, Try.f59]
  refine CallW.o [(9000, 9000)] (s_l11Scores bs p h hp) p_l11Scores o79 rfl (by (conv => lhs; simp -implicitDefEqProofs only [go_sem]) <;> rfl) (by (simp -implicitDefEqProofs only [go_sem]) <;> rfl) ?_
  rintro _ _ ⟨⟨l, rfl, hl⟩, q, rfl, h0, h1⟩
  have hlen := scoresOkM_len hl
  simp -implicitDefEqProofs only [go_sem]
  refine CallW.o [(9000, 9000)] (s_pick bs q 10 (h.to (by omega) (by omega)) (by omega)) p_pick o80 rfl (by (conv => lhs; simp -implicitDefEqProofs only [go_sem]) <;> rfl) (by (simp -implicitDefEqProofs only [go_sem]) <;> rfl) ?_
  rintro _ _ ⟨⟨v, rfl, v0, v1⟩, rfl⟩
  simp -implicitDefEqProofs only [go_sem]
  refine BrA_i (fun h2 => ?_) (fun h2 => ?_) <;> simp -implicitDefEqProofs only [go_sem]
  · refine CallW.o [(9000, 9000)] (s_l11Text bs (q + 1) (h.to (by omega) (by omega))) p_l11Text o81 rfl (by (conv => lhs; simp -implicitDefEqProofs only [go_sem]) <;> rfl) (by (simp -implicitDefEqProofs only [go_sem]) <;> rfl) ?_
    rintro _ _ ⟨⟨a, rfl, ha⟩, rfl⟩
    simp -implicitDefEqProofs only [go_sem]
    refine CallW.o [(9000, 9000), (9001, 104)] (s_oneI bs (q + 1 + 1) [0, 1000000001] (h.to (by omega) (by omega)) (by simp)) p_oneI o82 rfl (by (conv => lhs; simp -implicitDefEqProofs only [go_sem]) <;> rfl) (by (simp -implicitDefEqProofs only [go_sem]) <;> rfl) ?_
    rintro _ _ ⟨⟨b, rfl, hb⟩, rfl⟩
    simp -implicitDefEqProofs only [go_sem]
    refine ⟨by unfold roomy; omega, ⟨l ++ [⟨a, b⟩], by simp [Sc.row], by simp; omega⟩, _, rfl, by omega, by omega⟩
  · exact ⟨⟨l, rfl, by omega⟩, _, rfl, by omega, by omega⟩
theorem by8_mkS (bs : List Int) : (bs.map fun b => [T.int .u8 b]).map (List.map (T.mk false)) = bs.map fun b => [T.int .u8 b] := Am.mk_rows _ (fun _ => rfl) bs
attribute [go_sem] by8_mkS
theorem p_DrawScoresAny : Plain Try.prog 31 := ⟨_, Try.func31, rfl, by decide⟩
theorem s_DrawScoresAny (bs : List Int) (hb : ∀ x ∈ bs, 0 ≤ x ∧ x ≤ 255) (hl : bs.length ≤ 1048576) : Spec Try.prog 31 [by8 bs] (fun r => ∃ a b : List Sc, mkR (shareR r) = .tup [scs a, scs b] ∧ a.length ≤ 17 ∧ b.length ≤ 17) := by
  obtain ⟨cs, hd, ho⟩ := s_l1Open bs hb hl
  refine Spec.of tysOk mixed Try.func31 rfl (by decide) ?_
  simp -implicitDefEqProofs only [go_sem, Try.f31]
  refine CallW.box ho p_l1Open rfl rfl rfl rfl rfl (by decide) ?_
  simp -implicitDefEqProofs only [go_sem]
  refine CallW.o [(9000, 49)] (s_l11AnyScores cs 0 hd (by omega)) p_l11AnyScores o59 rfl (by (conv => lhs; simp -implicitDefEqProofs only [go_sem]) <;> rfl) (by (simp -implicitDefEqProofs only [go_sem]) <;> rfl) ?_
  rintro _ _ ⟨⟨a, rfl, ha⟩, q, rfl, q0, q1⟩
  simp -implicitDefEqProofs only [go_sem]
  refine CallW.o [(9000, 49)] (s_l11AnyScores cs q (hd.to (by omega) (by omega)) (by omega)) p_l11AnyScores o59 rfl (by (conv => lhs; simp -implicitDefEqProofs only [go_sem]) <;> rfl) (by (simp -implicitDefEqProofs only [go_sem]) <;> rfl) ?_
  rintro _ _ ⟨⟨b, rfl, hb⟩, q2, rfl, q3, q4⟩
  simp -implicitDefEqProofs only [go_sem]
  exact ⟨a, b, by simp -implicitDefEqProofs only [go_sem], ha, hb⟩
end Go.Proofs.Ythbhnjcnbnlidaa.Am
namespace Go.Proofs.Ythbhnjcnbnlidaa.Am
open Go Go.ChangeShapes Go.WideShapes Go.RowKit
def RdRow (w : World) (ts : List T) (cs : List Value) : Prop := ts.length = cs.length ∧ ∀ (j : Nat) (t : T) (v : Value), ts[j]? = some t → cs[j]? = some v → Rd w (fun b => b < w.heap.size) t v
structure Opn (P : Program) (t : TypeId) (sz : Nat) {α : Type} (row : α → List T) (G : α → Prop) : Prop where
  len : ∀ x, (row x).length = sz
  op : ∀ {H : Type} {enc : TypeId × Value → H} {W : World} {fuel : Nat} {cs : List Value} {D : DataW H} {ps : List MemPlace},
    DataW.trod enc P W 0 (fun _ => true) true fuel t cs = some (D, ps) → (∀ n ∈ DataW.weights P t D, n ≤ reachBytes) → ∃ x, RdRow W (row x) cs ∧ G x
theorem RdRow.one {w : World} {t : T} {v : Value} (h : Rd w (fun b => b < w.heap.size) t v) : RdRow w [t] [v] :=
  ⟨rfl, fun j t' v' h1 h2 => by
    cases j with
    | zero => simp at h1 h2; subst h1 h2; exact h
    | succ j => simp at h1⟩
theorem RdRow.append {w : World} {a b : List T} {c d : List Value} (h : RdRow w a c) (h' : RdRow w b d) : RdRow w (a ++ b) (c ++ d) :=
  ⟨by simp [h.1, h'.1], fun j t v h1 h2 => by
    rw [List.getElem?_append] at h1 h2
    have := h.1
    split at h1
    · rename_i hj
      rw [if_pos (by omega)] at h2
      exact h.2 j t v h1 h2
    · rename_i hj
      rw [if_neg (by omega)] at h2
      rw [this] at h1
      exact h'.2 _ t v h1 h2⟩
section
variable {P : Program} {t : TypeId}
theorem Opn.int {k : IntKind} (hu : P.underlying t = some (.int k)) : Opn P t 1 (fun x : Int => [T.int k x]) (fun x => (Lit.int k x).wf = true) where
  len := fun _ => rfl
  op := fun h _ => by
    obtain ⟨m, rfl, _, hw⟩ := DataW.trod_int hu h
    exact ⟨m, .one (.int _ _), hw⟩
theorem Opn.bool (hu : P.underlying t = some .bool) : Opn P t 1 (fun x : Bool => [T.bool x]) (fun _ => True) where
  len := fun _ => rfl
  op := fun h _ => by
    obtain ⟨m, rfl, _⟩ := DataW.trod_bool hu h
    exact ⟨m, .one (.bool _), trivial⟩
theorem Opn.string (hu : P.underlying t = some .string) : Opn P t 1 (fun x : ByteArray => [T.str x]) (fun x => x.size ≤ 140737488351232) where
  len := fun _ => rfl
  op := fun h hz => by
    obtain ⟨m, rfl, e, _⟩ := DataW.trod_string hu h
    obtain ⟨rfl, _⟩ := Prod.mk.inj e
    refine ⟨m, .one (.str _), ?_⟩
    have := hz m.data.toList.length (by simp [DataW.weights])
    simpa [reachBytes] using this
theorem Opn.slice {e : TypeId} {sz : Nat} {α : Type} {row : α → List T} {G : α → Prop} (he : Opn P e sz row G) (hu : P.underlying t = some (.slice e)) (hc : P.cellsOf e = sz) (hs : 0 < sz) {B : Nat} (hB : P.bytesOf e = B) :
    Opn P t 1 (fun xs : List α => [T.list false sz (xs.map row)]) (fun xs => xs.length * B ≤ 140737488351232 ∧ ∀ x ∈ xs, G x) where
  len := fun _ => rfl
  op := fun {H enc W fuel cs D ps} h hz => by
    rcases DataW.trod_slice hu h with ⟨rfl, _⟩ | ⟨a, len, cap, elems, rest, n, _, rfl, hx, hb, hl, hm, hlen, hel, hsp, _⟩
    · exact ⟨[], .one (.nil ..), by simp, by simp⟩
    · obtain ⟨rfl, _⟩ := Prod.mk.inj hx
      have hw0 := hz ((elems.map (·.1)).length + (rest.map (·.1)).length |>.mul (P.bytesOf e)) (by simp [DataW.weights, hu])
      have each : ∀ i, i < len → ∃ x c, RdRow W (row x) c ∧ G x ∧ c.length = sz ∧ ∀ j u, c[j]? = some u → W.cell? (a.add (i * sz + j)) = some u := by
        intro i hi
        have h1 := hel i hi
        have hil : i < elems.length := by omega
        rw [List.getElem?_eq_getElem hil] at h1
        rw [Option.bind_eq_some_iff] at h1
        obtain ⟨c, hcs, hy⟩ := h1
        have hD : ∀ m ∈ DataW.weights P e (elems[i]).1, m ≤ reachBytes := by
          intro m hmem
          refine hz m ?_
          simp only [DataW.weights, hu]
          refine List.mem_cons_of_mem _ (List.mem_append_left _ ?_)
          have : ∀ (l : List (DataW H)) (y : DataW H), y ∈ l → m ∈ DataW.weights P e y → m ∈ DataW.weightsAll P e l := by
            intro l
            induction l with
            | nil => intro y hy; cases hy
            | cons z l ih =>
              intro y hy hm2
              simp only [DataW.weightsAll, List.mem_append]
              rcases List.mem_cons.1 hy with rfl | hy
              · exact Or.inl hm2
              · exact Or.inr (ih y hy hm2)
          exact this _ _ (List.mem_map.2 ⟨elems[i], List.getElem_mem hil, rfl⟩) hmem
        obtain ⟨x, hK, hG⟩ := he.op (show DataW.trod enc P W 0 (fun _ => true) true n e c = some ((elems[i]).1, (elems[i]).2) from hy) hD
        obtain ⟨hb1, hb2, hb3⟩ := World.cells?_some hcs
        have hlen2 : c.length = sz := by rw [← hK.1, he.len]
        refine ⟨x, c, hK, hG, hlen2, fun j u hu2 => ?_⟩
        have hj := (List.getElem?_eq_some_iff.1 hu2).1
        have h3 := hb3 j (by rw [hc]; omega)
        rw [hu2] at h3
        rw [← h3, hc, Addr.add_add]
      have pick : ∀ l, l ≤ len → ∃ xs : List α, xs.length = l ∧ (∀ x ∈ xs, G x) ∧ ∀ j p, xs[j]? = some p → ∃ c, c.length = sz ∧ RdRow W (row p) c ∧ ∀ i u, c[i]? = some u → W.cell? (a.add (j * sz + i)) = some u := by
        intro l
        induction l with
        | zero => exact fun _ => ⟨[], rfl, by simp, fun j p h => by simp at h⟩
        | succ l ih =>
          intro hll
          obtain ⟨xs, h1, h2, h3⟩ := ih (by omega)
          obtain ⟨x, c, q1, q2, q3, q4⟩ := each l (by omega)
          refine ⟨xs ++ [x], by simp [h1], ?_, ?_⟩
          · intro y hy
            rcases List.mem_append.1 hy with hy | hy
            · exact h2 y hy
            · obtain rfl := List.mem_singleton.1 hy
              exact q2
          · intro j p hj
            by_cases hjl : j < xs.length
            · exact h3 j p (by rwa [List.getElem?_append_left hjl] at hj)
            · rw [List.getElem?_append_right (by omega)] at hj
              have : j - xs.length = 0 := by
                have := (List.getElem?_eq_some_iff.1 hj).1
                simpa using this
              rw [this] at hj
              have hjl2 : j = l := by omega
              subst hjl2
              obtain rfl : x = p := by simpa using hj
              exact ⟨c, q3, q1, q4⟩
      obtain ⟨xs, h1, h2, h3⟩ := pick len (Nat.le_refl _)
      subst h1
      refine ⟨xs, .one ?_, ?_, h2⟩
      · obtain ⟨ab, ao, asp⟩ := a
        have at0 : ∀ (j : Nat) (p : α), xs[j]? = some p → ∀ i, i < sz → ∃ u, W.cell? ⟨ab, ao + (j * sz + i), none⟩ = some u ∧ ∀ x, (row p)[i]? = some x → Rd W (fun b => b < W.heap.size) x u := by
          intro j p hj i hi
          obtain ⟨c, c1, c2, c3⟩ := h3 j p hj
          obtain ⟨u, hu2⟩ : ∃ u, c[i]? = some u := ⟨c[i]'(by omega), List.getElem?_eq_getElem _⟩
          have h4 := c3 i u hu2
          refine ⟨u, ?_, fun x hx => c2.2 i x u hx hu2⟩
          by_cases h0 : j * sz + i = 0
          · rw [h0] at h4 ⊢
            have : asp = none := by
              unfold World.cell? at h4
              simp only [Addr.add] at h4
              cases asp with
              | none => rfl
              | some q => simp at h4; split at h4 <;> simp at h4
            subst this
            exact h4
          · unfold Addr.add at h4
            rw [if_neg h0] at h4
            exact h4
        cases xs with
        | nil => exact .nil ..
        | cons x0 xs0 =>
          obtain ⟨u0, hu0, _⟩ := at0 0 x0 rfl 0 hs
          have hab : ab < W.heap.size := by
            unfold World.cell? at hu0
            simp only at hu0
            split at hu0
            · rename_i hh
              exact (Array.getElem?_eq_some_iff.1 hh).1
            · cases hu0
          have e1 : asp = none := by
            obtain ⟨c, c1, c2, c3⟩ := h3 0 x0 rfl
            have h4 := c3 0 (c[0]'(by omega)) (List.getElem?_eq_getElem _)
            simp only [Nat.zero_mul, Nat.add_zero, Addr.add, if_pos] at h4
            unfold World.cell? at h4
            cases asp with
            | none => rfl
            | some q => simp at h4; split at h4 <;> simp at h4
          subst e1
          have hrow : ∀ (i : Nat) (r : List T), ((x0 :: xs0).map row)[i]? = some r → ∃ p, (x0 :: xs0)[i]? = some p ∧ r = row p := by
            intro i r hr
            rw [List.getElem?_map] at hr
            cases hp : (x0 :: xs0)[i]? with
            | none => rw [hp] at hr; cases hr
            | some p => rw [hp] at hr; cases hr; exact ⟨p, rfl, rfl⟩
          have hfin := @Rd.list W (fun b => b < W.heap.size) false sz ((x0 :: xs0).map row) ab ao cap (fun i j => (W.cell? ⟨ab, ao + (i * sz + j), none⟩).getD Go.undef) (by simpa using hl) hab
            (fun i r hr => by obtain ⟨p, _, rfl⟩ := hrow i r hr; exact he.len p)
            (fun i r j x hr hx => by
              obtain ⟨p, hp, rfl⟩ := hrow i r hr
              obtain ⟨u, hu1, _⟩ := at0 i p hp j (by have := (List.getElem?_eq_some_iff.1 hx).1; rw [he.len] at this; exact this)
              simp only [hu1, Option.getD_some])
            (fun i r j x hr hx => by
              obtain ⟨p, hp, rfl⟩ := hrow i r hr
              obtain ⟨u, hu1, hu2⟩ := at0 i p hp j (by have := (List.getElem?_eq_some_iff.1 hx).1; rw [he.len] at this; exact this)
              simp only [hu1, Option.getD_some]
              exact hu2 x hx)
          rwa [List.length_map] at hfin
      have hw1 : (elems.length + rest.length) * P.bytesOf e ≤ reachBytes := by simpa using hw0
      rw [hB] at hw1
      rw [← hlen]
      exact Nat.le_trans (Nat.mul_le_mul_right _ (Nat.le_add_right _ _)) hw1
structure OpnF (P : Program) (fs : List Field) (o sz : Nat) {α : Type} (row : α → List T) (G : α → Prop) : Prop where
  len : ∀ x, (row x).length = sz
  op : ∀ {H : Type} {enc : TypeId × Value → H} {W : World} {fuel : Nat} {cs : List Value} {xs : List (DataW H × List MemPlace)},
    xs.length = fs.length → (∀ (i : Nat) (f : Field), fs[i]? = some f → DataW.trod enc P W 0 (fun _ => true) true fuel f.type ((cs.drop f.offset).take (P.cellsOf f.type)) = xs[i]?) →
    (∀ n ∈ DataW.weightsEach P (fs.map (·.type)) (xs.map (·.1)), n ≤ reachBytes) → cs.length = o + sz → ∃ x, RdRow W (row x) (cs.drop o) ∧ G x
theorem OpnF.one {f : Field} {o sz : Nat} {α : Type} {row : α → List T} {G : α → Prop} (he : Opn P f.type sz row G) (ho : f.offset = o) (hc : P.cellsOf f.type = sz) : OpnF P [f] o sz row G where
  len := he.len
  op := fun {H enc W fuel cs xs} hx h hz hl => by
    match xs, hx with
    | [y], _ =>
      have hy := h 0 f rfl
      rw [ho, hc, List.take_of_length_le (by simp; omega)] at hy
      exact he.op (show _ = some (y.1, y.2) from hy) (fun n hn => hz n (by simp only [List.map_cons, List.map_nil, DataW.weightsEach]; exact List.mem_append_left _ hn))
theorem OpnF.cons {f : Field} {r : List Field} {o sz sz2 : Nat} {α β : Type} {row : α → List T} {row2 : β → List T} {G : α → Prop} {G2 : β → Prop} (he : Opn P f.type sz row G) (ho : f.offset = o) (hc : P.cellsOf f.type = sz) (hr : OpnF P r (o + sz) sz2 row2 G2) :
    OpnF P (f :: r) o (sz + sz2) (fun x : α × β => row x.1 ++ row2 x.2) (fun x => G x.1 ∧ G2 x.2) where
  len := fun x => by rw [List.length_append, he.len, hr.len]
  op := fun {H enc W fuel cs xs} hx h hz hl => by
    match xs, hx with
    | y :: ys, hx =>
      have hl2 : cs.length = o + sz + sz2 := by omega
      have hy := h 0 f rfl
      rw [ho, hc] at hy
      obtain ⟨x, hK, hG⟩ := he.op (show _ = some (y.1, y.2) from hy) (fun n hn => hz n (by simp only [List.map_cons, DataW.weightsEach]; exact List.mem_append_left _ hn))
      obtain ⟨x2, hK2, hG2⟩ := hr.op (xs := ys) (by simpa using hx) (fun i g hg => h (i + 1) g hg) (fun n hn => hz n (by simp only [List.map_cons, DataW.weightsEach]; exact List.mem_append_right _ hn)) hl2
      refine ⟨(x, x2), ?_, hG, hG2⟩
      have := hK.append hK2
      rwa [← List.drop_drop, List.take_append_drop] at this
theorem Opn.struct {fs : Array Field} {sz : Nat} {α β : Type} {row : α → List T} {row2 : β → List T} {G : α → Prop} {G2 : β → Prop} (g : α → β) (hf : OpnF P fs.toList 0 sz row G) (hu : P.underlying t = some (.struct fs)) (hg : ∀ a, row2 (g a) = row a) (hG2 : ∀ a, G a → G2 (g a)) (hlen : ∀ b, (row2 b).length = sz) (hc : P.cellsOf t = sz) :
    Opn P t sz row2 G2 where
  len := hlen
  op := fun {H enc W fuel cs D ps} h hz => by
    obtain ⟨xs, n, _, hx, hl, hm, he⟩ := DataW.trod_struct hu h
    obtain ⟨rfl, _⟩ := Prod.mk.inj hx
    obtain ⟨x, hK, hG⟩ := hf.op (xs := xs) (by simpa using hm) (fun i f hf => he i f (by simpa using hf)) (fun n hn => hz n (by simp only [DataW.weights, hu]; exact hn)) (by omega)
    exact ⟨g x, by rw [hg]; simpa using hK, hG2 x hG⟩
end
theorem each_of {H : Type} {P : Program} {ts : List TypeId} {ds : List (DataW H)} (h : (DataW.weightsEach P ts ds).all (· ≤ reachBytes) = true) {j : Nat} {t : TypeId} {D : DataW H} (ht : ts[j]? = some t) (hd : ds[j]? = some D) : ∀ n ∈ DataW.weights P t D, n ≤ reachBytes := by
  intro n hn
  have := List.all_eq_true.1 h _ (DataW.weights_mem_each ht hd n hn)
  simpa using this
theorem arg_one {W : World} {t : T} {v : Value} (hv : v.cells.toList = [v]) (h : RdRow W [t] v.cells.toList) : AVr (inCx W fun b => b < W.heap.size) (.t t) v := by
  rw [hv] at h
  exact h.2 0 t v rfl rfl
theorem out_bool {w w' : World} {D : Dm} {b : Bool} {v : Value} (h : Out w D w' (.t (.bool b)) v) : v = .bool b ∧ Below w.heap.size w w' := by
  obtain ⟨h1, col, _, h2⟩ := h
  refine ⟨?_, h1.os, h1.tape, h1.output, h1.size, fun k hk => h1.block k hk (by simp)⟩
  have h3 : Rd (outCx w D w' col).w (outCx w D w' col).Dp (.bool b) v := h2
  cases h3
  rfl
end Go.Proofs.Ythbhnjcnbnlidaa.Am
namespace Go.Proofs.Ythbhnjcnbnlidaa.Am
open Go
set_option linter.unusedVariables false
set_option linter.unusedSimpArgs false
set_option maxRecDepth 100000
theorem lG_mk {α : Type} {G : α → Prop} {B : Nat} {xs : List α} (hB : 1 ≤ B) (h : xs.length * B ≤ 140737488351232 ∧ ∀ x ∈ xs, G x) : lG G xs :=
  ⟨Nat.le_trans (Nat.le_mul_of_pos_right _ hB) h.1, h.2⟩
def Stm.row (x : Stm) : List T := [.int .i64 x.last.t, .int .i64 x.last.n, .list false 3 (x.items.map It.row), .list false 4 (x.groups.map Gr.row)]
theorem Opn.weaken {P : Program} {t : TypeId} {sz : Nat} {α : Type} {row : α → List T} {G G' : α → Prop} (h : Opn P t sz row G) (hg : ∀ x, G x → G' x) : Opn P t sz row G' :=
  ⟨h.len, fun h1 h2 => by obtain ⟨x, a, b⟩ := h.op h1 h2; exact ⟨x, a, hg x b⟩⟩
end Go.Proofs.Ythbhnjcnbnlidaa.Am
namespace Go.Proofs.Ythbhnjcnbnlidaa.Am
open Go
set_option linter.unusedVariables false
set_option linter.unusedSimpArgs false
set_option maxRecDepth 100000
def isB (x : Int) : Prop := 0 ≤ x ∧ x ≤ 255
theorem opn_byte : Opn Try.prog 5 1 (fun x : Int => [T.int .u8 x]) isB :=
  (Opn.int Try.underlying5).weaken fun x h => by
    simp [Lit.wf, IntKind.min, IntKind.max, IntKind.signed, IntKind.bits] at h
    unfold isB; omega
theorem opn_bytes : Opn Try.prog 55 1 (fun xs : List Int => [T.list false 1 (xs.map fun b => [T.int .u8 b])]) (lG isB) :=
  (Opn.slice opn_byte Try.underlying55 (by kernel_rfl) (by omega) (B := 1) (by kernel_rfl)).weaken fun _ => lG_mk (by omega)
end Go.Proofs.Ythbhnjcnbnlidaa.Am
namespace Go.Proofs.Ythbhnjcnbnlidaa.Am
open Go
set_option maxRecDepth 100000
set_option maxHeartbeats 4000000
set_option linter.unusedSimpArgs false
set_option linter.unusedVariables false
theorem p_qxScores : Plain Try.prog 32 := ⟨_, Try.func32, rfl, by decide⟩
theorem s_qxScores (xs ys : List Sc) (hx : xs.length < 4611686018427387904) : Spec Try.prog 32 [.t (.list false 2 (xs.map Sc.row)), .t (.list false 2 (ys.map Sc.row))] (fun r => r = Bo (decide (xs = ys))) := by
  refine Spec.of tysOk mixed Try.func32 rfl (by decide) ?_
  simp -implicitDefEqProofs only [go_sem, Try.f32]
  refine BrA_i (fun h => ?_) (fun h => ?_) <;> simp -implicitDefEqProofs only [go_sem]
  · have hl : xs.length = ys.length := by have := of_decide_eq_true h; omega
    refine LoopW.slotsM [true, true, false, false, false, true, false, false, false, false, false, false, false, false, false, false, false, false, false, false, false, false, false, false, false, false] (α := Nat) (fun i => [(5, I i)]) (fun _ => []) (fun i => xs.length - i) (fun i => i ≤ xs.length ∧ ∀ j (h : j < xs.length), j < i → xs[j] = ys[j]) 0 (by simp -implicitDefEqProofs only [go_sem, LeTs_undef, LeTs_same, LeTs_nil]; try simp [LeTs]) rfl (by simp) ?_
    rintro i ⟨hi, hz⟩
    simp -implicitDefEqProofs only [go_sem]
    refine BrA_i (fun h => ?_) (fun h => ?_) <;> simp -implicitDefEqProofs only [go_sem]
    · have h : i < xs.length := by simp at h; omega
      have h' : i < ys.length := by omega
      have h0i : (0 : Int) ≤ i := by omega
      have h1i : (i : Int) < xs.length := by omega
      have h2i : (i : Int) < ys.length := by omega
      have wi : IntKind.i64.wrap ((i : Int) + 1) = ((i + 1 : Nat) : Int) := by rw [wrap64 (by omega) (by omega)]; omega
      have r1 := row_getD Sc.row xs h
      have r2 := row_getD Sc.row ys h'
      try simp only [Sc.row] at r1 r2
      refine RegD_of sch_32_6 tysOk (by kernel_rfl) ?_
      simp -implicitDefEqProofs only [go_sem, h0i, h1i, h2i, r1, r2, h, h']
      refine BrA_i (fun he => ?_) (fun he => ?_) <;> simp -implicitDefEqProofs only [go_sem, wi]
      · have he' : xs[i] = ys[i] := by
          simp only [Bool.and_eq_true, decide_eq_true_eq] at he; exact Sc.ext he.1 he.2
        refine .to [] (i + 1) rfl ?_ ?_ (by omega) ⟨h, fun j hj hl => ?_⟩ <;> (try simp -implicitDefEqProofs only [go_sem, LeTs_undef, LeTs_same, LeTs_nil])
        rcases Nat.lt_succ_iff_lt_or_eq.1 hl with hl | rfl
        · exact hz j hj hl
        · exact he'
      · have : xs ≠ ys := fun e => by subst e; simp at he
        simp [this]
    · have : xs = ys := List.ext_getElem hl fun j h1 h2 => hz j h1 (by simp at h; omega)
      simp [this]
  · have : xs ≠ ys := fun e => by subst e; simp at h
    simp [this]
theorem p_qxNum : Plain Try.prog 34 := ⟨_, Try.func34, rfl, by decide⟩
theorem s_qxNum (l : List Sc) (t : ByteArray) (hs : l.length ≤ 1099511627776) : Spec Try.prog 34 [.t (.list false 2 (l.map Sc.row)), .t (.str t)] (fun r => r = I ((numM l t).getD 0)) := by
  refine Spec.of tysOk mixed Try.func34 rfl (by decide) ?_
  simp -implicitDefEqProofs only [go_sem, Try.f34]
  refine LoopW.slotsM [true, true, false, false, false, true, false, false, false, false, false, false, false, false, false, false, false, false, false, false, false, false, false, false] (α := Nat) (fun i => [(5, I i)]) (fun i => []) (fun i => l.length - i) (fun i => i ≤ l.length ∧ ∀ j (h : j < l.length), j < i → l[j].text ≠ t) 0 (by simp -implicitDefEqProofs only [go_sem, LeTs_undef, LeTs_same, LeTs_nil]; try simp [LeTs]) rfl ⟨by omega, fun _ _ h => by omega⟩ ?_
  rintro i ⟨hi, hj⟩
  simp -implicitDefEqProofs only [go_sem]
  refine BrA_i (fun h => ?_) (fun h => ?_) <;> simp -implicitDefEqProofs only [go_sem]
  · skip
    have h : i < l.length := by simp at h; omega
    have h0i : (0 : Int) ≤ i := by omega
    have h1i : (i : Int) < l.length := by omega
    have wi : IntKind.i64.wrap ((i : Int) + 1) = ((i + 1 : Nat) : Int) := by rw [wrap64 (by omega) (by omega)]; omega
    have hr := row_getD Sc.row l h
    simp only [Sc.row] at hr
    simp -implicitDefEqProofs only [go_sem, h, h0i, h1i, hr, wi]
    refine BrA_i (fun h2 => ?_) (fun h2 => ?_) <;> (try simp only [decide_eq_true_eq, decide_eq_false_iff_not] at h2) <;> simp -implicitDefEqProofs only [go_sem, h, h0i, h1i, hr, wi]
    · obtain ⟨_, e⟩ := numM_some (scIx_some h h2 (fun j hj2 => hj j hj2))
      rw [e]; rfl
    · refine .to [] (i + 1) rfl ?_ ?_ (by omega) ⟨by omega, fun j hj2 hj3 => by
        by_cases hji : j < i
        · exact hj j hj2 hji
        · obtain rfl : j = i := by omega
          exact h2⟩ <;> simp -implicitDefEqProofs only [go_sem, LeTs_undef, LeTs_same, LeTs_nil, wi]
  · have h : i = l.length := by simp at h; omega
    subst h
    rw [numM_none (scIx_none (fun j h => hj j h h))]
    rfl
theorem p_ScoresRank : Plain Try.prog 35 := ⟨_, Try.func35, rfl, by decide⟩
theorem s_ScoresRank (l : List Sc) (t : ByteArray) (hs : l.length ≤ 1099511627776) (hok : scoresOkM l = true) : Spec Try.prog 35 [.t (.list false 2 (l.map Sc.row)), .t (.str t)] (fun r => r = I (ixN (scIx l t))) := by
  refine Spec.of tysOk mixed Try.func35 rfl (by decide) ?_
  simp -implicitDefEqProofs only [go_sem, Try.f35]
  refine CallW.one (s_ScoresOk l hs) p_ScoresOk (by first | (simp -implicitDefEqProofs only [go_sem]; done) | ((conv => lhs; simp -implicitDefEqProofs only [go_sem]); done) | (simp -implicitDefEqProofs only [go_sem]; rfl) | rfl) (by first | trivial | (simp [DeepR, DeepV, DeepVs, DeepC, DeepCs, T.scal]; done)) ?_
  simp -implicitDefEqProofs only [go_sem, hok, Bool.not_true]
  refine CallW.one (s_scoreAt l t hs) p_scoreAt (by first | (simp -implicitDefEqProofs only [go_sem]; done) | ((conv => lhs; simp -implicitDefEqProofs only [go_sem]); done) | (simp -implicitDefEqProofs only [go_sem]; rfl) | rfl) (by first | trivial | (simp [DeepR, DeepV, DeepVs, DeepC, DeepCs, T.scal]; done)) ?_
  simp -implicitDefEqProofs only [go_sem]
theorem ixN_nonneg {o : Option Nat} (h : o.isSome = true) : decide (ixN o < 0) = false := by
  cases o with
  | none => cases h
  | some i => exact decide_eq_false (show ¬ (i : Int) < 0 by omega)
theorem ix_num {l : List Sc} {t : ByteArray} (h : (numM l t).isSome = true) : (scIx l t).isSome = true := by
  cases e : scIx l t with
  | none => rw [numM_none e] at h; cases h
  | some i => rfl
theorem clampM_b (n : Int) : -1000000000 ≤ clampM n ∧ clampM n ≤ 1000000000 := by
  unfold clampM
  by_cases h : n > 1000000000
  · rw [if_pos h]; omega
  · rw [if_neg h]
    by_cases h2 : n < -1000000000
    · rw [if_pos h2]; omega
    · rw [if_neg h2]; omega
theorem s_FnScoresAny (bs : List Int) (hb : lG isB bs) : Spec Try.prog 7 [by8 bs] (fun r => r = Bo true) := by
  refine Spec.of tysOk mixed Try.func7 rfl (by decide) ?_
  simp -implicitDefEqProofs only [go_sem, Try.f7]
  refine BrA_i (fun h1 => ?_) (fun h1 => ?_) <;> simp -implicitDefEqProofs only [go_sem]
  have h1 : bs.length ≤ 1048576 := by have := of_decide_eq_false h1; omega
  refine CallW.psm (s_DrawScoresAny bs hb.2 h1) p_DrawScoresAny (by first | (simp -implicitDefEqProofs only [go_sem]; done) | ((conv => lhs; simp -implicitDefEqProofs only [go_sem]); done) | (simp -implicitDefEqProofs only [go_sem]; rfl) | rfl) rfl ?_
  rintro r ⟨a, b, e, ha, hb'⟩
  rw [e]
  clear e r
  simp -implicitDefEqProofs only [go_sem]
  have la : a.length ≤ 1099511627776 := by omega
  have lb : b.length ≤ 1099511627776 := by omega
  refine CallW.ps (s_ScoresAny a b la lb) p_ScoresAny (by first | (simp -implicitDefEqProofs only [go_sem]; done) | ((conv => lhs; simp -implicitDefEqProofs only [go_sem]); done) | (simp -implicitDefEqProofs only [go_sem]; rfl) | rfl) rfl ?_
  rintro _ rfl
  simp -implicitDefEqProofs only [go_sem]
  refine CallW.ps (s_ScoresBoth a b la lb) p_ScoresBoth (by first | (simp -implicitDefEqProofs only [go_sem]; done) | ((conv => lhs; simp -implicitDefEqProofs only [go_sem]); done) | (simp -implicitDefEqProofs only [go_sem]; rfl) | rfl) rfl ?_
  rintro _ rfl
  simp -implicitDefEqProofs only [go_sem]
  have lx : (anyM a b).length ≤ 1099511627776 := by
    by_cases h : scoresOkM a = true ∧ scoresOkM b = true
    · have := any_both_len h.1 h.2; omega
    · simp [anyM, h]
  have ly : (bothM a b).length ≤ 1099511627776 := by
    by_cases h : scoresOkM a = true ∧ scoresOkM b = true
    · have := any_both_len h.1 h.2; omega
    · simp [bothM, h]
  refine CallW.ps (s_sScoresAny a b la lb) p_sScoresAny (by first | (simp -implicitDefEqProofs only [go_sem]; done) | ((conv => lhs; simp -implicitDefEqProofs only [go_sem]); done) | (simp -implicitDefEqProofs only [go_sem]; rfl) | rfl) rfl ?_
  intro r hr
  rw [hr]
  clear hr r
  simp -implicitDefEqProofs only [go_sem]
  refine CallW.one (s_qxScores (anyM a b) (anyM a b) (by omega)) p_qxScores (by first | (simp -implicitDefEqProofs only [go_sem]; done) | ((conv => lhs; simp -implicitDefEqProofs only [go_sem]); done) | (simp -implicitDefEqProofs only [go_sem]; rfl) | rfl) (by first | trivial | (simp [DeepR, DeepV, DeepVs, DeepC, DeepCs, T.scal]; done)) ?_
  simp -implicitDefEqProofs only [go_sem, eq_self, decide_true, beq_self_eq_true, Bool.not_true]
  refine CallW.ps (s_sScoresBoth a b la lb) p_sScoresBoth (by first | (simp -implicitDefEqProofs only [go_sem]; done) | ((conv => lhs; simp -implicitDefEqProofs only [go_sem]); done) | (simp -implicitDefEqProofs only [go_sem]; rfl) | rfl) rfl ?_
  intro r hr
  rw [hr]
  clear hr r
  simp -implicitDefEqProofs only [go_sem]
  refine CallW.one (s_qxScores (bothM a b) (bothM a b) (by omega)) p_qxScores (by first | (simp -implicitDefEqProofs only [go_sem]; done) | ((conv => lhs; simp -implicitDefEqProofs only [go_sem]); done) | (simp -implicitDefEqProofs only [go_sem]; rfl) | rfl) (by first | trivial | (simp [DeepR, DeepV, DeepVs, DeepC, DeepCs, T.scal]; done)) ?_
  simp -implicitDefEqProofs only [go_sem, eq_self, decide_true, beq_self_eq_true, Bool.not_true]
  refine CallW.one (s_sScoresOk a la) p_sScoresOk (by first | (simp -implicitDefEqProofs only [go_sem]; done) | ((conv => lhs; simp -implicitDefEqProofs only [go_sem]); done) | (simp -implicitDefEqProofs only [go_sem]; rfl) | rfl) (by first | trivial | (simp [DeepR, DeepV, DeepVs, DeepC, DeepCs, T.scal]; done)) ?_
  cases oa : scoresOkM a
  · simp -implicitDefEqProofs only [go_sem, Bool.not_false]
    refine CallW.ps (s_sScoresAny a b la lb) p_sScoresAny (by first | (simp -implicitDefEqProofs only [go_sem]; done) | ((conv => lhs; simp -implicitDefEqProofs only [go_sem]); done) | (simp -implicitDefEqProofs only [go_sem]; rfl) | rfl) rfl ?_
    intro r hr
    rw [hr]
    clear hr r
    simp -implicitDefEqProofs only [go_sem]
    refine CallW.one (s_qxScores (anyM a b) (anyM a b) (by omega)) p_qxScores (by first | (simp -implicitDefEqProofs only [go_sem]; done) | ((conv => lhs; simp -implicitDefEqProofs only [go_sem]); done) | (simp -implicitDefEqProofs only [go_sem]; rfl) | rfl) (by first | trivial | (simp [DeepR, DeepV, DeepVs, DeepC, DeepCs, T.scal]; done)) ?_
    simp -implicitDefEqProofs only [go_sem, eq_self, decide_true, beq_self_eq_true, Bool.not_true]
    refine CallW.ps (s_sScoresBoth a b la lb) p_sScoresBoth (by first | (simp -implicitDefEqProofs only [go_sem]; done) | ((conv => lhs; simp -implicitDefEqProofs only [go_sem]); done) | (simp -implicitDefEqProofs only [go_sem]; rfl) | rfl) rfl ?_
    intro r hr
    rw [hr]
    clear hr r
    simp -implicitDefEqProofs only [go_sem]
    refine CallW.one (s_qxScores (bothM a b) (bothM a b) (by omega)) p_qxScores (by first | (simp -implicitDefEqProofs only [go_sem]; done) | ((conv => lhs; simp -implicitDefEqProofs only [go_sem]); done) | (simp -implicitDefEqProofs only [go_sem]; rfl) | rfl) (by first | trivial | (simp [DeepR, DeepV, DeepVs, DeepC, DeepCs, T.scal]; done)) ?_
    simp -implicitDefEqProofs only [go_sem, eq_self, decide_true, beq_self_eq_true, Bool.not_true]
  simp -implicitDefEqProofs only [go_sem, Bool.not_true]
  refine CallW.one (s_sScoresOk b lb) p_sScoresOk (by first | (simp -implicitDefEqProofs only [go_sem]; done) | ((conv => lhs; simp -implicitDefEqProofs only [go_sem]); done) | (simp -implicitDefEqProofs only [go_sem]; rfl) | rfl) (by first | trivial | (simp [DeepR, DeepV, DeepVs, DeepC, DeepCs, T.scal]; done)) ?_
  cases ob : scoresOkM b
  · simp -implicitDefEqProofs only [go_sem, Bool.not_false]
    refine CallW.ps (s_sScoresAny a b la lb) p_sScoresAny (by first | (simp -implicitDefEqProofs only [go_sem]; done) | ((conv => lhs; simp -implicitDefEqProofs only [go_sem]); done) | (simp -implicitDefEqProofs only [go_sem]; rfl) | rfl) rfl ?_
    intro r hr
    rw [hr]
    clear hr r
    simp -implicitDefEqProofs only [go_sem]
    refine CallW.one (s_qxScores (anyM a b) (anyM a b) (by omega)) p_qxScores (by first | (simp -implicitDefEqProofs only [go_sem]; done) | ((conv => lhs; simp -implicitDefEqProofs only [go_sem]); done) | (simp -implicitDefEqProofs only [go_sem]; rfl) | rfl) (by first | trivial | (simp [DeepR, DeepV, DeepVs, DeepC, DeepCs, T.scal]; done)) ?_
    simp -implicitDefEqProofs only [go_sem, eq_self, decide_true, beq_self_eq_true, Bool.not_true]
    refine CallW.ps (s_sScoresBoth a b la lb) p_sScoresBoth (by first | (simp -implicitDefEqProofs only [go_sem]; done) | ((conv => lhs; simp -implicitDefEqProofs only [go_sem]); done) | (simp -implicitDefEqProofs only [go_sem]; rfl) | rfl) rfl ?_
    intro r hr
    rw [hr]
    clear hr r
    simp -implicitDefEqProofs only [go_sem]
    refine CallW.one (s_qxScores (bothM a b) (bothM a b) (by omega)) p_qxScores (by first | (simp -implicitDefEqProofs only [go_sem]; done) | ((conv => lhs; simp -implicitDefEqProofs only [go_sem]); done) | (simp -implicitDefEqProofs only [go_sem]; rfl) | rfl) (by first | trivial | (simp [DeepR, DeepV, DeepVs, DeepC, DeepCs, T.scal]; done)) ?_
    simp -implicitDefEqProofs only [go_sem, eq_self, decide_true, beq_self_eq_true, Bool.not_true]
  simp -implicitDefEqProofs only [go_sem, Bool.not_true]
  obtain ⟨x, hx⟩ : ∃ x, x = anyM a b := ⟨_, rfl⟩
  obtain ⟨y, hy⟩ : ∃ y, y = bothM a b := ⟨_, rfl⟩
  have hlen := any_both_len oa ob
  have mx := anyM_mem oa ob
  have my := bothM_mem oa ob
  have qx := fun z hz => numM_any oa ob (y := z) hz
  have lt := fun i (hi : i < (anyM a b).length) (h0 : 0 < i) => anyM_lt oa ob hi h0
  simp only [← hx] at hlen mx qx lt lx ⊢
  simp only [← hy] at hlen my ly ⊢
  have bx : ∀ i (hi : i < x.length), -1000000000 ≤ x[i].num ∧ x[i].num ≤ 1000000000 := fun i hi => by
    rw [((mx _).1 (List.getElem_mem hi)).2]; exact clampM_b _
  refine LoopW.slotsM [false, false, false, true, true, true, true, true, false, false, false, false, false, false, false, false, false, false, false, false, false, false, false, false, false, false, false, false, false, false, false, false, false, false, false, false, false, false, false, false, false, false, false, false, false, false, false, false, false, false, false, false, false, false, false, false, false, false, false, false, false, false, false, false, false, false, false, false, false, false, false, false, false, false, false, false, false, false, false, false, false, false, false, false, false, false, false, false, false, false, false, false, false, false, false, false, false, false, false, false, false, false, false, false, false, false, false, false, false, false, false, false, false, false, false, false, false, false, false, false, false, false, false, false, false, false, false, false, false, false, false, false, false, false, false, false, false, false, false, false, false, false, false, false, false, false, false, false, false, false, false, false, false, false, false, false, false, false, false, false, false, false, false, false, false, false, false, false, false, false, false, false, false, false, false, false, false, false, false, false, false, false, false, false, false, false, false, false, false, false, false, false, false, false, false, false, false, false, false, false, false, false, false, false, false, false, false, false] (α := Nat) (fun i => [(7, I i)]) (fun i => []) (fun i => x.length - i) (fun i => i ≤ x.length) 0 (by simp -implicitDefEqProofs only [go_sem, LeTs_undef, LeTs_same, LeTs_nil]; try simp [LeTs]) rfl (by omega) ?_
  intro i hi
  simp -implicitDefEqProofs only [go_sem]
  refine BrA_i (fun h => ?_) (fun h => ?_) <;> simp -implicitDefEqProofs only [go_sem]
  · skip
    have h : i < x.length := by simp at h; omega
    have h0i : (0 : Int) ≤ i := by omega
    have h1i : (i : Int) < x.length := by omega
    have wi : IntKind.i64.wrap ((i : Int) + 1) = ((i + 1 : Nat) : Int) := by rw [wrap64 (by omega) (by omega)]; omega
    have r1 := row_getD Sc.row x h
    simp only [Sc.row] at r1
    have ex := ((mx _).1 (List.getElem_mem h)).2
    have na := numM_num oa x[i].text
    have nb := numM_num ob x[i].text
    have ws : IntKind.i64.wrap ((numM a x[i].text).getD 0 + (numM b x[i].text).getD 0) = both2 a b x[i].text := wrap64 (by omega) (by omega)
    refine RegD_to sch_7_11 ?sx1 tysOk (by kernel_rfl) ?ga1 ?gb1
    case ga1 =>
      simp -implicitDefEqProofs only [go_sem, h, h0i, h1i, r1, ws]
      repeat' (first
        | (with_reducible refine And.intro ?_ ?_)
        | (refine CallW.one (s_qxNum a (x[i]).text la) p_qxNum (by first | (simp -implicitDefEqProofs only [go_sem]; done) | ((conv => lhs; simp -implicitDefEqProofs only [go_sem]); done) | (simp -implicitDefEqProofs only [go_sem]; rfl) | rfl) (by first | trivial | (simp [DeepR, DeepV, DeepVs, DeepC, DeepCs, T.scal]; done)) ?_; simp -implicitDefEqProofs only [go_sem, h, h0i, h1i, r1, ws])
        | (refine CallW.one (s_qxNum b (x[i]).text lb) p_qxNum (by first | (simp -implicitDefEqProofs only [go_sem]; done) | ((conv => lhs; simp -implicitDefEqProofs only [go_sem]); done) | (simp -implicitDefEqProofs only [go_sem]; rfl) | rfl) (by first | trivial | (simp [DeepR, DeepV, DeepVs, DeepC, DeepCs, T.scal]; done)) ?_; simp -implicitDefEqProofs only [go_sem, h, h0i, h1i, r1, ws])
        | exact rfl
        | exact h)
    obtain ⟨n, hn⟩ : ∃ n, n = both2 a b x[i].text := ⟨_, rfl⟩
    simp -implicitDefEqProofs only [go_sem, h, h0i, h1i, r1, ws]
    rw [← hn] at ex ⊢
    have cs : -1000000000 ≤ n → n ≤ 1000000000 → x[i].num = n := fun u v => by rw [ex, clampM_id ⟨u, v⟩]
    rcases Nat.eq_zero_or_pos i with h00 | hpos
    · have hz : decide ((i : Int) > 0) = false := by simp; omega
      clear hlen mx my qx lt lx ly bx ex hn na nb ws hy
      (repeat' (first   | ((first | refine RegD_of sch_7_11 tysOk (by decide +kernel) ?_ | refine RegD_of sch_7_13 tysOk (by decide +kernel) ?_ | refine RegD_of sch_7_18 tysOk (by decide +kernel) ?_); try simp -implicitDefEqProofs only [go_sem, h, h0i, h1i, r1, hz, wi])   | (refine BrA_i (fun h => ?_) (fun h => ?_) <;> (try simp only [decide_eq_true_eq, decide_eq_false_iff_not, Bool.not_eq_true', Bool.not_eq_false', gt_iff_lt, ge_iff_le] at h) <;> try simp -implicitDefEqProofs only [go_sem, h, h0i, h1i, r1, hz, wi])   | (refine And.intro (a := roomy _ _) (by (unfold roomy; (try simp only [List.length_take, List.length_append, List.length_map, List.length_cons, List.length_nil]); omega)) ?_; try simp -implicitDefEqProofs only [go_sem, h, h0i, h1i, r1, hz, wi])))
      all_goals first
        | (refine .to [585, 586, 587, 641, 642, 643] (i + 1) rfl ?_ ?_ (by omega) (by omega) <;> simp -implicitDefEqProofs only [go_sem, LeTs_undef, LeTs_same, LeTs_nil, wi])
        | (exfalso; have := cs (by assumption) (by assumption); contradiction)
        | (exfalso; rcases hl with hl | ⟨hl, hl2⟩ <;> simp_all <;> omega)
        | (exfalso; simp_all; done)
    · have hz : decide ((i : Int) > 0) = true := by simp; omega
      have hq : i - 1 < x.length := by omega
      have hp : IntKind.i64.wrap ((i : Int) - 1) = ((i - 1 : Nat) : Int) := by rw [wrap64 (by omega) (by omega)]; omega
      have r2 := row_getD Sc.row x hq
      simp only [Sc.row] at r2
      have q0 : (0 : Int) ≤ ((i - 1 : Nat) : Int) := by omega
      have q1 : ((i - 1 : Nat) : Int) < x.length := by omega
      have hl := lt i h hpos
      simp only [scLt, Bool.or_eq_true, Bool.and_eq_true, decide_eq_true_eq] at hl
      clear hlen mx my qx lt lx ly bx ex hn na nb ws hy
      (repeat' (first   | ((first | refine RegD_of sch_7_11 tysOk (by decide +kernel) ?_ | refine RegD_of sch_7_13 tysOk (by decide +kernel) ?_ | refine RegD_of sch_7_18 tysOk (by decide +kernel) ?_); try simp -implicitDefEqProofs only [go_sem, h, h0i, h1i, r1, hz, wi, hq, hp, r2, q0, q1])   | (refine BrA_i (fun h => ?_) (fun h => ?_) <;> (try simp only [decide_eq_true_eq, decide_eq_false_iff_not, Bool.not_eq_true', Bool.not_eq_false', gt_iff_lt, ge_iff_le] at h) <;> try simp -implicitDefEqProofs only [go_sem, h, h0i, h1i, r1, hz, wi, hq, hp, r2, q0, q1])   | (refine And.intro (a := roomy _ _) (by (unfold roomy; (try simp only [List.length_take, List.length_append, List.length_map, List.length_cons, List.length_nil]); omega)) ?_; try simp -implicitDefEqProofs only [go_sem, h, h0i, h1i, r1, hz, wi, hq, hp, r2, q0, q1])))
      all_goals first
        | (refine .to [585, 586, 587, 641, 642, 643] (i + 1) rfl ?_ ?_ (by omega) (by omega) <;> simp -implicitDefEqProofs only [go_sem, LeTs_undef, LeTs_same, LeTs_nil, wi])
        | (exfalso; have := cs (by assumption) (by assumption); contradiction)
        | (exfalso; rcases hl with hl | ⟨hl, hl2⟩ <;> simp_all <;> omega)
        | (exfalso; simp_all; done)
  · clear hi h bx lt
    generalize i = i0
    have cx := anyM_comm oa ob
    have cy := bothM_comm oa ob
    rw [← hx] at cx
    rw [← hy] at cy
    refine LoopW.slotsM [false, false, false, true, true, true, true, false, false, false, true, false, false, false, false, false, false, false, false, false, false, false, false, false, false, false, false, false, false, false, false, false, false, false, false, false, false, false, false, false, false, false, false, false, false, false, false, false, false, false, false, false, false, false, false, false, false, false, false, false, false, false, false, false, false, false, false, false, false, false, false, false, false, false, false, false, false, false, false, false, false, false, false, false, false, false, false, false, false, false, false, false, false, false, false, false, false, false, false, false, false, false, false, false, false, false, false, false, false, false, false, false, false, false, false, false, false, false, false, false, false, false, false, false, false, false, false, false, false, false, false, false, false, false, false, false, false, false, false, false, false, false, false, false, false, false, false, false, false, false, false, false, false, false, false, false, false, false, false, false, false, false, false, false, false, false, false, false, false, false, false, false, false, false, false, false, false, false, false, false, false, false, false, false, false, false, false, false, false, false, false, false, false, false, false, false, false, false, false, false, false, false, false, false, false, false, false, false] (α := Nat) (fun i => [(10, I i)]) (fun i => []) (fun i => y.length - i) (fun i => i ≤ y.length) 0 (by simp -implicitDefEqProofs only [go_sem, LeTs_undef, LeTs_same, LeTs_nil]; try simp [LeTs]) rfl (by omega) ?_
    intro i hi
    simp -implicitDefEqProofs only [go_sem]
    refine BrA_i (fun h => ?_) (fun h => ?_) <;> simp -implicitDefEqProofs only [go_sem]
    · skip
      have h : i < y.length := by simp at h; omega
      have h0i : (0 : Int) ≤ i := by omega
      have h1i : (i : Int) < y.length := by omega
      have wi : IntKind.i64.wrap ((i : Int) + 1) = ((i + 1 : Nat) : Int) := by rw [wrap64 (by omega) (by omega)]; omega
      have r1 := row_getD Sc.row y h
      simp only [Sc.row] at r1
      obtain ⟨⟨m1, m2⟩, m3⟩ := (my _).1 (List.getElem_mem h)
      have rx : (numM x y[i].text).getD 0 = y[i].num := by
        rw [qx y[i] ((mx _).2 ⟨.inl m1, m3⟩)]; rfl
      have ra := ixN_nonneg (ix_num m1)
      have rb := ixN_nonneg (ix_num m2)
      clear m1 m2 m3 mx my qx hx hy cx cy
      refine RegD_to sch_7_18 ?sx2 tysOk (by kernel_rfl) ?ga2 ?gb2
      case ga2 =>
        simp -implicitDefEqProofs only [go_sem, h, h0i, h1i, r1]
        repeat' (first
          | (with_reducible refine And.intro ?_ ?_)
          | (refine CallW.one (s_ScoresRank a (y[i]).text la oa) p_ScoresRank (by first | (simp -implicitDefEqProofs only [go_sem]; done) | ((conv => lhs; simp -implicitDefEqProofs only [go_sem]); done) | (simp -implicitDefEqProofs only [go_sem]; rfl) | rfl) (by first | trivial | (simp [DeepR, DeepV, DeepVs, DeepC, DeepCs, T.scal]; done)) ?_; simp -implicitDefEqProofs only [go_sem, h, h0i, h1i, r1, ra])
          | (refine CallW.one (s_ScoresRank b (y[i]).text lb ob) p_ScoresRank (by first | (simp -implicitDefEqProofs only [go_sem]; done) | ((conv => lhs; simp -implicitDefEqProofs only [go_sem]); done) | (simp -implicitDefEqProofs only [go_sem]; rfl) | rfl) (by first | trivial | (simp [DeepR, DeepV, DeepVs, DeepC, DeepCs, T.scal]; done)) ?_; simp -implicitDefEqProofs only [go_sem, h, h0i, h1i, r1, rb])
          | (refine CallW.one (s_qxNum x (y[i]).text lx) p_qxNum (by first | (simp -implicitDefEqProofs only [go_sem]; done) | ((conv => lhs; simp -implicitDefEqProofs only [go_sem]); done) | (simp -implicitDefEqProofs only [go_sem]; rfl) | rfl) (by first | trivial | (simp [DeepR, DeepV, DeepVs, DeepC, DeepCs, T.scal]; done)) ?_; simp -implicitDefEqProofs only [go_sem, h, h0i, h1i, r1, rx, eq_self, decide_true, Bool.not_true])
          | exact rfl
          | exact h)
      simp -implicitDefEqProofs only [go_sem, h, h0i, h1i, r1, rx, ra, rb, eq_self, decide_true, Bool.not_true]
      refine .to [1249, 1250, 1251, 1321, 1322, 1323, 1441, 1442, 1443] (i + 1) rfl ?_ ?_ (by omega) (by omega) <;> simp -implicitDefEqProofs only [go_sem, LeTs_undef, LeTs_same, LeTs_nil, wi]
    · refine CallW.ps (s_ScoresAny b a lb la) p_ScoresAny (by first | (simp -implicitDefEqProofs only [go_sem]; done) | ((conv => lhs; simp -implicitDefEqProofs only [go_sem]); done) | (simp -implicitDefEqProofs only [go_sem]; rfl) | rfl) rfl ?_
      rw [cx]
      rintro _ rfl
      simp -implicitDefEqProofs only [go_sem]
      refine CallW.one (s_qxScores x x (by omega)) p_qxScores (by first | (simp -implicitDefEqProofs only [go_sem]; done) | ((conv => lhs; simp -implicitDefEqProofs only [go_sem]); done) | (simp -implicitDefEqProofs only [go_sem]; rfl) | rfl) (by first | trivial | (simp [DeepR, DeepV, DeepVs, DeepC, DeepCs, T.scal]; done)) ?_
      simp -implicitDefEqProofs only [go_sem, eq_self, decide_true, beq_self_eq_true, Bool.not_true]
      refine CallW.ps (s_ScoresBoth b a lb la) p_ScoresBoth (by first | (simp -implicitDefEqProofs only [go_sem]; done) | ((conv => lhs; simp -implicitDefEqProofs only [go_sem]); done) | (simp -implicitDefEqProofs only [go_sem]; rfl) | rfl) rfl ?_
      rw [cy]
      rintro _ rfl
      simp -implicitDefEqProofs only [go_sem]
      refine CallW.one (s_qxScores y y (by omega)) p_qxScores (by first | (simp -implicitDefEqProofs only [go_sem]; done) | ((conv => lhs; simp -implicitDefEqProofs only [go_sem]); done) | (simp -implicitDefEqProofs only [go_sem]; rfl) | rfl) (by first | trivial | (simp [DeepR, DeepV, DeepVs, DeepC, DeepCs, T.scal]; done)) ?_
      have w1 : IntKind.i64.wrap ((x.length : Int) + y.length) = ((a.length + b.length : Nat) : Int) := by rw [wrap64 (by omega) (by omega)]; omega
      have w2 : IntKind.i64.wrap ((a.length : Int) + b.length) = ((a.length + b.length : Nat) : Int) := by rw [wrap64 (by omega) (by omega)]; omega
      simp -implicitDefEqProofs only [go_sem, eq_self, decide_true, beq_self_eq_true, Bool.not_true, w1, w2]
end Go.Proofs.Ythbhnjcnbnlidaa.Am
