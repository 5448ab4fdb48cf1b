/- Texts of this claim, packed: walks and laws that its row stands on. Each states its own conditions. -/
import Derived.Below
import Derived.ChangeArms
import Derived.ChangeOld
import Derived.ChangeSlices
import Derived.DataElems
import Derived.OpenShut
import Derived.ProofKit
import Derived.ShutString
import Derived.SizedLaws
import Derived.Test.YthbhnjcnbnlidaaBFnExactLeaderNew1
namespace Go.Proofs.Ythbhnjcnbnlidaa.Am
open Go
set_option linter.unusedVariables false
def mixR (new old : List (List T)) (i : Nat) : List (List T) := new.take i ++ old.drop i
theorem mix_0 (new old : List (List T)) : mixR new old 0 = old := by simp [mixR]
theorem mix_all {new old : List (List T)} (h : new.length = old.length) : mixR new old old.length = new := by simp [mixR, ← h]
theorem mix_len {new old : List (List T)} {i : Nat} (h : new.length = old.length) (hi : i ≤ old.length) : (mixR new old i).length = old.length := by simp [mixR]; omega
theorem mix_getD {new old : List (List T)} {i : Nat} (h : new.length = old.length) (hi : i < old.length) : (mixR new old i).getD i [] = old.getD i [] := by
  have h1 : (new.take i).length = i := by simp; omega
  simp only [mixR, List.getD_eq_getElem?_getD]
  rw [List.getElem?_append_right (by omega), h1, Nat.sub_self]
  simp
theorem mix_set {new old : List (List T)} {i : Nat} (h : new.length = old.length) (hi : i < old.length) : (mixR new old i).set i (new.getD i []) = mixR new old (i + 1) := by
  have h1 : (new.take i).length = i := by simp; omega
  simp only [mixR]
  rw [List.set_append_right _ _ (by omega), h1, Nat.sub_self, List.take_succ_eq_append_getElem (by omega), List.append_assoc]
  congr 1
  rw [List.drop_eq_getElem_cons hi, List.set_cons_zero]
  simp [List.getD_eq_getElem?_getD, List.getElem?_eq_getElem (show i < new.length by omega)]
theorem set_getD {l : List (List T)} {i : Nat} (h : i < l.length) (r : List T) : (l.set i r).getD i [] = r := by
  simp [List.getD_eq_getElem?_getD, h]
def wSum {α : Type} (w : α → Nat) (l : List α) : Nat := (l.map w).sum
def wAll {α : Type} (w : α → Nat) (l : List α) : Nat := l.length + wSum w l
theorem wSum_take {α : Type} (w : α → Nat) (l : List α) {i : Nat} (h : i < l.length) : wSum w (l.take (i + 1)) = wSum w (l.take i) + w l[i] := by
  rw [List.take_succ_eq_append_getElem h]; unfold wSum; rw [List.map_append, List.sum_append]; simp only [List.map_cons, List.map_nil, List.sum_cons, List.sum_nil, Nat.add_zero]
theorem wSum_le {α : Type} (w : α → Nat) (l : List α) (i : Nat) : wSum w (l.take i) ≤ wSum w l := by
  have : l = l.take i ++ l.drop i := (List.take_append_drop i l).symm
  have h2 : wSum w l = wSum w (l.take i) + wSum w (l.drop i) := by
    conv => lhs; rw [this]
    unfold wSum; rw [List.map_append, List.sum_append]
  omega
theorem wSum_cons {α : Type} (w : α → Nat) (x : α) (l : List α) : wSum w (x :: l) = w x + wSum w l := by simp [wSum]
theorem wSum_len {α : Type} {w : α → Nat} (h : ∀ x, 1 ≤ w x) (l : List α) : l.length ≤ wSum w l := by
  induction l with
  | nil => exact Nat.zero_le _
  | cons y l ih => rw [wSum_cons, List.length_cons]; have := h y; omega
def mkAll {α : Type} (m : α → Int → α) (w : α → Nat) : List α → Int → List α
  | [], _ => []
  | x :: xs, k => m x k :: mkAll m w xs (k + w x)
theorem mkAll_len {α : Type} (m : α → Int → α) (w : α → Nat) : ∀ (xs : List α) (k : Int), (mkAll m w xs k).length = xs.length
  | [], _ => rfl
  | x :: xs, k => by simp [mkAll, mkAll_len m w xs]
theorem mkAll_get {α : Type} (m : α → Int → α) (w : α → Nat) : ∀ (xs : List α) (k : Int) (i : Nat) (h : i < xs.length), (mkAll m w xs k)[i]'(by rw [mkAll_len]; exact h) = m xs[i] (k + wSum w (xs.take i))
  | x :: xs, k, 0, _ => by simp [mkAll, wSum]
  | x :: xs, k, i + 1, h => by
    simp only [mkAll, List.getElem_cons_succ, List.take_succ_cons, wSum_cons]
    rw [mkAll_get m w xs _ i (by simpa using h)]
    congr 1
    omega
theorem mkAll_getD {α : Type} (f : α → List T) (m : α → Int → α) (w : α → Nat) (xs : List α) (k : Int) {i : Nat} (h : i < xs.length) : ((mkAll m w xs k).map f).getD i [] = f (m xs[i] (k + wSum w (xs.take i))) := by
  rw [row_getD f _ (by rw [mkAll_len]; exact h), mkAll_get m w xs k i h]
end Go.Proofs.Ythbhnjcnbnlidaa.Am
namespace Go.Proofs.Ythbhnjcnbnlidaa.Am
open Go
@[ext] structure Pr where
  k : ByteArray
  v : ByteArray
deriving DecidableEq
@[ext] structure Idt where
  t : Int
  n : Int
deriving DecidableEq
@[ext] structure It where
  id : Idt
  fields : List Pr
deriving DecidableEq
@[ext] structure Wt where
  id : Idt
  who : ByteArray
  at' : Int
  tm : Int
deriving DecidableEq
@[ext] structure Gr where
  name : ByteArray
  last : Idt
  waits : List Wt
deriving DecidableEq
@[ext] structure Stm where
  last : Idt
  items : List It
  groups : List Gr
deriving DecidableEq
def Pr.row (x : Pr) : List T := [.str x.k, .str x.v]
def It.row (x : It) : List T := [.int .i64 x.id.t, .int .i64 x.id.n, .list false 2 (x.fields.map Pr.row)]
def Wt.row (x : Wt) : List T := [.int .i64 x.id.t, .int .i64 x.id.n, .str x.who, .int .i64 x.at', .int .i64 x.tm]
def Gr.row (x : Gr) : List T := [.str x.name, .int .i64 x.last.t, .int .i64 x.last.n, .list false 5 (x.waits.map Wt.row)]
def It.rowO (x : It) : List T := [.int .i64 x.id.t, .int .i64 x.id.n, .list true 2 (x.fields.map Pr.row)]
def Gr.rowO (x : Gr) : List T := [.str x.name, .int .i64 x.last.t, .int .i64 x.last.n, .list true 5 (x.waits.map Wt.row)]
def It.sm (x : It) : Prop := x.fields.length < 4611686018427387904
def Gr.sm (x : Gr) : Prop := x.waits.length < 4611686018427387904
def Stm.sm (x : Stm) : Prop := x.items.length < 4611686018427387904 ∧ x.groups.length < 4611686018427387904 ∧ (∀ i ∈ x.items, i.sm) ∧ ∀ g ∈ x.groups, g.sm
def Pr.w (x : Pr) : Nat := x.k.size + x.v.size
def It.w (x : It) : Nat := wAll Pr.w x.fields
def Wt.w (x : Wt) : Nat := x.who.size
def Gr.w (x : Gr) : Nat := x.name.size + wAll Wt.w x.waits
def Stm.w (x : Stm) : Nat := wAll It.w x.items + wAll Gr.w x.groups
def ts (l : List T) : List AV := l.map .t
abbrev Pr.av (x : Pr) : AV := .agg [.t (.str x.k), .t (.str x.v)]
abbrev Idt.av (x : Idt) : AV := .agg [I x.t, I x.n]
abbrev It.av (x : It) : AV := .agg [I x.id.t, I x.id.n, .t (.list false 2 (x.fields.map Pr.row))]
abbrev Wt.av (x : Wt) : AV := .agg [I x.id.t, I x.id.n, .t (.str x.who), I x.at', I x.tm]
abbrev Gr.av (x : Gr) : AV := .agg [.t (.str x.name), I x.last.t, I x.last.n, .t (.list false 5 (x.waits.map Wt.row))]
abbrev Stm.av (x : Stm) : AV := .agg [I x.last.t, I x.last.n, .t (.list false 3 (x.items.map It.row)), .t (.list false 4 (x.groups.map Gr.row))]
theorem bytesEq_iff (a b : ByteArray) : bytesEq a b = decide (a = b) := by
  unfold bytesEq
  rw [ByteArray.toList_eq, ByteArray.toList_eq]
  obtain ⟨⟨x⟩⟩ := a
  obtain ⟨⟨y⟩⟩ := b
  by_cases h : x = y
  · subst h; simp
  · have h1 : (x == y) = false := by simpa using h
    simp [h, h1]
theorem mk_rows {α : Type} (f : α → List T) (h : ∀ x, (f x).map (T.mk false) = f x) (l : List α) : (l.map f).map (List.map (T.mk false)) = l.map f := by
  rw [List.map_map]
  exact List.map_congr_left fun x _ => h x
theorem Pr.mk_rows (l : List Pr) : (l.map Pr.row).map (List.map (T.mk false)) = l.map Pr.row := Am.mk_rows _ (fun _ => rfl) l
theorem Wt.mk_rows (l : List Wt) : (l.map Wt.row).map (List.map (T.mk false)) = l.map Wt.row := Am.mk_rows _ (fun _ => rfl) l
theorem It.mk_rows (l : List It) : (l.map It.row).map (List.map (T.mk false)) = l.map It.row := Am.mk_rows _ (fun x => by simp only [It.row, List.map_cons, List.map_nil, T.mk_list, T.mk_int, Pr.mk_rows]) l
theorem Gr.mk_rows (l : List Gr) : (l.map Gr.row).map (List.map (T.mk false)) = l.map Gr.row := Am.mk_rows _ (fun x => by simp only [Gr.row, List.map_cons, List.map_nil, T.mk_list, T.mk_int, T.mk_str, Wt.mk_rows]) l
attribute [go_sem] bytesEq_iff Pr.mk_rows Wt.mk_rows It.mk_rows Gr.mk_rows
end Go.Proofs.Ythbhnjcnbnlidaa.Am
namespace Go.Proofs.Ythbhnjcnbnlidaa.Am
open Go
set_option maxRecDepth 100000
set_option linter.unusedSimpArgs false
set_option linter.unusedVariables false
def withinM (n lo hi : Int) : Bool := decide (lo ≤ n) && decide (n ≤ hi)
theorem s_within (n lo hi : Int) : Spec Try.prog 64 [I n, I lo, I hi] (fun r => r = Bo (withinM n lo hi)) := by
  refine Spec.of tysOk mixed Try.func64 rfl (by decide) ?_
  simp -implicitDefEqProofs only [go_sem, Try.f64]
  refine BrA_i (fun h => ?_) (fun h => ?_) <;> simp -implicitDefEqProofs only [go_sem] <;> simp_all [withinM] <;> omega
theorem p_within : Plain Try.prog 64 := ⟨_, Try.func64, rfl, by decide⟩
end Go.Proofs.Ythbhnjcnbnlidaa.Am
namespace Go.Proofs.Ythbhnjcnbnlidaa.Am
open Go
set_option maxRecDepth 100000
set_option linter.unusedSimpArgs false
set_option linter.unusedVariables false
theorem p_l1In : Plain Try.prog 60 := ⟨_, Try.func60, rfl, by decide⟩
theorem s_l1In (n lo hi : Int) : Spec Try.prog 60 [I n, I lo, I hi] (fun r => r = Bo (withinM n lo hi)) := by
  refine Spec.of tysOk mixed Try.func60 rfl (by decide) ?_
  simp -implicitDefEqProofs only [go_sem, Try.f60]
  refine BrA_i (fun h => ?_) (fun h => ?_) <;> simp -implicitDefEqProofs only [go_sem] <;> simp_all [withinM] <;> omega
end Go.Proofs.Ythbhnjcnbnlidaa.Am
namespace Go.Proofs.Ythbhnjcnbnlidaa.Am
open Go
set_option maxRecDepth 100000
set_option linter.unusedSimpArgs false
set_option linter.unusedVariables false
def Idt.row (x : Idt) : List T := [.int .i64 x.t, .int .i64 x.n]
def lG {α : Type} (G : α → Prop) (xs : List α) : Prop := xs.length ≤ 140737488351232 ∧ ∀ x ∈ xs, G x
def Pr.G (x : Pr) : Prop := x.k.size ≤ 140737488351232 ∧ x.v.size ≤ 140737488351232
def It.G (x : It) : Prop := lG Pr.G x.fields
def Wt.G (x : Wt) : Prop := x.who.size ≤ 140737488351232
def Gr.G (x : Gr) : Prop := x.name.size ≤ 140737488351232 ∧ lG Wt.G x.waits
def Stm.G (x : Stm) : Prop := lG It.G x.items ∧ lG Gr.G x.groups
end Go.Proofs.Ythbhnjcnbnlidaa.Am
namespace Go.Proofs.Ythbhnjcnbnlidaa.Am
open Go
set_option maxRecDepth 100000
set_option linter.unusedSimpArgs false
set_option linter.unusedVariables false
abbrev Tx := ByteArray
abbrev Or := List Tx
def Tx.row (x : Tx) : List T := [.str x]
def Tx.w (x : Tx) : Nat := x.size
def Or.row (x : Or) : List T := [.list false 1 (x.map Tx.row)]
def Or.rowO (x : Or) : List T := [.list true 1 (x.map Tx.row)]
def Or.w (x : Or) : Nat := wAll Tx.w x
def Tx.G (x : Tx) : Prop := x.size ≤ 140737488351232
def Or.G (x : Or) : Prop := lG Tx.G x
@[ext] structure Sc where
  text : ByteArray
  num : Int
deriving DecidableEq
@[ext] structure En where
  key : ByteArray
  till : Int
  kind : Int
  text : ByteArray
  list : List Tx
  scores : List Sc
  fields : List Pr
deriving DecidableEq
@[ext] structure Bs where
  now : Int
  ents : List En
deriving DecidableEq
@[ext] structure Cl where
  multi : Bool
  wrong : Bool
  queue : List Or
  watch : List Tx
  touch : Bool
  hears : List Tx
deriving DecidableEq
@[ext] structure Sv where
  base : Bs
  file : ByteArray
  cls : List Cl
deriving DecidableEq
@[ext] structure Ld where
  srv : Sv
  hist : Int
deriving DecidableEq
@[ext] structure Fo where
  hist : Int
  text : ByteArray
  base : Bs
deriving DecidableEq
@[ext] structure Pac where
  full : Bool
  hist : Int
  pos : Int
  text : ByteArray
  now : Int
deriving DecidableEq
def Sc.row (x : Sc) : List T := [.str x.text, .int .i64 x.num]
abbrev Sc.av (x : Sc) : AV := .agg [.t (.str x.text), I x.num]
def Sc.w (x : Sc) : Nat := x.text.size
def Sc.G (x : Sc) : Prop := x.text.size ≤ 140737488351232
def En.row (x : En) : List T := [.str x.key, .int .i64 x.till, .int .i64 x.kind, .str x.text, .list false 1 (x.list.map Tx.row), .list false 2 (x.scores.map Sc.row), .list false 2 (x.fields.map Pr.row)]
def En.rowO (x : En) : List T := [.str x.key, .int .i64 x.till, .int .i64 x.kind, .str x.text, .list true 1 (x.list.map Tx.row), .list true 2 (x.scores.map Sc.row), .list true 2 (x.fields.map Pr.row)]
abbrev En.av (x : En) : AV := .agg [.t (.str x.key), I x.till, I x.kind, .t (.str x.text), .t (.list false 1 (x.list.map Tx.row)), .t (.list false 2 (x.scores.map Sc.row)), .t (.list false 2 (x.fields.map Pr.row))]
abbrev En.avO (x : En) : AV := .agg [.t (.str x.key), I x.till, I x.kind, .t (.str x.text), .own (.list true 1 (x.list.map Tx.row)), .own (.list true 2 (x.scores.map Sc.row)), .own (.list true 2 (x.fields.map Pr.row))]
def En.w (x : En) : Nat := x.key.size + x.text.size + wAll Tx.w x.list + wAll Sc.w x.scores + wAll Pr.w x.fields
def En.G (x : En) : Prop := x.key.size ≤ 140737488351232 ∧ x.text.size ≤ 140737488351232 ∧ lG Tx.G x.list ∧ lG Sc.G x.scores ∧ lG Pr.G x.fields
def Bs.row (x : Bs) : List T := [.int .i64 x.now, .list false 7 (x.ents.map En.row)]
def Bs.rowO (x : Bs) : List T := [.int .i64 x.now, .list true 7 (x.ents.map En.rowO)]
abbrev Bs.av (x : Bs) : AV := .agg [I x.now, .t (.list false 7 (x.ents.map En.row))]
abbrev Bs.avO (x : Bs) : AV := .agg [I x.now, .own (.list true 7 (x.ents.map En.rowO))]
def Bs.w (x : Bs) : Nat := wAll En.w x.ents
def Bs.G (x : Bs) : Prop := lG En.G x.ents
def Cl.row (x : Cl) : List T := [.bool x.multi, .bool x.wrong, .list false 1 (x.queue.map Or.row), .list false 1 (x.watch.map Tx.row), .bool x.touch, .list false 1 (x.hears.map Tx.row)]
def Cl.rowO (x : Cl) : List T := [.bool x.multi, .bool x.wrong, .list true 1 (x.queue.map Or.rowO), .list true 1 (x.watch.map Tx.row), .bool x.touch, .list true 1 (x.hears.map Tx.row)]
abbrev Cl.av (x : Cl) : AV := .agg [Bo x.multi, Bo x.wrong, .t (.list false 1 (x.queue.map Or.row)), .t (.list false 1 (x.watch.map Tx.row)), Bo x.touch, .t (.list false 1 (x.hears.map Tx.row))]
abbrev Cl.avO (x : Cl) : AV := .agg [Bo x.multi, Bo x.wrong, .own (.list true 1 (x.queue.map Or.rowO)), .own (.list true 1 (x.watch.map Tx.row)), Bo x.touch, .own (.list true 1 (x.hears.map Tx.row))]
def Cl.w (x : Cl) : Nat := wAll Or.w x.queue + wAll Tx.w x.watch + wAll Tx.w x.hears
def Cl.G (x : Cl) : Prop := lG Or.G x.queue ∧ lG Tx.G x.watch ∧ lG Tx.G x.hears
def Sv.row (x : Sv) : List T := [.int .i64 x.base.now, .list false 7 (x.base.ents.map En.row), .str x.file, .list false 6 (x.cls.map Cl.row)]
def Sv.rowO (x : Sv) : List T := [.int .i64 x.base.now, .list true 7 (x.base.ents.map En.rowO), .str x.file, .list true 6 (x.cls.map Cl.rowO)]
abbrev Sv.av (x : Sv) : AV := .agg [I x.base.now, .t (.list false 7 (x.base.ents.map En.row)), .t (.str x.file), .t (.list false 6 (x.cls.map Cl.row))]
abbrev Sv.avO (x : Sv) : AV := .agg [I x.base.now, .own (.list true 7 (x.base.ents.map En.rowO)), .t (.str x.file), .own (.list true 6 (x.cls.map Cl.rowO))]
def Sv.w (x : Sv) : Nat := Bs.w x.base + x.file.size + wAll Cl.w x.cls
def Sv.G (x : Sv) : Prop := Bs.G x.base ∧ x.file.size ≤ 140737488351232 ∧ lG Cl.G x.cls
def Ld.row (x : Ld) : List T := [.int .i64 x.srv.base.now, .list false 7 (x.srv.base.ents.map En.row), .str x.srv.file, .list false 6 (x.srv.cls.map Cl.row), .int .i64 x.hist]
def Ld.rowO (x : Ld) : List T := [.int .i64 x.srv.base.now, .list true 7 (x.srv.base.ents.map En.rowO), .str x.srv.file, .list true 6 (x.srv.cls.map Cl.rowO), .int .i64 x.hist]
abbrev Ld.av (x : Ld) : AV := .agg [I x.srv.base.now, .t (.list false 7 (x.srv.base.ents.map En.row)), .t (.str x.srv.file), .t (.list false 6 (x.srv.cls.map Cl.row)), I x.hist]
abbrev Ld.avO (x : Ld) : AV := .agg [I x.srv.base.now, .own (.list true 7 (x.srv.base.ents.map En.rowO)), .t (.str x.srv.file), .own (.list true 6 (x.srv.cls.map Cl.rowO)), I x.hist]
def Ld.w (x : Ld) : Nat := Sv.w x.srv
def Ld.G (x : Ld) : Prop := Sv.G x.srv
def Fo.row (x : Fo) : List T := [.int .i64 x.hist, .str x.text, .int .i64 x.base.now, .list false 7 (x.base.ents.map En.row)]
def Fo.rowO (x : Fo) : List T := [.int .i64 x.hist, .str x.text, .int .i64 x.base.now, .list true 7 (x.base.ents.map En.rowO)]
abbrev Fo.av (x : Fo) : AV := .agg [I x.hist, .t (.str x.text), I x.base.now, .t (.list false 7 (x.base.ents.map En.row))]
abbrev Fo.avO (x : Fo) : AV := .agg [I x.hist, .t (.str x.text), I x.base.now, .own (.list true 7 (x.base.ents.map En.rowO))]
def Fo.w (x : Fo) : Nat := x.text.size + Bs.w x.base
def Fo.G (x : Fo) : Prop := x.text.size ≤ 140737488351232 ∧ Bs.G x.base
def Pac.row (x : Pac) : List T := [.bool x.full, .int .i64 x.hist, .int .i64 x.pos, .str x.text, .int .i64 x.now]
abbrev Pac.av (x : Pac) : AV := .agg [Bo x.full, I x.hist, I x.pos, .t (.str x.text), I x.now]
def Pac.w (x : Pac) : Nat := x.text.size
def Pac.G (x : Pac) : Prop := x.text.size ≤ 140737488351232
def Or.sm (x : Or) : Prop := x.length < 4611686018427387904
def En.sm (x : En) : Prop := x.list.length < 4611686018427387904 ∧ x.scores.length < 4611686018427387904 ∧ x.fields.length < 4611686018427387904
def Bs.sm (x : Bs) : Prop := x.ents.length < 4611686018427387904 ∧ (∀ y ∈ x.ents, En.sm y)
def Cl.sm (x : Cl) : Prop := x.queue.length < 4611686018427387904 ∧ (∀ y ∈ x.queue, Or.sm y) ∧ x.watch.length < 4611686018427387904 ∧ x.hears.length < 4611686018427387904
def Sv.sm (x : Sv) : Prop := Bs.sm x.base ∧ x.cls.length < 4611686018427387904 ∧ (∀ y ∈ x.cls, Cl.sm y)
def Ld.sm (x : Ld) : Prop := Sv.sm x.srv
def Fo.sm (x : Fo) : Prop := Bs.sm x.base
theorem Tx.mk_rows (l : List Tx) : (l.map Tx.row).map (List.map (T.mk false)) = l.map Tx.row := Am.mk_rows _ (fun _ => rfl) l
theorem Or.mk_rows (l : List Or) : (l.map Or.row).map (List.map (T.mk false)) = l.map Or.row := Am.mk_rows _ (fun x => by simp only [Or.row, List.map_cons, List.map_nil, T.mk_list, T.mk_int, T.mk_str, T.mk_bool, Pr.mk_rows, Tx.mk_rows]) l
theorem Or.mk_rowsO (l : List Or) : (l.map Or.rowO).map (List.map (T.mk false)) = l.map Or.row := by
  rw [List.map_map]; exact List.map_congr_left fun x _ => by simp only [Function.comp, Or.rowO, Or.row, List.map_cons, List.map_nil, T.mk_list, T.mk_int, T.mk_str, T.mk_bool, Pr.mk_rows, Tx.mk_rows]
theorem Sc.mk_rows (l : List Sc) : (l.map Sc.row).map (List.map (T.mk false)) = l.map Sc.row := Am.mk_rows _ (fun x => by simp only [Sc.row, List.map_cons, List.map_nil, T.mk_list, T.mk_int, T.mk_str, T.mk_bool, Pr.mk_rows, Tx.mk_rows, Or.mk_rows]) l
theorem En.mk_rows (l : List En) : (l.map En.row).map (List.map (T.mk false)) = l.map En.row := Am.mk_rows _ (fun x => by simp only [En.row, List.map_cons, List.map_nil, T.mk_list, T.mk_int, T.mk_str, T.mk_bool, Pr.mk_rows, Tx.mk_rows, Or.mk_rows, Sc.mk_rows]) l
theorem En.mk_rowsO (l : List En) : (l.map En.rowO).map (List.map (T.mk false)) = l.map En.row := by
  rw [List.map_map]; exact List.map_congr_left fun x _ => by simp only [Function.comp, En.rowO, En.row, List.map_cons, List.map_nil, T.mk_list, T.mk_int, T.mk_str, T.mk_bool, Pr.mk_rows, Tx.mk_rows, Or.mk_rows, Sc.mk_rows, Or.mk_rowsO]
theorem Cl.mk_rows (l : List Cl) : (l.map Cl.row).map (List.map (T.mk false)) = l.map Cl.row := Am.mk_rows _ (fun x => by simp only [Cl.row, List.map_cons, List.map_nil, T.mk_list, T.mk_int, T.mk_str, T.mk_bool, Pr.mk_rows, Tx.mk_rows, Or.mk_rows, Sc.mk_rows, En.mk_rows]) l
theorem Cl.mk_rowsO (l : List Cl) : (l.map Cl.rowO).map (List.map (T.mk false)) = l.map Cl.row := by
  rw [List.map_map]; exact List.map_congr_left fun x _ => by simp only [Function.comp, Cl.rowO, Cl.row, List.map_cons, List.map_nil, T.mk_list, T.mk_int, T.mk_str, T.mk_bool, Pr.mk_rows, Tx.mk_rows, Or.mk_rows, Sc.mk_rows, En.mk_rows, Or.mk_rowsO, En.mk_rowsO]
attribute [go_sem] Tx.mk_rows Or.mk_rows Or.mk_rowsO Sc.mk_rows En.mk_rows En.mk_rowsO Cl.mk_rows Cl.mk_rowsO
end Go.Proofs.Ythbhnjcnbnlidaa.Am
namespace Go.Proofs.Ythbhnjcnbnlidaa.Am
open Go
set_option maxRecDepth 100000
set_option linter.unusedSimpArgs false
set_option linter.unusedVariables false
theorem p_eqPair : Plain Try.prog 130 := ⟨_, Try.func130, rfl, by decide⟩
theorem s_eqPair (x y : Pr) : Spec Try.prog 130 [x.av, y.av] (fun r => r = Bo (decide (x = y))) := by
  have ext := Pr.ext_iff (x := x) (y := y)
  refine Spec.of tysOk mixed Try.func130 rfl (by decide) ?_
  simp -implicitDefEqProofs only [go_sem, Try.f130]
  refine BrA_i (fun h0 => ?_) (fun h0 => ?_) <;> simp -implicitDefEqProofs only [go_sem]
  · skip
    refine BrA_i (fun h1 => ?_) (fun h1 => ?_) <;> simp -implicitDefEqProofs only [go_sem]
    · simp only [decide_eq_true_eq] at h0 h1; simp [ext, *]
    · simp only [decide_eq_false_iff_not] at h1; simp [ext, h1]
  · simp only [decide_eq_false_iff_not] at h0; simp [ext, h0]
theorem p_eqPairS : Plain Try.prog 108 := ⟨_, Try.func108, rfl, by decide⟩
theorem s_eqPairS (xs ys : List Pr) (hx : xs.length < 4611686018427387904) : Spec Try.prog 108 [.t (.list false 2 (xs.map Pr.row)), .t (.list false 2 (ys.map Pr.row))] (fun r => r = Bo (decide (xs = ys))) := by
  refine Spec.of tysOk mixed Try.func108 rfl (by decide) ?_
  simp -implicitDefEqProofs only [go_sem, Try.f108]
  refine BrA_i (fun h => ?_) (fun h => ?_) <;> simp -implicitDefEqProofs only [go_sem]
  · have hl : xs.length = ys.length := by simp at h; omega
    refine LoopW.slots (α := Nat) (fun i => [(5, I i)]) (fun _ => []) (fun i => xs.length - i) (fun i => i ≤ xs.length ∧ ∀ j (h : j < xs.length), j < i → xs[j] = ys[j]) 0 rfl rfl (by simp) ?_
    rintro i ⟨hi, hz⟩
    simp -implicitDefEqProofs only [go_sem]
    refine BrA_i (fun h => ?_) (fun h => ?_)
    · have h : i < xs.length := by simp at h; omega
      have h' : i < ys.length := by omega
      have hw1 : IntKind.i64.wrap ((i : Int) + 1) = ((i + 1 : Nat) : Int) := by rw [wrap64 (by omega) (by omega)]; omega
      simp -implicitDefEqProofs only [go_sem]
      refine RegD_of sch_108_6 tysOk (by kernel_rfl) ?_
      simp -implicitDefEqProofs only [go_sem, row_getD _ _ h, row_getD _ _ h', Pr.row]
      refine ⟨⟨by omega, by omega⟩, ⟨by omega, by omega⟩, ?_⟩
      refine .one (s_eqPair xs[i] ys[i]) p_eqPair (by simp -implicitDefEqProofs only [go_sem]) trivial ?_
      simp -implicitDefEqProofs only [go_sem]
      refine BrA_i (fun h1 => ?_) (fun h1 => ?_) <;> simp -implicitDefEqProofs only [go_sem]
      · refine .to [] (i + 1) rfl ?_ ?_ (by omega) ⟨h, fun j hj hl => ?_⟩ <;> (try simp -implicitDefEqProofs only [go_sem, LeTs_undef, LeTs_same, LeTs_nil, hw1])
        rcases Nat.lt_succ_iff_lt_or_eq.1 hl with hl | rfl
        · exact hz j hj hl
        · simpa using h1
      · have : xs ≠ ys := fun e => by subst e; simp at h1
        simp [this]
    · simp -implicitDefEqProofs only [go_sem]
      have : xs = ys := List.ext_getElem hl fun j h1 h2 => hz j h1 (by simp at h; omega)
      simp [this]
  · have : xs ≠ ys := fun e => by subst e; simp at h
    simp [this]
end Go.Proofs.Ythbhnjcnbnlidaa.Am
namespace Go.Proofs.Ythbhnjcnbnlidaa.Am
open Go
set_option maxRecDepth 100000
set_option linter.unusedSimpArgs false
set_option linter.unusedVariables false
theorem p_eqStringS : Plain Try.prog 26 := ⟨_, Try.func26, rfl, by decide⟩
theorem s_eqStringS (xs ys : List Tx) (hx : xs.length < 4611686018427387904) : Spec Try.prog 26 [.t (.list false 1 (xs.map Tx.row)), .t (.list false 1 (ys.map Tx.row))] (fun r => r = Bo (decide (xs = ys))) := by
  refine Spec.of tysOk mixed Try.func26 rfl (by decide) ?_
  simp -implicitDefEqProofs only [go_sem, Try.f26]
  refine BrA_i (fun h => ?_) (fun h => ?_) <;> simp -implicitDefEqProofs only [go_sem]
  · have hl : xs.length = ys.length := by simp at h; omega
    refine LoopW.slots (α := Nat) (fun i => [(5, I i)]) (fun _ => []) (fun i => xs.length - i) (fun i => i ≤ xs.length ∧ ∀ j (h : j < xs.length), j < i → xs[j] = ys[j]) 0 rfl rfl (by simp) ?_
    rintro i ⟨hi, hz⟩
    simp -implicitDefEqProofs only [go_sem]
    refine BrA_i (fun h => ?_) (fun h => ?_)
    · have h : i < xs.length := by simp at h; omega
      have h' : i < ys.length := by omega
      have hw1 : IntKind.i64.wrap ((i : Int) + 1) = ((i + 1 : Nat) : Int) := by rw [wrap64 (by omega) (by omega)]; omega
      simp -implicitDefEqProofs only [go_sem]
      refine RegD_of sch_26_6 tysOk (by kernel_rfl) ?_
      simp -implicitDefEqProofs only [go_sem, row_getD _ _ h, row_getD _ _ h', Tx.row]
      refine ⟨⟨by omega, by omega⟩, ⟨by omega, by omega⟩, ?_⟩
      refine BrA_i (fun h1 => ?_) (fun h1 => ?_) <;> simp -implicitDefEqProofs only [go_sem]
      · refine .to [] (i + 1) rfl ?_ ?_ (by omega) ⟨h, fun j hj hl => ?_⟩ <;> (try simp -implicitDefEqProofs only [go_sem, LeTs_undef, LeTs_same, LeTs_nil, hw1])
        rcases Nat.lt_succ_iff_lt_or_eq.1 hl with hl | rfl
        · exact hz j hj hl
        · simpa using h1
      · have : xs ≠ ys := fun e => by subst e; simp at h1
        simp [this]
    · simp -implicitDefEqProofs only [go_sem]
      have : xs = ys := List.ext_getElem hl fun j h1 h2 => hz j h1 (by simp at h; omega)
      simp [this]
  · have : xs ≠ ys := fun e => by subst e; simp at h
    simp [this]
theorem p_eqStringSS : Plain Try.prog 113 := ⟨_, Try.func113, rfl, by decide⟩
theorem s_eqStringSS (xs ys : List Or) (hx : xs.length < 4611686018427387904) (hs : ∀ x ∈ xs, x.sm) : Spec Try.prog 113 [.t (.list false 1 (xs.map Or.row)), .t (.list false 1 (ys.map Or.row))] (fun r => r = Bo (decide (xs = ys))) := by
  refine Spec.of tysOk mixed Try.func113 rfl (by decide) ?_
  simp -implicitDefEqProofs only [go_sem, Try.f113]
  refine BrA_i (fun h => ?_) (fun h => ?_) <;> simp -implicitDefEqProofs only [go_sem]
  · have hl : xs.length = ys.length := by simp at h; omega
    refine LoopW.slots (α := Nat) (fun i => [(5, I i)]) (fun _ => []) (fun i => xs.length - i) (fun i => i ≤ xs.length ∧ ∀ j (h : j < xs.length), j < i → xs[j] = ys[j]) 0 rfl rfl (by simp) ?_
    rintro i ⟨hi, hz⟩
    simp -implicitDefEqProofs only [go_sem]
    refine BrA_i (fun h => ?_) (fun h => ?_)
    · have h : i < xs.length := by simp at h; omega
      have h' : i < ys.length := by omega
      have hw1 : IntKind.i64.wrap ((i : Int) + 1) = ((i + 1 : Nat) : Int) := by rw [wrap64 (by omega) (by omega)]; omega
      simp -implicitDefEqProofs only [go_sem]
      refine RegD_of sch_113_6 tysOk (by kernel_rfl) ?_
      simp -implicitDefEqProofs only [go_sem, row_getD _ _ h, row_getD _ _ h', Or.row]
      refine ⟨⟨by omega, by omega⟩, ⟨by omega, by omega⟩, ?_⟩
      refine .one (s_eqStringS xs[i] ys[i] (hs _ (List.getElem_mem _))) p_eqStringS (by simp -implicitDefEqProofs only [go_sem]) trivial ?_
      simp -implicitDefEqProofs only [go_sem]
      refine BrA_i (fun h1 => ?_) (fun h1 => ?_) <;> simp -implicitDefEqProofs only [go_sem]
      · refine .to [] (i + 1) rfl ?_ ?_ (by omega) ⟨h, fun j hj hl => ?_⟩ <;> (try simp -implicitDefEqProofs only [go_sem, LeTs_undef, LeTs_same, LeTs_nil, hw1])
        rcases Nat.lt_succ_iff_lt_or_eq.1 hl with hl | rfl
        · exact hz j hj hl
        · simpa using h1
      · have : xs ≠ ys := fun e => by subst e; simp at h1
        simp [this]
    · simp -implicitDefEqProofs only [go_sem]
      have : xs = ys := List.ext_getElem hl fun j h1 h2 => hz j h1 (by simp at h; omega)
      simp [this]
  · have : xs ≠ ys := fun e => by subst e; simp at h
    simp [this]
theorem p_eqScore : Plain Try.prog 47 := ⟨_, Try.func47, rfl, by decide⟩
theorem s_eqScore (x y : Sc) : Spec Try.prog 47 [x.av, y.av] (fun r => r = Bo (decide (x = y))) := by
  have ext := Sc.ext_iff (x := x) (y := y)
  refine Spec.of tysOk mixed Try.func47 rfl (by decide) ?_
  simp -implicitDefEqProofs only [go_sem, Try.f47]
  refine BrA_i (fun h0 => ?_) (fun h0 => ?_) <;> simp -implicitDefEqProofs only [go_sem]
  rotate_left
  · simp only [decide_eq_false_iff_not] at h0; simp [ext, h0]
  simp only [decide_eq_true_eq] at h0
  refine BrA_i (fun h1 => ?_) (fun h1 => ?_) <;> simp -implicitDefEqProofs only [go_sem]
  rotate_left
  · simp only [decide_eq_false_iff_not] at h1; simp [ext, h1]
  simp only [decide_eq_true_eq] at h1
  simp [ext, *]
theorem p_eqScoreS : Plain Try.prog 17 := ⟨_, Try.func17, rfl, by decide⟩
theorem s_eqScoreS (xs ys : List Sc) (hx : xs.length < 4611686018427387904) : Spec Try.prog 17 [.t (.list false 2 (xs.map Sc.row)), .t (.list false 2 (ys.map Sc.row))] (fun r => r = Bo (decide (xs = ys))) := by
  refine Spec.of tysOk mixed Try.func17 rfl (by decide) ?_
  simp -implicitDefEqProofs only [go_sem, Try.f17]
  refine BrA_i (fun h => ?_) (fun h => ?_) <;> simp -implicitDefEqProofs only [go_sem]
  · have hl : xs.length = ys.length := by simp at h; omega
    refine LoopW.slots (α := Nat) (fun i => [(5, I i)]) (fun _ => []) (fun i => xs.length - i) (fun i => i ≤ xs.length ∧ ∀ j (h : j < xs.length), j < i → xs[j] = ys[j]) 0 rfl rfl (by simp) ?_
    rintro i ⟨hi, hz⟩
    simp -implicitDefEqProofs only [go_sem]
    refine BrA_i (fun h => ?_) (fun h => ?_)
    · have h : i < xs.length := by simp at h; omega
      have h' : i < ys.length := by omega
      have hw1 : IntKind.i64.wrap ((i : Int) + 1) = ((i + 1 : Nat) : Int) := by rw [wrap64 (by omega) (by omega)]; omega
      simp -implicitDefEqProofs only [go_sem]
      refine RegD_of sch_17_6 tysOk (by kernel_rfl) ?_
      simp -implicitDefEqProofs only [go_sem, row_getD _ _ h, row_getD _ _ h', Sc.row]
      refine ⟨⟨by omega, by omega⟩, ⟨by omega, by omega⟩, ?_⟩
      refine .one (s_eqScore xs[i] ys[i]) p_eqScore (by simp -implicitDefEqProofs only [go_sem]) trivial ?_
      simp -implicitDefEqProofs only [go_sem]
      refine BrA_i (fun h1 => ?_) (fun h1 => ?_) <;> simp -implicitDefEqProofs only [go_sem]
      · refine .to [] (i + 1) rfl ?_ ?_ (by omega) ⟨h, fun j hj hl => ?_⟩ <;> (try simp -implicitDefEqProofs only [go_sem, LeTs_undef, LeTs_same, LeTs_nil, hw1])
        rcases Nat.lt_succ_iff_lt_or_eq.1 hl with hl | rfl
        · exact hz j hj hl
        · simpa using h1
      · have : xs ≠ ys := fun e => by subst e; simp at h1
        simp [this]
    · simp -implicitDefEqProofs only [go_sem]
      have : xs = ys := List.ext_getElem hl fun j h1 h2 => hz j h1 (by simp at h; omega)
      simp [this]
  · have : xs ≠ ys := fun e => by subst e; simp at h
    simp [this]
theorem p_eqEntry : Plain Try.prog 77 := ⟨_, Try.func77, rfl, by decide⟩
theorem s_eqEntry (x y : En) (hs : x.sm) : Spec Try.prog 77 [x.av, y.av] (fun r => r = Bo (decide (x = y))) := by
  have ext := En.ext_iff (x := x) (y := y)
  obtain ⟨q0, q1, q2⟩ := hs
  refine Spec.of tysOk mixed Try.func77 rfl (by decide) ?_
  simp -implicitDefEqProofs only [go_sem, Try.f77]
  refine BrA_i (fun h0 => ?_) (fun h0 => ?_) <;> simp -implicitDefEqProofs only [go_sem]
  rotate_left
  · simp only [decide_eq_false_iff_not] at h0; simp [ext, h0]
  simp only [decide_eq_true_eq] at h0
  refine BrA_i (fun h1 => ?_) (fun h1 => ?_) <;> simp -implicitDefEqProofs only [go_sem]
  rotate_left
  · simp only [decide_eq_false_iff_not] at h1; simp [ext, h1]
  simp only [decide_eq_true_eq] at h1
  refine BrA_i (fun h2 => ?_) (fun h2 => ?_) <;> simp -implicitDefEqProofs only [go_sem]
  rotate_left
  · simp only [decide_eq_false_iff_not] at h2; simp [ext, h2]
  simp only [decide_eq_true_eq] at h2
  refine BrA_i (fun h3 => ?_) (fun h3 => ?_) <;> simp -implicitDefEqProofs only [go_sem]
  rotate_left
  · simp only [decide_eq_false_iff_not] at h3; simp [ext, h3]
  simp only [decide_eq_true_eq] at h3
  refine .one (s_eqStringS x.list y.list q0) p_eqStringS (by simp -implicitDefEqProofs only [go_sem]) trivial ?_
  simp -implicitDefEqProofs only [go_sem]
  refine BrA_i (fun h4 => ?_) (fun h4 => ?_) <;> simp -implicitDefEqProofs only [go_sem]
  rotate_left
  · simp only [decide_eq_false_iff_not] at h4; simp [ext, h4]
  simp only [decide_eq_true_eq] at h4
  refine .one (s_eqScoreS x.scores y.scores q1) p_eqScoreS (by simp -implicitDefEqProofs only [go_sem]) trivial ?_
  simp -implicitDefEqProofs only [go_sem]
  refine BrA_i (fun h5 => ?_) (fun h5 => ?_) <;> simp -implicitDefEqProofs only [go_sem]
  rotate_left
  · simp only [decide_eq_false_iff_not] at h5; simp [ext, h5]
  simp only [decide_eq_true_eq] at h5
  refine .one (s_eqPairS x.fields y.fields q2) p_eqPairS (by simp -implicitDefEqProofs only [go_sem]) trivial ?_
  simp -implicitDefEqProofs only [go_sem]
  refine BrA_i (fun h6 => ?_) (fun h6 => ?_) <;> simp -implicitDefEqProofs only [go_sem]
  rotate_left
  · simp only [decide_eq_false_iff_not] at h6; simp [ext, h6]
  simp only [decide_eq_true_eq] at h6
  simp [ext, *]
theorem p_eqEntryS : Plain Try.prog 56 := ⟨_, Try.func56, rfl, by decide⟩
theorem s_eqEntryS (xs ys : List En) (hx : xs.length < 4611686018427387904) (hs : ∀ x ∈ xs, x.sm) : Spec Try.prog 56 [.t (.list false 7 (xs.map En.row)), .t (.list false 7 (ys.map En.row))] (fun r => r = Bo (decide (xs = ys))) := by
  refine Spec.of tysOk mixed Try.func56 rfl (by decide) ?_
  simp -implicitDefEqProofs only [go_sem, Try.f56]
  refine BrA_i (fun h => ?_) (fun h => ?_) <;> simp -implicitDefEqProofs only [go_sem]
  · have hl : xs.length = ys.length := by simp at h; omega
    refine LoopW.slots (α := Nat) (fun i => [(5, I i)]) (fun _ => []) (fun i => xs.length - i) (fun i => i ≤ xs.length ∧ ∀ j (h : j < xs.length), j < i → xs[j] = ys[j]) 0 rfl rfl (by simp) ?_
    rintro i ⟨hi, hz⟩
    simp -implicitDefEqProofs only [go_sem]
    refine BrA_i (fun h => ?_) (fun h => ?_)
    · have h : i < xs.length := by simp at h; omega
      have h' : i < ys.length := by omega
      have hw1 : IntKind.i64.wrap ((i : Int) + 1) = ((i + 1 : Nat) : Int) := by rw [wrap64 (by omega) (by omega)]; omega
      simp -implicitDefEqProofs only [go_sem]
      refine RegD_of sch_56_6 tysOk (by kernel_rfl) ?_
      simp -implicitDefEqProofs only [go_sem, row_getD _ _ h, row_getD _ _ h', En.row]
      refine ⟨⟨by omega, by omega⟩, ⟨by omega, by omega⟩, ?_⟩
      refine .one (s_eqEntry xs[i] ys[i] (hs _ (List.getElem_mem _))) p_eqEntry (by simp -implicitDefEqProofs only [go_sem]) trivial ?_
      simp -implicitDefEqProofs only [go_sem]
      refine BrA_i (fun h1 => ?_) (fun h1 => ?_) <;> simp -implicitDefEqProofs only [go_sem]
      · refine .to [] (i + 1) rfl ?_ ?_ (by omega) ⟨h, fun j hj hl => ?_⟩ <;> (try simp -implicitDefEqProofs only [go_sem, LeTs_undef, LeTs_same, LeTs_nil, hw1])
        rcases Nat.lt_succ_iff_lt_or_eq.1 hl with hl | rfl
        · exact hz j hj hl
        · simpa using h1
      · have : xs ≠ ys := fun e => by subst e; simp at h1
        simp [this]
    · simp -implicitDefEqProofs only [go_sem]
      have : xs = ys := List.ext_getElem hl fun j h1 h2 => hz j h1 (by simp at h; omega)
      simp [this]
  · have : xs ≠ ys := fun e => by subst e; simp at h
    simp [this]
theorem p_eqBase : Plain Try.prog 27 := ⟨_, Try.func27, rfl, by decide⟩
theorem s_eqBase (x y : Bs) (hs : x.sm) : Spec Try.prog 27 [x.av, y.av] (fun r => r = Bo (decide (x = y))) := by
  have ext := Bs.ext_iff (x := x) (y := y)
  obtain ⟨q0, q1⟩ := hs
  refine Spec.of tysOk mixed Try.func27 rfl (by decide) ?_
  simp -implicitDefEqProofs only [go_sem, Try.f27]
  refine BrA_i (fun h0 => ?_) (fun h0 => ?_) <;> simp -implicitDefEqProofs only [go_sem]
  rotate_left
  · simp only [decide_eq_false_iff_not] at h0; simp [ext, h0]
  simp only [decide_eq_true_eq] at h0
  refine .one (s_eqEntryS x.ents y.ents q0 q1) p_eqEntryS (by simp -implicitDefEqProofs only [go_sem]) trivial ?_
  simp -implicitDefEqProofs only [go_sem]
  refine BrA_i (fun h1 => ?_) (fun h1 => ?_) <;> simp -implicitDefEqProofs only [go_sem]
  rotate_left
  · simp only [decide_eq_false_iff_not] at h1; simp [ext, h1]
  simp only [decide_eq_true_eq] at h1
  simp [ext, *]
theorem p_eqClient : Plain Try.prog 86 := ⟨_, Try.func86, rfl, by decide⟩
theorem s_eqClient (x y : Cl) (hs : x.sm) : Spec Try.prog 86 [x.av, y.av] (fun r => r = Bo (decide (x = y))) := by
  have ext := Cl.ext_iff (x := x) (y := y)
  obtain ⟨q0, q1, q2, q3⟩ := hs
  refine Spec.of tysOk mixed Try.func86 rfl (by decide) ?_
  simp -implicitDefEqProofs only [go_sem, Try.f86]
  refine BrA_i (fun h0 => ?_) (fun h0 => ?_) <;> simp -implicitDefEqProofs only [go_sem]
  rotate_left
  · have h0 := ne_of_beq_false h0; simp [ext, h0]
  have h0 := eq_of_beq h0
  refine BrA_i (fun h1 => ?_) (fun h1 => ?_) <;> simp -implicitDefEqProofs only [go_sem]
  rotate_left
  · have h1 := ne_of_beq_false h1; simp [ext, h1]
  have h1 := eq_of_beq h1
  refine .one (s_eqStringSS x.queue y.queue q0 q1) p_eqStringSS (by simp -implicitDefEqProofs only [go_sem]) trivial ?_
  simp -implicitDefEqProofs only [go_sem]
  refine BrA_i (fun h2 => ?_) (fun h2 => ?_) <;> simp -implicitDefEqProofs only [go_sem]
  rotate_left
  · simp only [decide_eq_false_iff_not] at h2; simp [ext, h2]
  simp only [decide_eq_true_eq] at h2
  refine .one (s_eqStringS x.watch y.watch q2) p_eqStringS (by simp -implicitDefEqProofs only [go_sem]) trivial ?_
  simp -implicitDefEqProofs only [go_sem]
  refine BrA_i (fun h3 => ?_) (fun h3 => ?_) <;> simp -implicitDefEqProofs only [go_sem]
  rotate_left
  · simp only [decide_eq_false_iff_not] at h3; simp [ext, h3]
  simp only [decide_eq_true_eq] at h3
  refine BrA_i (fun h4 => ?_) (fun h4 => ?_) <;> simp -implicitDefEqProofs only [go_sem]
  rotate_left
  · have h4 := ne_of_beq_false h4; simp [ext, h4]
  have h4 := eq_of_beq h4
  refine .one (s_eqStringS x.hears y.hears q3) p_eqStringS (by simp -implicitDefEqProofs only [go_sem]) trivial ?_
  simp -implicitDefEqProofs only [go_sem]
  refine BrA_i (fun h5 => ?_) (fun h5 => ?_) <;> simp -implicitDefEqProofs only [go_sem]
  rotate_left
  · simp only [decide_eq_false_iff_not] at h5; simp [ext, h5]
  simp only [decide_eq_true_eq] at h5
  simp [ext, *]
theorem p_eqClientS : Plain Try.prog 66 := ⟨_, Try.func66, rfl, by decide⟩
theorem s_eqClientS (xs ys : List Cl) (hx : xs.length < 4611686018427387904) (hs : ∀ x ∈ xs, x.sm) : Spec Try.prog 66 [.t (.list false 6 (xs.map Cl.row)), .t (.list false 6 (ys.map Cl.row))] (fun r => r = Bo (decide (xs = ys))) := by
  refine Spec.of tysOk mixed Try.func66 rfl (by decide) ?_
  simp -implicitDefEqProofs only [go_sem, Try.f66]
  refine BrA_i (fun h => ?_) (fun h => ?_) <;> simp -implicitDefEqProofs only [go_sem]
  · have hl : xs.length = ys.length := by simp at h; omega
    refine LoopW.slots (α := Nat) (fun i => [(5, I i)]) (fun _ => []) (fun i => xs.length - i) (fun i => i ≤ xs.length ∧ ∀ j (h : j < xs.length), j < i → xs[j] = ys[j]) 0 rfl rfl (by simp) ?_
    rintro i ⟨hi, hz⟩
    simp -implicitDefEqProofs only [go_sem]
    refine BrA_i (fun h => ?_) (fun h => ?_)
    · have h : i < xs.length := by simp at h; omega
      have h' : i < ys.length := by omega
      have hw1 : IntKind.i64.wrap ((i : Int) + 1) = ((i + 1 : Nat) : Int) := by rw [wrap64 (by omega) (by omega)]; omega
      simp -implicitDefEqProofs only [go_sem]
      refine RegD_of sch_66_6 tysOk (by kernel_rfl) ?_
      simp -implicitDefEqProofs only [go_sem, row_getD _ _ h, row_getD _ _ h', Cl.row]
      refine ⟨⟨by omega, by omega⟩, ⟨by omega, by omega⟩, ?_⟩
      refine .one (s_eqClient xs[i] ys[i] (hs _ (List.getElem_mem _))) p_eqClient (by simp -implicitDefEqProofs only [go_sem]) trivial ?_
      simp -implicitDefEqProofs only [go_sem]
      refine BrA_i (fun h1 => ?_) (fun h1 => ?_) <;> simp -implicitDefEqProofs only [go_sem]
      · refine .to [] (i + 1) rfl ?_ ?_ (by omega) ⟨h, fun j hj hl => ?_⟩ <;> (try simp -implicitDefEqProofs only [go_sem, LeTs_undef, LeTs_same, LeTs_nil, hw1])
        rcases Nat.lt_succ_iff_lt_or_eq.1 hl with hl | rfl
        · exact hz j hj hl
        · simpa using h1
      · have : xs ≠ ys := fun e => by subst e; simp at h1
        simp [this]
    · simp -implicitDefEqProofs only [go_sem]
      have : xs = ys := List.ext_getElem hl fun j h1 h2 => hz j h1 (by simp at h; omega)
      simp [this]
  · have : xs ≠ ys := fun e => by subst e; simp at h
    simp [this]
theorem p_eqServer : Plain Try.prog 38 := ⟨_, Try.func38, rfl, by decide⟩
theorem s_eqServer (x y : Sv) (hs : x.sm) : Spec Try.prog 38 [x.av, y.av] (fun r => r = Bo (decide (x = y))) := by
  have ext := Sv.ext_iff (x := x) (y := y)
  obtain ⟨q0, q1, q2⟩ := hs
  refine Spec.of tysOk mixed Try.func38 rfl (by decide) ?_
  simp -implicitDefEqProofs only [go_sem, Try.f38]
  refine .one (s_eqBase x.base y.base q0) p_eqBase (by simp -implicitDefEqProofs only [go_sem]) trivial ?_
  simp -implicitDefEqProofs only [go_sem]
  refine BrA_i (fun h0 => ?_) (fun h0 => ?_) <;> simp -implicitDefEqProofs only [go_sem]
  rotate_left
  · simp only [decide_eq_false_iff_not] at h0; simp [ext, h0]
  simp only [decide_eq_true_eq] at h0
  refine BrA_i (fun h1 => ?_) (fun h1 => ?_) <;> simp -implicitDefEqProofs only [go_sem]
  rotate_left
  · simp only [decide_eq_false_iff_not] at h1; simp [ext, h1]
  simp only [decide_eq_true_eq] at h1
  refine .one (s_eqClientS x.cls y.cls q1 q2) p_eqClientS (by simp -implicitDefEqProofs only [go_sem]) trivial ?_
  simp -implicitDefEqProofs only [go_sem]
  refine BrA_i (fun h2 => ?_) (fun h2 => ?_) <;> simp -implicitDefEqProofs only [go_sem]
  rotate_left
  · simp only [decide_eq_false_iff_not] at h2; simp [ext, h2]
  simp only [decide_eq_true_eq] at h2
  simp [ext, *]
theorem p_eqLeader : Plain Try.prog 10 := ⟨_, Try.func10, rfl, by decide⟩
theorem s_eqLeader (x y : Ld) (hs : x.sm) : Spec Try.prog 10 [x.av, y.av] (fun r => r = Bo (decide (x = y))) := by
  have ext := Ld.ext_iff (x := x) (y := y)
  have q0 : Sv.sm x.srv := hs
  refine Spec.of tysOk mixed Try.func10 rfl (by decide) ?_
  simp -implicitDefEqProofs only [go_sem, Try.f10]
  refine .one (s_eqServer x.srv y.srv q0) p_eqServer (by simp -implicitDefEqProofs only [go_sem]) trivial ?_
  simp -implicitDefEqProofs only [go_sem]
  refine BrA_i (fun h0 => ?_) (fun h0 => ?_) <;> simp -implicitDefEqProofs only [go_sem]
  rotate_left
  · simp only [decide_eq_false_iff_not] at h0; simp [ext, h0]
  simp only [decide_eq_true_eq] at h0
  refine BrA_i (fun h1 => ?_) (fun h1 => ?_) <;> simp -implicitDefEqProofs only [go_sem]
  rotate_left
  · simp only [decide_eq_false_iff_not] at h1; simp [ext, h1]
  simp only [decide_eq_true_eq] at h1
  simp [ext, *]
end Go.Proofs.Ythbhnjcnbnlidaa.Am
namespace Go.Proofs.Ythbhnjcnbnlidaa.Am
open Go
set_option maxRecDepth 100000
set_option linter.unusedSimpArgs false
set_option linter.unusedVariables false
def dig (n : Nat) : ByteArray := ⟨#[UInt8.ofNat (IntKind.u8.wrap (48 + (n : Int))).toNat]⟩
def mtL (n : Nat) (out : ByteArray) : ByteArray := if h : n = 0 then out else mtL (n / 10) (dig (n % 10) ++ out)
termination_by n
decreasing_by omega
theorem mtL_pos {n : Nat} (h : 0 < n) (out : ByteArray) : mtL n out = mtL (n / 10) (dig (n % 10) ++ out) := by rw [mtL, dif_neg (by omega)]
theorem mtL_0 (out : ByteArray) : mtL 0 out = out := by rw [mtL, dif_pos rfl]
def mt (k : Int) : ByteArray := if k ≤ 0 then "m0".toUTF8 else "m".toUTF8 ++ mtL k.toNat .empty
theorem p_markText : Plain Try.prog 48 := ⟨_, Try.func48, rfl, by decide⟩
theorem s_markText (k : Int) (hk : k < 1000000000000000000) : Spec Try.prog 48 [I k] (fun r => r = .t (.str (mt k))) := by
  refine Spec.of tysOk mixed Try.func48 rfl (by decide) ?_
  simp -implicitDefEqProofs only [go_sem, Try.f48]
  refine BrA_i (fun h => ?_) (fun h => ?_) <;> simp -implicitDefEqProofs only [go_sem]
  · have h : k ≤ 0 := by simpa using h
    simp only [mt, if_pos h]; rfl
  · have h : 0 < k := by simpa using h
    refine LoopW.slotsL (α := Nat × ByteArray × Nat) (fun p => [(0, I p.1), (3, .t (.str p.2.1))]) (fun _ => []) (fun p => p.1) (fun p => mtL p.1 p.2.1 = mtL k.toNat .empty ∧ p.1 < 10 ^ p.2.2 ∧ p.2.1.size + p.2.2 ≤ 100 ∧ p.1 ≤ k.toNat) (k.toNat, .empty, 18) ?_ rfl ?_ ?_
    · simp -implicitDefEqProofs only [go_sem, LeTs_undef, LeTs_same, LeTs_nil, Int.toNat_of_nonneg (show 0 ≤ k by omega)]
      simp [LeTs]; rfl
    · refine ⟨rfl, ?_, ?_, Nat.le_refl _⟩
      · show k.toNat < 10 ^ 18; omega
      · show (0 + 18 ≤ 100); omega
    rintro ⟨n, out, f⟩ ⟨h1, h2, h3, h4⟩
    simp -implicitDefEqProofs only [go_sem]
    refine BrA_i (fun h => ?_) (fun h => ?_) <;> simp -implicitDefEqProofs only [go_sem]
    · have h : 0 < n := by simp at h; omega
      simp only at h1 h2 h3 h4
      have e1 : IntKind.i64.wrap (48 + (n : Int).tmod 10) = 48 + ((n % 10 : Nat) : Int) := by
        have : (n : Int).tmod 10 = ((n % 10 : Nat) : Int) := rfl
        rw [this, wrap64 (by omega) (by omega)]
      have e2 : IntKind.i64.wrap ((n : Int).tdiv 10) = ((n / 10 : Nat) : Int) := by
        have h0 : (n : Int).tdiv 10 = ((n / 10 : Nat) : Int) := rfl
        rw [h0, wrap64 (by omega) (by omega)]
      have ed : (⟨#[UInt8.ofNat (IntKind.u8.wrap (48 + ((n % 10 : Nat) : Int))).toNat]⟩ : ByteArray) = dig (n % 10) := rfl
      rw [e1, e2, ed]
      have hf : f ≠ 0 := fun e => by subst e; simp at h2; omega
      obtain ⟨f, rfl⟩ : ∃ g, f = g + 1 := ⟨f - 1, by omega⟩
      have hsz : (dig (n % 10) ++ out).size = out.size + 1 := by
        rw [ByteArray.size_append]; show 1 + out.size = _; omega
      refine ⟨by unfold strMax; omega, .to [96] (n / 10, dig (n % 10) ++ out, f) rfl ?_ rfl ?_ ⟨?_, ?_, ?_, ?_⟩⟩
      · simp -implicitDefEqProofs only [go_sem, LeTs_undef, LeTs_same, LeTs_nil]
      · show n / 10 < n; omega
      · show mtL (n / 10) (dig (n % 10) ++ out) = _
        rw [← h1, mtL_pos h]
      · show n / 10 < 10 ^ f
        rw [Nat.pow_succ] at h2; omega
      · show (dig (n % 10) ++ out).size + f ≤ 100; omega
      · show n / 10 ≤ k.toNat; omega
    · have h : n = 0 := by simp at h; omega
      subst h
      simp only at h1 h2 h3 h4
      rw [mtL_0] at h1
      refine ⟨by unfold strMax; omega, ?_⟩
      have hk0 : ¬ k ≤ 0 := by omega
      simp only [mt, if_neg hk0, ← h1]
      rfl
end Go.Proofs.Ythbhnjcnbnlidaa.Am
namespace Go.Proofs.Ythbhnjcnbnlidaa.Am
open Go
set_option maxRecDepth 100000
set_option linter.unusedSimpArgs false
set_option linter.unusedVariables false
def Pr.mw (x : Pr) : Nat := 2
def Pr.m (x : Pr) (k : Int) : Pr := ⟨mt (k), mt (k + 1)⟩
theorem p_markPairS : Plain Try.prog 78 := ⟨_, Try.func78, rfl, by decide⟩
theorem s_markPairS (xs : List Pr) (k : Int) (hk : 0 ≤ k) (hb : k + (wSum Pr.mw xs : Nat) < 10000000000000000) (hx : xs.length < 10000000000000000) : SpecO Try.prog 78 [.refw 9000, I k] [(9000, .rows 2 (xs.map Pr.row))]
    (fun r h => r = I (k + (wSum Pr.mw xs : Nat)) ∧ h = [(9000, .rows 2 ((mkAll Pr.m Pr.mw xs k).map Pr.row))]) := by
  refine SpecO.of tysOk mixed Try.func78 rfl (by decide) ?_
  have hl : ((mkAll Pr.m Pr.mw xs k).map Pr.row).length = (xs.map Pr.row).length := by rw [List.length_map, List.length_map, mkAll_len]
  simp -implicitDefEqProofs only [go_sem, Try.f78]
  refine LoopW.slotsL (α := Nat) (fun i => [(5, I i), (1, I (k + (wSum Pr.mw (xs.take i) : Nat)))]) (fun i => [(9000, .rows 2 (mixR ((mkAll Pr.m Pr.mw xs k).map Pr.row) (xs.map Pr.row) i))]) (fun i => xs.length - i) (fun i => i ≤ xs.length) 0 ?_ ?_ (by omega) ?_
  · simp -implicitDefEqProofs only [go_sem, LeTs_undef, LeTs_same, LeTs_nil]
    simp [LeTs, wSum]
  · simp -implicitDefEqProofs only [go_sem, mix_0]
  intro i hi
  have hw := wSum_le Pr.mw xs i
  have hml : (mixR ((mkAll Pr.m Pr.mw xs k).map Pr.row) (xs.map Pr.row) i).length = xs.length := by rw [mix_len hl (by simpa using hi), List.length_map]
  simp -implicitDefEqProofs only [go_sem, hml]
  refine BrA_i (fun h => ?_) (fun h => ?_) <;> simp -implicitDefEqProofs only [go_sem]
  · have h : i < xs.length := by simp at h; omega
    have hw1 := wSum_take Pr.mw xs h
    have hw2 := wSum_le Pr.mw xs (i + 1)
    obtain ⟨K, hK⟩ : ∃ K : Int, K = k + (wSum Pr.mw (xs.take i) : Nat) := ⟨_, rfl⟩
    have hK1 : k + (wSum Pr.mw (xs.take (i + 1)) : Nat) = K + (Pr.mw xs[i] : Nat) := by rw [hw1, hK]; omega
    rw [← hK]
    have hmw : Pr.mw xs[i] = 2 := rfl
    have h0i : (0 : Int) ≤ i := by omega
    have h1i : (i : Int) < xs.length := by omega
    have hg : (mixR ((mkAll Pr.m Pr.mw xs k).map Pr.row) (xs.map Pr.row) i).getD i [] = [.str xs[i].k, .str xs[i].v] := by rw [mix_getD hl (by simpa using h), row_getD _ _ h]; rfl
    have hn : ((mkAll Pr.m Pr.mw xs k).map Pr.row).getD i [] = [.str (mt (K)), .str (mt (K + 1))] := by rw [mkAll_getD _ _ _ _ _ h, ← hK]; rfl
    have hst := mix_set hl (i := i) (by simpa using h)
    rw [hn] at hst
    have hsg : ∀ r, ((mixR ((mkAll Pr.m Pr.mw xs k).map Pr.row) (xs.map Pr.row) i).set i r).getD i [] = r := fun r => set_getD (by omega) r
    have wi : IntKind.i64.wrap ((i : Int) + 1) = ((i + 1 : Nat) : Int) := by rw [wrap64 (by omega) (by omega)]; omega
    have w0 : IntKind.i64.wrap (K + 1) = K + 1 := by rw [wrap64 (by omega) (by omega)]
    have w1 : IntKind.i64.wrap (K + 1 + 1) = K + 2 := by rw [wrap64 (by omega) (by omega)]; omega
    simp -implicitDefEqProofs only [go_sem, hml, h0i, h1i, h, hg, hsg, wi, w0, w1]
    refine .one (s_markText _ (by omega)) p_markText rfl trivial ?_
    simp -implicitDefEqProofs only [go_sem, hml, h0i, h1i, h, hg, hsg, wi, w0, w1]
    refine .one (s_markText _ (by omega)) p_markText rfl trivial ?_
    simp -implicitDefEqProofs only [go_sem, hml, h0i, h1i, h, hg, hsg, wi, w0, w1]
    refine .to [] (i + 1) rfl ?_ ?_ (by omega) (by omega)
    · simp -implicitDefEqProofs only [go_sem, LeTs_undef, LeTs_same, LeTs_nil, hK1, hmw]
      try simp [LeTs]
      try omega
    · try simp -implicitDefEqProofs only [go_sem, hst]
  · have h : i = xs.length := by simp at h; omega
    subst h
    have hm : mixR ((mkAll Pr.m Pr.mw xs k).map Pr.row) (xs.map Pr.row) xs.length = ((mkAll Pr.m Pr.mw xs k).map Pr.row) := by
      have := mix_all hl; rwa [List.length_map] at this
    simp -implicitDefEqProofs only [go_sem, hm, List.take_length, mkAll_len]
theorem p_heldPairS : Plain Try.prog 114 := ⟨_, Try.func114, rfl, by decide⟩
theorem s_heldPairS (xs : List Pr) (k : Int) (hk : 0 ≤ k) (hb : k + (wSum Pr.mw xs : Nat) < 10000000000000000) (hx : xs.length < 10000000000000000) : Spec Try.prog 114 [.t (.list false 2 ((mkAll Pr.m Pr.mw xs k).map Pr.row)), I k]
    (fun r => r = I (k + (wSum Pr.mw xs : Nat))) := by
  refine Spec.of tysOk mixed Try.func114 rfl (by decide) ?_
  simp -implicitDefEqProofs only [go_sem, Try.f114, mkAll_len]
  refine LoopW.slotsL (α := Nat) (fun i => [(5, I i), (1, I (k + (wSum Pr.mw (xs.take i) : Nat)))]) (fun i => []) (fun i => xs.length - i) (fun i => i ≤ xs.length) 0 ?_ rfl (by omega) ?_
  · simp -implicitDefEqProofs only [go_sem, LeTs_undef, LeTs_same, LeTs_nil]
    simp [LeTs, wSum]
  intro i hi
  have hw := wSum_le Pr.mw xs i
  simp -implicitDefEqProofs only [go_sem, mkAll_len]
  refine BrA_i (fun h => ?_) (fun h => ?_) <;> simp -implicitDefEqProofs only [go_sem]
  · have h : i < xs.length := by simp at h; omega
    have hw1 := wSum_take Pr.mw xs h
    have hw2 := wSum_le Pr.mw xs (i + 1)
    obtain ⟨K, hK⟩ : ∃ K : Int, K = k + (wSum Pr.mw (xs.take i) : Nat) := ⟨_, rfl⟩
    have hK1 : k + (wSum Pr.mw (xs.take (i + 1)) : Nat) = K + (Pr.mw xs[i] : Nat) := by rw [hw1, hK]; omega
    rw [← hK]
    have hmw : Pr.mw xs[i] = 2 := rfl
    have h0i : (0 : Int) ≤ i := by omega
    have h1i : (i : Int) < xs.length := by omega
    have hn : ((mkAll Pr.m Pr.mw xs k).map Pr.row).getD i [] = [.str (mt (K)), .str (mt (K + 1))] := by rw [mkAll_getD _ _ _ _ _ h, ← hK]; rfl
    have wi : IntKind.i64.wrap ((i : Int) + 1) = ((i + 1 : Nat) : Int) := by rw [wrap64 (by omega) (by omega)]; omega
    have w0 : IntKind.i64.wrap (K + 1) = K + 1 := by rw [wrap64 (by omega) (by omega)]
    have w1 : IntKind.i64.wrap (K + 1 + 1) = K + 2 := by rw [wrap64 (by omega) (by omega)]; omega
    simp -implicitDefEqProofs only [go_sem, mkAll_len, h0i, h1i, h, hn, wi, w0, w1]
    (first | refine RegD_of sch_114_4 tysOk (by decide +kernel) ?_ | refine RegD_of sch_114_7 tysOk (by decide +kernel) ?_)
    simp -implicitDefEqProofs only [go_sem, mkAll_len, h0i, h1i, h, hn, wi, w0, w1]
    refine .one (s_markText _ (by omega)) p_markText rfl trivial ?_
    simp -implicitDefEqProofs only [go_sem, mkAll_len, h0i, h1i, h, hn, wi, w0, w1]
    (first | refine RegD_of sch_114_4 tysOk (by decide +kernel) ?_ | refine RegD_of sch_114_7 tysOk (by decide +kernel) ?_)
    simp -implicitDefEqProofs only [go_sem, mkAll_len, h0i, h1i, h, hn, wi, w0, w1]
    refine .one (s_markText _ (by omega)) p_markText rfl trivial ?_
    simp -implicitDefEqProofs only [go_sem, mkAll_len, h0i, h1i, h, hn, wi, w0, w1]
    refine .to [] (i + 1) rfl ?_ rfl (by omega) (by omega)
    · simp -implicitDefEqProofs only [go_sem, LeTs_undef, LeTs_same, LeTs_nil, hK1, hmw]
      try simp [LeTs]
      try omega
  · have h : i = xs.length := by simp at h; omega
    subst h
    simp -implicitDefEqProofs only [go_sem, List.take_length, mkAll_len]
def It.mw (x : It) : Nat := 2 + wSum Pr.mw x.fields
def It.m (x : It) (k : Int) : It := ⟨⟨k, k + 1⟩, mkAll Pr.m Pr.mw x.fields (k + 2)⟩
def Wt.mw (x : Wt) : Nat := 5
def Wt.m (x : Wt) (k : Int) : Wt := ⟨⟨k, k + 1⟩, mt (k + 2), k + 3, k + 4⟩
def Gr.mw (x : Gr) : Nat := 3 + wSum Wt.mw x.waits
def Gr.m (x : Gr) (k : Int) : Gr := ⟨mt (k), ⟨k + 1, k + 2⟩, mkAll Wt.m Wt.mw x.waits (k + 3)⟩
end Go.Proofs.Ythbhnjcnbnlidaa.Am
namespace Go.Proofs.Ythbhnjcnbnlidaa.Am
open Go
set_option maxRecDepth 100000
set_option linter.unusedSimpArgs false
set_option linter.unusedVariables false
def Tx.mw (x : Tx) : Nat := 1
def Tx.m (x : Tx) (k : Int) : Tx := mt (k)
theorem p_markStringS : Plain Try.prog 29 := ⟨_, Try.func29, rfl, by decide⟩
theorem s_markStringS (xs : List Tx) (k : Int) (hk : 0 ≤ k) (hb : k + (wSum Tx.mw xs : Nat) < 10000000000000000) (hx : xs.length < 10000000000000000) : SpecO Try.prog 29 [.refw 9000, I k] [(9000, .rows 1 (xs.map Tx.row))]
    (fun r h => r = I (k + (wSum Tx.mw xs : Nat)) ∧ h = [(9000, .rows 1 ((mkAll Tx.m Tx.mw xs k).map Tx.row))]) := by
  refine SpecO.of tysOk mixed Try.func29 rfl (by decide) ?_
  have hl : ((mkAll Tx.m Tx.mw xs k).map Tx.row).length = (xs.map Tx.row).length := by rw [List.length_map, List.length_map, mkAll_len]
  simp -implicitDefEqProofs only [go_sem, Try.f29]
  refine LoopW.slotsL (α := Nat) (fun i => [(5, I i), (1, I (k + (wSum Tx.mw (xs.take i) : Nat)))]) (fun i => [(9000, .rows 1 (mixR ((mkAll Tx.m Tx.mw xs k).map Tx.row) (xs.map Tx.row) i))]) (fun i => xs.length - i) (fun i => i ≤ xs.length) 0 ?_ ?_ (by omega) ?_
  · simp -implicitDefEqProofs only [go_sem, LeTs_undef, LeTs_same, LeTs_nil]
    simp [LeTs, wSum]
  · simp -implicitDefEqProofs only [go_sem, mix_0]
  intro i hi
  have hw := wSum_le Tx.mw xs i
  have hml : (mixR ((mkAll Tx.m Tx.mw xs k).map Tx.row) (xs.map Tx.row) i).length = xs.length := by rw [mix_len hl (by simpa using hi), List.length_map]
  simp -implicitDefEqProofs only [go_sem, hml]
  refine BrA_i (fun h => ?_) (fun h => ?_) <;> simp -implicitDefEqProofs only [go_sem]
  · have h : i < xs.length := by simp at h; omega
    have hw1 := wSum_take Tx.mw xs h
    have hw2 := wSum_le Tx.mw xs (i + 1)
    obtain ⟨K, hK⟩ : ∃ K : Int, K = k + (wSum Tx.mw (xs.take i) : Nat) := ⟨_, rfl⟩
    have hK1 : k + (wSum Tx.mw (xs.take (i + 1)) : Nat) = K + (Tx.mw xs[i] : Nat) := by rw [hw1, hK]; omega
    rw [← hK]
    have hmw : Tx.mw xs[i] = 1 := rfl
    have h0i : (0 : Int) ≤ i := by omega
    have h1i : (i : Int) < xs.length := by omega
    have hg : (mixR ((mkAll Tx.m Tx.mw xs k).map Tx.row) (xs.map Tx.row) i).getD i [] = [.str xs[i]] := by rw [mix_getD hl (by simpa using h), row_getD _ _ h]; rfl
    have hn : ((mkAll Tx.m Tx.mw xs k).map Tx.row).getD i [] = [.str (mt (K))] := by rw [mkAll_getD _ _ _ _ _ h, ← hK]; rfl
    have hst := mix_set hl (i := i) (by simpa using h)
    rw [hn] at hst
    have hsg : ∀ r, ((mixR ((mkAll Tx.m Tx.mw xs k).map Tx.row) (xs.map Tx.row) i).set i r).getD i [] = r := fun r => set_getD (by omega) r
    have wi : IntKind.i64.wrap ((i : Int) + 1) = ((i + 1 : Nat) : Int) := by rw [wrap64 (by omega) (by omega)]; omega
    have w0 : IntKind.i64.wrap (K + 1) = K + 1 := by rw [wrap64 (by omega) (by omega)]
    simp -implicitDefEqProofs only [go_sem, hml, h0i, h1i, h, hg, hsg, wi, w0]
    refine .one (s_markText _ (by omega)) p_markText rfl trivial ?_
    simp -implicitDefEqProofs only [go_sem, hml, h0i, h1i, h, hg, hsg, wi, w0]
    refine .to [] (i + 1) rfl ?_ ?_ (by omega) (by omega)
    · simp -implicitDefEqProofs only [go_sem, LeTs_undef, LeTs_same, LeTs_nil, hK1, hmw]
      try simp [LeTs]
      try omega
    · try simp -implicitDefEqProofs only [go_sem, hst]
  · have h : i = xs.length := by simp at h; omega
    subst h
    have hm : mixR ((mkAll Tx.m Tx.mw xs k).map Tx.row) (xs.map Tx.row) xs.length = ((mkAll Tx.m Tx.mw xs k).map Tx.row) := by
      have := mix_all hl; rwa [List.length_map] at this
    simp -implicitDefEqProofs only [go_sem, hm, List.take_length, mkAll_len]
theorem p_heldStringS : Plain Try.prog 30 := ⟨_, Try.func30, rfl, by decide⟩
theorem s_heldStringS (xs : List Tx) (k : Int) (hk : 0 ≤ k) (hb : k + (wSum Tx.mw xs : Nat) < 10000000000000000) (hx : xs.length < 10000000000000000) : Spec Try.prog 30 [.t (.list false 1 ((mkAll Tx.m Tx.mw xs k).map Tx.row)), I k]
    (fun r => r = I (k + (wSum Tx.mw xs : Nat))) := by
  refine Spec.of tysOk mixed Try.func30 rfl (by decide) ?_
  simp -implicitDefEqProofs only [go_sem, Try.f30, mkAll_len]
  refine LoopW.slotsL (α := Nat) (fun i => [(5, I i), (1, I (k + (wSum Tx.mw (xs.take i) : Nat)))]) (fun i => []) (fun i => xs.length - i) (fun i => i ≤ xs.length) 0 ?_ rfl (by omega) ?_
  · simp -implicitDefEqProofs only [go_sem, LeTs_undef, LeTs_same, LeTs_nil]
    simp [LeTs, wSum]
  intro i hi
  have hw := wSum_le Tx.mw xs i
  simp -implicitDefEqProofs only [go_sem, mkAll_len]
  refine BrA_i (fun h => ?_) (fun h => ?_) <;> simp -implicitDefEqProofs only [go_sem]
  · have h : i < xs.length := by simp at h; omega
    have hw1 := wSum_take Tx.mw xs h
    have hw2 := wSum_le Tx.mw xs (i + 1)
    obtain ⟨K, hK⟩ : ∃ K : Int, K = k + (wSum Tx.mw (xs.take i) : Nat) := ⟨_, rfl⟩
    have hK1 : k + (wSum Tx.mw (xs.take (i + 1)) : Nat) = K + (Tx.mw xs[i] : Nat) := by rw [hw1, hK]; omega
    rw [← hK]
    have hmw : Tx.mw xs[i] = 1 := rfl
    have h0i : (0 : Int) ≤ i := by omega
    have h1i : (i : Int) < xs.length := by omega
    have hn : ((mkAll Tx.m Tx.mw xs k).map Tx.row).getD i [] = [.str (mt (K))] := by rw [mkAll_getD _ _ _ _ _ h, ← hK]; rfl
    have wi : IntKind.i64.wrap ((i : Int) + 1) = ((i + 1 : Nat) : Int) := by rw [wrap64 (by omega) (by omega)]; omega
    have w0 : IntKind.i64.wrap (K + 1) = K + 1 := by rw [wrap64 (by omega) (by omega)]
    simp -implicitDefEqProofs only [go_sem, mkAll_len, h0i, h1i, h, hn, wi, eq_self, decide_true, beq_self_eq_true, Bool.not_true, w0]
    (first | refine RegD_of sch_30_4 tysOk (by decide +kernel) ?_)
    simp -implicitDefEqProofs only [go_sem, mkAll_len, h0i, h1i, h, hn, wi, eq_self, decide_true, beq_self_eq_true, Bool.not_true, w0]
    refine .one (s_markText _ (by omega)) p_markText rfl trivial ?_
    simp -implicitDefEqProofs only [go_sem, mkAll_len, h0i, h1i, h, hn, wi, eq_self, decide_true, beq_self_eq_true, Bool.not_true, w0]
    refine .to [] (i + 1) rfl ?_ rfl (by omega) (by omega)
    · simp -implicitDefEqProofs only [go_sem, LeTs_undef, LeTs_same, LeTs_nil, hK1, hmw]
      try simp [LeTs]
      try omega
  · have h : i = xs.length := by simp at h; omega
    subst h
    simp -implicitDefEqProofs only [go_sem, List.take_length, mkAll_len]
def Or.mw (x : Or) : Nat := wSum Tx.mw x
def Or.m (x : Or) (k : Int) : Or := mkAll Tx.m Tx.mw x (k)
theorem p_markStringSS : Plain Try.prog 87 := ⟨_, Try.func87, rfl, by decide⟩
theorem s_markStringSS (xs : List Or) (k : Int) (hk : 0 ≤ k) (hb : k + (wSum Or.mw xs : Nat) < 10000000000000000) (hx : xs.length < 10000000000000000) : SpecO Try.prog 87 [.refw 9000, I k] [(9000, .rows 1 (xs.map Or.rowO))]
    (fun r h => r = I (k + (wSum Or.mw xs : Nat)) ∧ h = [(9000, .rows 1 ((mkAll Or.m Or.mw xs k).map Or.rowO))]) := by
  refine SpecO.of tysOk mixed Try.func87 rfl (by decide) ?_
  have hl : ((mkAll Or.m Or.mw xs k).map Or.rowO).length = (xs.map Or.rowO).length := by rw [List.length_map, List.length_map, mkAll_len]
  simp -implicitDefEqProofs only [go_sem, Try.f87]
  refine LoopW.slotsL (α := Nat) (fun i => [(5, I i), (1, I (k + (wSum Or.mw (xs.take i) : Nat)))]) (fun i => [(9000, .rows 1 (mixR ((mkAll Or.m Or.mw xs k).map Or.rowO) (xs.map Or.rowO) i))]) (fun i => xs.length - i) (fun i => i ≤ xs.length) 0 ?_ ?_ (by omega) ?_
  · simp -implicitDefEqProofs only [go_sem, LeTs_undef, LeTs_same, LeTs_nil]
    simp [LeTs, wSum]
  · simp -implicitDefEqProofs only [go_sem, mix_0]
  intro i hi
  have hw := wSum_le Or.mw xs i
  have hml : (mixR ((mkAll Or.m Or.mw xs k).map Or.rowO) (xs.map Or.rowO) i).length = xs.length := by rw [mix_len hl (by simpa using hi), List.length_map]
  simp -implicitDefEqProofs only [go_sem, hml]
  refine BrA_i (fun h => ?_) (fun h => ?_) <;> simp -implicitDefEqProofs only [go_sem]
  · have h : i < xs.length := by simp at h; omega
    have hw1 := wSum_take Or.mw xs h
    have hw2 := wSum_le Or.mw xs (i + 1)
    obtain ⟨K, hK⟩ : ∃ K : Int, K = k + (wSum Or.mw (xs.take i) : Nat) := ⟨_, rfl⟩
    have hK1 : k + (wSum Or.mw (xs.take (i + 1)) : Nat) = K + (Or.mw xs[i] : Nat) := by rw [hw1, hK]; omega
    rw [← hK]
    have hmw : Or.mw xs[i] = wSum Tx.mw xs[i] := rfl
    have h0i : (0 : Int) ≤ i := by omega
    have h1i : (i : Int) < xs.length := by omega
    have hg : (mixR ((mkAll Or.m Or.mw xs k).map Or.rowO) (xs.map Or.rowO) i).getD i [] = [.list true 1 (xs[i].map Tx.row)] := by rw [mix_getD hl (by simpa using h), row_getD _ _ h]; rfl
    have hn : ((mkAll Or.m Or.mw xs k).map Or.rowO).getD i [] = [.list true 1 ((mkAll Tx.m Tx.mw xs[i] (K)).map Tx.row)] := by rw [mkAll_getD _ _ _ _ _ h, ← hK]; rfl
    have hst := mix_set hl (i := i) (by simpa using h)
    rw [hn] at hst
    have hsg : ∀ r, ((mixR ((mkAll Or.m Or.mw xs k).map Or.rowO) (xs.map Or.rowO) i).set i r).getD i [] = r := fun r => set_getD (by omega) r
    have wi : IntKind.i64.wrap ((i : Int) + 1) = ((i + 1 : Nat) : Int) := by rw [wrap64 (by omega) (by omega)]; omega
    have z0 : wSum Tx.mw xs[i] ≤ Or.mw xs[i] := by rw [hmw]; omega
    simp -implicitDefEqProofs only [go_sem, hml, h0i, h1i, h, hg, hsg, wi]
    refine CallW.n [(9000, 136)] [] [I (K)] 136 rfl (by conv => lhs; simp -implicitDefEqProofs only [go_sem, hml, h0i, h1i, h, hg, hsg, wi]) (s_markStringS xs[i] (K) (by omega) (by omega) (by have := wSum_len (w := Tx.mw) (fun _ => by unfold Tx.mw; omega) xs[i]; omega)) p_markStringS o29 rfl rfl (by conv => lhs; simp -implicitDefEqProofs only [go_sem]) (by simp -implicitDefEqProofs only [go_sem]) ?_
    rintro _ _ ⟨rfl, rfl⟩
    simp -implicitDefEqProofs only [go_sem, hml, h0i, h1i, h, hg, hsg, wi]
    refine .to [] (i + 1) rfl ?_ ?_ (by omega) (by omega)
    · simp -implicitDefEqProofs only [go_sem, LeTs_undef, LeTs_same, LeTs_nil, hK1, hmw]
      try simp [LeTs]
      try omega
    · try simp -implicitDefEqProofs only [go_sem, hst]
  · have h : i = xs.length := by simp at h; omega
    subst h
    have hm : mixR ((mkAll Or.m Or.mw xs k).map Or.rowO) (xs.map Or.rowO) xs.length = ((mkAll Or.m Or.mw xs k).map Or.rowO) := by
      have := mix_all hl; rwa [List.length_map] at this
    simp -implicitDefEqProofs only [go_sem, hm, List.take_length, mkAll_len]
theorem p_heldStringSS : Plain Try.prog 89 := ⟨_, Try.func89, rfl, by decide⟩
theorem s_heldStringSS (xs : List Or) (k : Int) (hk : 0 ≤ k) (hb : k + (wSum Or.mw xs : Nat) < 10000000000000000) (hx : xs.length < 10000000000000000) : Spec Try.prog 89 [.t (.list false 1 ((mkAll Or.m Or.mw xs k).map Or.row)), I k]
    (fun r => r = I (k + (wSum Or.mw xs : Nat))) := by
  refine Spec.of tysOk mixed Try.func89 rfl (by decide) ?_
  simp -implicitDefEqProofs only [go_sem, Try.f89, mkAll_len]
  refine LoopW.slotsL (α := Nat) (fun i => [(5, I i), (1, I (k + (wSum Or.mw (xs.take i) : Nat)))]) (fun i => []) (fun i => xs.length - i) (fun i => i ≤ xs.length) 0 ?_ rfl (by omega) ?_
  · simp -implicitDefEqProofs only [go_sem, LeTs_undef, LeTs_same, LeTs_nil]
    simp [LeTs, wSum]
  intro i hi
  have hw := wSum_le Or.mw xs i
  simp -implicitDefEqProofs only [go_sem, mkAll_len]
  refine BrA_i (fun h => ?_) (fun h => ?_) <;> simp -implicitDefEqProofs only [go_sem]
  · have h : i < xs.length := by simp at h; omega
    have hw1 := wSum_take Or.mw xs h
    have hw2 := wSum_le Or.mw xs (i + 1)
    obtain ⟨K, hK⟩ : ∃ K : Int, K = k + (wSum Or.mw (xs.take i) : Nat) := ⟨_, rfl⟩
    have hK1 : k + (wSum Or.mw (xs.take (i + 1)) : Nat) = K + (Or.mw xs[i] : Nat) := by rw [hw1, hK]; omega
    rw [← hK]
    have hmw : Or.mw xs[i] = wSum Tx.mw xs[i] := rfl
    have h0i : (0 : Int) ≤ i := by omega
    have h1i : (i : Int) < xs.length := by omega
    have hn : ((mkAll Or.m Or.mw xs k).map Or.row).getD i [] = [.list false 1 ((mkAll Tx.m Tx.mw xs[i] (K)).map Tx.row)] := by rw [mkAll_getD _ _ _ _ _ h, ← hK]; rfl
    have wi : IntKind.i64.wrap ((i : Int) + 1) = ((i + 1 : Nat) : Int) := by rw [wrap64 (by omega) (by omega)]; omega
    have z0 : wSum Tx.mw xs[i] ≤ Or.mw xs[i] := by rw [hmw]; omega
    simp -implicitDefEqProofs only [go_sem, mkAll_len, h0i, h1i, h, hn, wi, eq_self, decide_true, beq_self_eq_true, Bool.not_true]
    refine .one (s_heldStringS xs[i] (K) (by omega) (by omega) (by have := wSum_len (w := Tx.mw) (fun _ => by unfold Tx.mw; omega) xs[i]; omega)) p_heldStringS (by simp -implicitDefEqProofs only [go_sem]) trivial ?_
    simp -implicitDefEqProofs only [go_sem, mkAll_len, h0i, h1i, h, hn, wi, eq_self, decide_true, beq_self_eq_true, Bool.not_true]
    refine BrA_i (fun h => ?_) (fun h => ?_)
    · exfalso; simp at h; omega
    simp -implicitDefEqProofs only [go_sem, mkAll_len, h0i, h1i, h, hn, wi, eq_self, decide_true, beq_self_eq_true, Bool.not_true]
    refine .to [] (i + 1) rfl ?_ rfl (by omega) (by omega)
    · simp -implicitDefEqProofs only [go_sem, LeTs_undef, LeTs_same, LeTs_nil, hK1, hmw]
      try simp [LeTs]
      try omega
  · have h : i = xs.length := by simp at h; omega
    subst h
    simp -implicitDefEqProofs only [go_sem, List.take_length, mkAll_len]
def Sc.mw (x : Sc) : Nat := 2
def Sc.m (x : Sc) (k : Int) : Sc := ⟨mt (k), k + 1⟩
theorem p_markScoreS : Plain Try.prog 18 := ⟨_, Try.func18, rfl, by decide⟩
theorem s_markScoreS (xs : List Sc) (k : Int) (hk : 0 ≤ k) (hb : k + (wSum Sc.mw xs : Nat) < 10000000000000000) (hx : xs.length < 10000000000000000) : SpecO Try.prog 18 [.refw 9000, I k] [(9000, .rows 2 (xs.map Sc.row))]
    (fun r h => r = I (k + (wSum Sc.mw xs : Nat)) ∧ h = [(9000, .rows 2 ((mkAll Sc.m Sc.mw xs k).map Sc.row))]) := by
  refine SpecO.of tysOk mixed Try.func18 rfl (by decide) ?_
  have hl : ((mkAll Sc.m Sc.mw xs k).map Sc.row).length = (xs.map Sc.row).length := by rw [List.length_map, List.length_map, mkAll_len]
  simp -implicitDefEqProofs only [go_sem, Try.f18]
  refine LoopW.slotsL (α := Nat) (fun i => [(5, I i), (1, I (k + (wSum Sc.mw (xs.take i) : Nat)))]) (fun i => [(9000, .rows 2 (mixR ((mkAll Sc.m Sc.mw xs k).map Sc.row) (xs.map Sc.row) i))]) (fun i => xs.length - i) (fun i => i ≤ xs.length) 0 ?_ ?_ (by omega) ?_
  · simp -implicitDefEqProofs only [go_sem, LeTs_undef, LeTs_same, LeTs_nil]
    simp [LeTs, wSum]
  · simp -implicitDefEqProofs only [go_sem, mix_0]
  intro i hi
  have hw := wSum_le Sc.mw xs i
  have hml : (mixR ((mkAll Sc.m Sc.mw xs k).map Sc.row) (xs.map Sc.row) i).length = xs.length := by rw [mix_len hl (by simpa using hi), List.length_map]
  simp -implicitDefEqProofs only [go_sem, hml]
  refine BrA_i (fun h => ?_) (fun h => ?_) <;> simp -implicitDefEqProofs only [go_sem]
  · have h : i < xs.length := by simp at h; omega
    have hw1 := wSum_take Sc.mw xs h
    have hw2 := wSum_le Sc.mw xs (i + 1)
    obtain ⟨K, hK⟩ : ∃ K : Int, K = k + (wSum Sc.mw (xs.take i) : Nat) := ⟨_, rfl⟩
    have hK1 : k + (wSum Sc.mw (xs.take (i + 1)) : Nat) = K + (Sc.mw xs[i] : Nat) := by rw [hw1, hK]; omega
    rw [← hK]
    have hmw : Sc.mw xs[i] = 2 := rfl
    have h0i : (0 : Int) ≤ i := by omega
    have h1i : (i : Int) < xs.length := by omega
    have hg : (mixR ((mkAll Sc.m Sc.mw xs k).map Sc.row) (xs.map Sc.row) i).getD i [] = [.str xs[i].text, .int .i64 xs[i].num] := by rw [mix_getD hl (by simpa using h), row_getD _ _ h]; rfl
    have hn : ((mkAll Sc.m Sc.mw xs k).map Sc.row).getD i [] = [.str (mt (K)), .int .i64 (K + 1)] := by rw [mkAll_getD _ _ _ _ _ h, ← hK]; rfl
    have hst := mix_set hl (i := i) (by simpa using h)
    rw [hn] at hst
    have hsg : ∀ r, ((mixR ((mkAll Sc.m Sc.mw xs k).map Sc.row) (xs.map Sc.row) i).set i r).getD i [] = r := fun r => set_getD (by omega) r
    have wi : IntKind.i64.wrap ((i : Int) + 1) = ((i + 1 : Nat) : Int) := by rw [wrap64 (by omega) (by omega)]; omega
    have w0 : IntKind.i64.wrap (K + 1) = K + 1 := by rw [wrap64 (by omega) (by omega)]
    have w1 : IntKind.i64.wrap (K + 1 + 1) = K + 2 := by rw [wrap64 (by omega) (by omega)]; omega
    simp -implicitDefEqProofs only [go_sem, hml, h0i, h1i, h, hg, hsg, wi, w0, w1]
    refine .one (s_markText _ (by omega)) p_markText rfl trivial ?_
    simp -implicitDefEqProofs only [go_sem, hml, h0i, h1i, h, hg, hsg, wi, w0, w1]
    refine .to [] (i + 1) rfl ?_ ?_ (by omega) (by omega)
    · simp -implicitDefEqProofs only [go_sem, LeTs_undef, LeTs_same, LeTs_nil, hK1, hmw]
      try simp [LeTs]
      try omega
    · try simp -implicitDefEqProofs only [go_sem, hst]
  · have h : i = xs.length := by simp at h; omega
    subst h
    have hm : mixR ((mkAll Sc.m Sc.mw xs k).map Sc.row) (xs.map Sc.row) xs.length = ((mkAll Sc.m Sc.mw xs k).map Sc.row) := by
      have := mix_all hl; rwa [List.length_map] at this
    simp -implicitDefEqProofs only [go_sem, hm, List.take_length, mkAll_len]
theorem p_heldScoreS : Plain Try.prog 19 := ⟨_, Try.func19, rfl, by decide⟩
theorem s_heldScoreS (xs : List Sc) (k : Int) (hk : 0 ≤ k) (hb : k + (wSum Sc.mw xs : Nat) < 10000000000000000) (hx : xs.length < 10000000000000000) : Spec Try.prog 19 [.t (.list false 2 ((mkAll Sc.m Sc.mw xs k).map Sc.row)), I k]
    (fun r => r = I (k + (wSum Sc.mw xs : Nat))) := by
  refine Spec.of tysOk mixed Try.func19 rfl (by decide) ?_
  simp -implicitDefEqProofs only [go_sem, Try.f19, mkAll_len]
  refine LoopW.slotsL (α := Nat) (fun i => [(5, I i), (1, I (k + (wSum Sc.mw (xs.take i) : Nat)))]) (fun i => []) (fun i => xs.length - i) (fun i => i ≤ xs.length) 0 ?_ rfl (by omega) ?_
  · simp -implicitDefEqProofs only [go_sem, LeTs_undef, LeTs_same, LeTs_nil]
    simp [LeTs, wSum]
  intro i hi
  have hw := wSum_le Sc.mw xs i
  simp -implicitDefEqProofs only [go_sem, mkAll_len]
  refine BrA_i (fun h => ?_) (fun h => ?_) <;> simp -implicitDefEqProofs only [go_sem]
  · have h : i < xs.length := by simp at h; omega
    have hw1 := wSum_take Sc.mw xs h
    have hw2 := wSum_le Sc.mw xs (i + 1)
    obtain ⟨K, hK⟩ : ∃ K : Int, K = k + (wSum Sc.mw (xs.take i) : Nat) := ⟨_, rfl⟩
    have hK1 : k + (wSum Sc.mw (xs.take (i + 1)) : Nat) = K + (Sc.mw xs[i] : Nat) := by rw [hw1, hK]; omega
    rw [← hK]
    have hmw : Sc.mw xs[i] = 2 := rfl
    have h0i : (0 : Int) ≤ i := by omega
    have h1i : (i : Int) < xs.length := by omega
    have hn : ((mkAll Sc.m Sc.mw xs k).map Sc.row).getD i [] = [.str (mt (K)), .int .i64 (K + 1)] := by rw [mkAll_getD _ _ _ _ _ h, ← hK]; rfl
    have wi : IntKind.i64.wrap ((i : Int) + 1) = ((i + 1 : Nat) : Int) := by rw [wrap64 (by omega) (by omega)]; omega
    have w0 : IntKind.i64.wrap (K + 1) = K + 1 := by rw [wrap64 (by omega) (by omega)]
    have w1 : IntKind.i64.wrap (K + 1 + 1) = K + 2 := by rw [wrap64 (by omega) (by omega)]; omega
    simp -implicitDefEqProofs only [go_sem, mkAll_len, h0i, h1i, h, hn, wi, eq_self, decide_true, beq_self_eq_true, Bool.not_true, w0, w1]
    (first | refine RegD_of sch_19_4 tysOk (by decide +kernel) ?_)
    simp -implicitDefEqProofs only [go_sem, mkAll_len, h0i, h1i, h, hn, wi, eq_self, decide_true, beq_self_eq_true, Bool.not_true, w0, w1]
    refine .one (s_markText _ (by omega)) p_markText rfl trivial ?_
    simp -implicitDefEqProofs only [go_sem, mkAll_len, h0i, h1i, h, hn, wi, eq_self, decide_true, beq_self_eq_true, Bool.not_true, w0, w1]
    refine .to [] (i + 1) rfl ?_ rfl (by omega) (by omega)
    · simp -implicitDefEqProofs only [go_sem, LeTs_undef, LeTs_same, LeTs_nil, hK1, hmw]
      try simp [LeTs]
      try omega
  · have h : i = xs.length := by simp at h; omega
    subst h
    simp -implicitDefEqProofs only [go_sem, List.take_length, mkAll_len]
def En.mw (x : En) : Nat := 4 + wSum Tx.mw x.list + wSum Sc.mw x.scores + wSum Pr.mw x.fields
def En.m (x : En) (k : Int) : En := ⟨mt (k), k + 1, k + 2, mt (k + 3), mkAll Tx.m Tx.mw x.list (k + 4), mkAll Sc.m Sc.mw x.scores (k + 4 + (wSum Tx.mw x.list : Nat)), mkAll Pr.m Pr.mw x.fields (k + 4 + (wSum Tx.mw x.list : Nat) + (wSum Sc.mw x.scores : Nat))⟩
theorem p_markEntryS : Plain Try.prog 57 := ⟨_, Try.func57, rfl, by decide⟩
theorem s_markEntryS (xs : List En) (k : Int) (hk : 0 ≤ k) (hb : k + (wSum En.mw xs : Nat) < 10000000000000000) (hx : xs.length < 10000000000000000) : SpecO Try.prog 57 [.refw 9000, I k] [(9000, .rows 7 (xs.map En.rowO))]
    (fun r h => r = I (k + (wSum En.mw xs : Nat)) ∧ h = [(9000, .rows 7 ((mkAll En.m En.mw xs k).map En.rowO))]) := by
  refine SpecO.of tysOk mixed Try.func57 rfl (by decide) ?_
  have hl : ((mkAll En.m En.mw xs k).map En.rowO).length = (xs.map En.rowO).length := by rw [List.length_map, List.length_map, mkAll_len]
  simp -implicitDefEqProofs only [go_sem, Try.f57]
  refine LoopW.slotsL (α := Nat) (fun i => [(5, I i), (1, I (k + (wSum En.mw (xs.take i) : Nat)))]) (fun i => [(9000, .rows 7 (mixR ((mkAll En.m En.mw xs k).map En.rowO) (xs.map En.rowO) i))]) (fun i => xs.length - i) (fun i => i ≤ xs.length) 0 ?_ ?_ (by omega) ?_
  · simp -implicitDefEqProofs only [go_sem, LeTs_undef, LeTs_same, LeTs_nil]
    simp [LeTs, wSum]
  · simp -implicitDefEqProofs only [go_sem, mix_0]
  intro i hi
  have hw := wSum_le En.mw xs i
  have hml : (mixR ((mkAll En.m En.mw xs k).map En.rowO) (xs.map En.rowO) i).length = xs.length := by rw [mix_len hl (by simpa using hi), List.length_map]
  simp -implicitDefEqProofs only [go_sem, hml]
  refine BrA_i (fun h => ?_) (fun h => ?_) <;> simp -implicitDefEqProofs only [go_sem]
  · have h : i < xs.length := by simp at h; omega
    have hw1 := wSum_take En.mw xs h
    have hw2 := wSum_le En.mw xs (i + 1)
    obtain ⟨K, hK⟩ : ∃ K : Int, K = k + (wSum En.mw (xs.take i) : Nat) := ⟨_, rfl⟩
    have hK1 : k + (wSum En.mw (xs.take (i + 1)) : Nat) = K + (En.mw xs[i] : Nat) := by rw [hw1, hK]; omega
    rw [← hK]
    have hmw : En.mw xs[i] = 4 + wSum Tx.mw xs[i].list + wSum Sc.mw xs[i].scores + wSum Pr.mw xs[i].fields := rfl
    have h0i : (0 : Int) ≤ i := by omega
    have h1i : (i : Int) < xs.length := by omega
    have hg : (mixR ((mkAll En.m En.mw xs k).map En.rowO) (xs.map En.rowO) i).getD i [] = [.str xs[i].key, .int .i64 xs[i].till, .int .i64 xs[i].kind, .str xs[i].text, .list true 1 (xs[i].list.map Tx.row), .list true 2 (xs[i].scores.map Sc.row), .list true 2 (xs[i].fields.map Pr.row)] := by rw [mix_getD hl (by simpa using h), row_getD _ _ h]; rfl
    have hn : ((mkAll En.m En.mw xs k).map En.rowO).getD i [] = [.str (mt (K)), .int .i64 (K + 1), .int .i64 (K + 2), .str (mt (K + 3)), .list true 1 ((mkAll Tx.m Tx.mw xs[i].list (K + 4)).map Tx.row), .list true 2 ((mkAll Sc.m Sc.mw xs[i].scores (K + 4 + (wSum Tx.mw xs[i].list : Nat))).map Sc.row), .list true 2 ((mkAll Pr.m Pr.mw xs[i].fields (K + 4 + (wSum Tx.mw xs[i].list : Nat) + (wSum Sc.mw xs[i].scores : Nat))).map Pr.row)] := by rw [mkAll_getD _ _ _ _ _ h, ← hK]; rfl
    have hst := mix_set hl (i := i) (by simpa using h)
    rw [hn] at hst
    have hsg : ∀ r, ((mixR ((mkAll En.m En.mw xs k).map En.rowO) (xs.map En.rowO) i).set i r).getD i [] = r := fun r => set_getD (by omega) r
    have wi : IntKind.i64.wrap ((i : Int) + 1) = ((i + 1 : Nat) : Int) := by rw [wrap64 (by omega) (by omega)]; omega
    have w0 : IntKind.i64.wrap (K + 1) = K + 1 := by rw [wrap64 (by omega) (by omega)]
    have w1 : IntKind.i64.wrap (K + 1 + 1) = K + 2 := by rw [wrap64 (by omega) (by omega)]; omega
    have w2 : IntKind.i64.wrap (K + 2 + 1) = K + 3 := by rw [wrap64 (by omega) (by omega)]; omega
    have w3 : IntKind.i64.wrap (K + 3 + 1) = K + 4 := by rw [wrap64 (by omega) (by omega)]; omega
    have z4 : wSum Tx.mw xs[i].list ≤ En.mw xs[i] := by rw [hmw]; omega
    have z5 : wSum Sc.mw xs[i].scores ≤ En.mw xs[i] := by rw [hmw]; omega
    have z6 : wSum Pr.mw xs[i].fields ≤ En.mw xs[i] := by rw [hmw]; omega
    simp -implicitDefEqProofs only [go_sem, hml, h0i, h1i, h, hg, hsg, wi, w0, w1, w2, w3]
    refine .one (s_markText _ (by omega)) p_markText rfl trivial ?_
    simp -implicitDefEqProofs only [go_sem, hml, h0i, h1i, h, hg, hsg, wi, w0, w1, w2, w3]
    refine .one (s_markText _ (by omega)) p_markText rfl trivial ?_
    simp -implicitDefEqProofs only [go_sem, hml, h0i, h1i, h, hg, hsg, wi, w0, w1, w2, w3]
    refine CallW.n [(9000, 384)] [] [I (K + 4)] 384 rfl (by conv => lhs; simp -implicitDefEqProofs only [go_sem, hml, h0i, h1i, h, hg, hsg, wi, w0, w1, w2, w3]) (s_markStringS xs[i].list (K + 4) (by omega) (by omega) (by have := wSum_len (w := Tx.mw) (fun _ => by unfold Tx.mw; omega) xs[i].list; omega)) p_markStringS o29 rfl rfl (by conv => lhs; simp -implicitDefEqProofs only [go_sem]) (by simp -implicitDefEqProofs only [go_sem]) ?_
    rintro _ _ ⟨rfl, rfl⟩
    simp -implicitDefEqProofs only [go_sem, hml, h0i, h1i, h, hg, hsg, wi, w0, w1, w2, w3]
    refine CallW.n [(9000, 440)] [] [I (K + 4 + (wSum Tx.mw xs[i].list : Nat))] 440 rfl (by conv => lhs; simp -implicitDefEqProofs only [go_sem, hml, h0i, h1i, h, hg, hsg, wi, w0, w1, w2, w3]) (s_markScoreS xs[i].scores (K + 4 + (wSum Tx.mw xs[i].list : Nat)) (by omega) (by omega) (by have := wSum_len (w := Sc.mw) (fun _ => by unfold Sc.mw; omega) xs[i].scores; omega)) p_markScoreS o18 rfl rfl (by conv => lhs; simp -implicitDefEqProofs only [go_sem]) (by simp -implicitDefEqProofs only [go_sem]) ?_
    rintro _ _ ⟨rfl, rfl⟩
    simp -implicitDefEqProofs only [go_sem, hml, h0i, h1i, h, hg, hsg, wi, w0, w1, w2, w3]
    refine CallW.n [(9000, 496)] [] [I (K + 4 + (wSum Tx.mw xs[i].list : Nat) + (wSum Sc.mw xs[i].scores : Nat))] 496 rfl (by conv => lhs; simp -implicitDefEqProofs only [go_sem, hml, h0i, h1i, h, hg, hsg, wi, w0, w1, w2, w3]) (s_markPairS xs[i].fields (K + 4 + (wSum Tx.mw xs[i].list : Nat) + (wSum Sc.mw xs[i].scores : Nat)) (by omega) (by omega) (by have := wSum_len (w := Pr.mw) (fun _ => by unfold Pr.mw; omega) xs[i].fields; omega)) p_markPairS o78 rfl rfl (by conv => lhs; simp -implicitDefEqProofs only [go_sem]) (by simp -implicitDefEqProofs only [go_sem]) ?_
    rintro _ _ ⟨rfl, rfl⟩
    simp -implicitDefEqProofs only [go_sem, hml, h0i, h1i, h, hg, hsg, wi, w0, w1, w2, w3]
    refine .to [] (i + 1) rfl ?_ ?_ (by omega) (by omega)
    · simp -implicitDefEqProofs only [go_sem, LeTs_undef, LeTs_same, LeTs_nil, hK1, hmw]
      try simp [LeTs]
      try omega
    · try simp -implicitDefEqProofs only [go_sem, hst]
  · have h : i = xs.length := by simp at h; omega
    subst h
    have hm : mixR ((mkAll En.m En.mw xs k).map En.rowO) (xs.map En.rowO) xs.length = ((mkAll En.m En.mw xs k).map En.rowO) := by
      have := mix_all hl; rwa [List.length_map] at this
    simp -implicitDefEqProofs only [go_sem, hm, List.take_length, mkAll_len]
theorem p_heldEntryS : Plain Try.prog 88 := ⟨_, Try.func88, rfl, by decide⟩
theorem s_heldEntryS (xs : List En) (k : Int) (hk : 0 ≤ k) (hb : k + (wSum En.mw xs : Nat) < 10000000000000000) (hx : xs.length < 10000000000000000) : Spec Try.prog 88 [.t (.list false 7 ((mkAll En.m En.mw xs k).map En.row)), I k]
    (fun r => r = I (k + (wSum En.mw xs : Nat))) := by
  refine Spec.of tysOk mixed Try.func88 rfl (by decide) ?_
  simp -implicitDefEqProofs only [go_sem, Try.f88, mkAll_len]
  refine LoopW.slotsL (α := Nat) (fun i => [(5, I i), (1, I (k + (wSum En.mw (xs.take i) : Nat)))]) (fun i => []) (fun i => xs.length - i) (fun i => i ≤ xs.length) 0 ?_ rfl (by omega) ?_
  · simp -implicitDefEqProofs only [go_sem, LeTs_undef, LeTs_same, LeTs_nil]
    simp [LeTs, wSum]
  intro i hi
  have hw := wSum_le En.mw xs i
  simp -implicitDefEqProofs only [go_sem, mkAll_len]
  refine BrA_i (fun h => ?_) (fun h => ?_) <;> simp -implicitDefEqProofs only [go_sem]
  · have h : i < xs.length := by simp at h; omega
    have hw1 := wSum_take En.mw xs h
    have hw2 := wSum_le En.mw xs (i + 1)
    obtain ⟨K, hK⟩ : ∃ K : Int, K = k + (wSum En.mw (xs.take i) : Nat) := ⟨_, rfl⟩
    have hK1 : k + (wSum En.mw (xs.take (i + 1)) : Nat) = K + (En.mw xs[i] : Nat) := by rw [hw1, hK]; omega
    rw [← hK]
    have hmw : En.mw xs[i] = 4 + wSum Tx.mw xs[i].list + wSum Sc.mw xs[i].scores + wSum Pr.mw xs[i].fields := rfl
    have h0i : (0 : Int) ≤ i := by omega
    have h1i : (i : Int) < xs.length := by omega
    have hn : ((mkAll En.m En.mw xs k).map En.row).getD i [] = [.str (mt (K)), .int .i64 (K + 1), .int .i64 (K + 2), .str (mt (K + 3)), .list false 1 ((mkAll Tx.m Tx.mw xs[i].list (K + 4)).map Tx.row), .list false 2 ((mkAll Sc.m Sc.mw xs[i].scores (K + 4 + (wSum Tx.mw xs[i].list : Nat))).map Sc.row), .list false 2 ((mkAll Pr.m Pr.mw xs[i].fields (K + 4 + (wSum Tx.mw xs[i].list : Nat) + (wSum Sc.mw xs[i].scores : Nat))).map Pr.row)] := by rw [mkAll_getD _ _ _ _ _ h, ← hK]; rfl
    have wi : IntKind.i64.wrap ((i : Int) + 1) = ((i + 1 : Nat) : Int) := by rw [wrap64 (by omega) (by omega)]; omega
    have w0 : IntKind.i64.wrap (K + 1) = K + 1 := by rw [wrap64 (by omega) (by omega)]
    have w1 : IntKind.i64.wrap (K + 1 + 1) = K + 2 := by rw [wrap64 (by omega) (by omega)]; omega
    have w2 : IntKind.i64.wrap (K + 2 + 1) = K + 3 := by rw [wrap64 (by omega) (by omega)]; omega
    have w3 : IntKind.i64.wrap (K + 3 + 1) = K + 4 := by rw [wrap64 (by omega) (by omega)]; omega
    have z4 : wSum Tx.mw xs[i].list ≤ En.mw xs[i] := by rw [hmw]; omega
    have z5 : wSum Sc.mw xs[i].scores ≤ En.mw xs[i] := by rw [hmw]; omega
    have z6 : wSum Pr.mw xs[i].fields ≤ En.mw xs[i] := by rw [hmw]; omega
    simp -implicitDefEqProofs only [go_sem, mkAll_len, h0i, h1i, h, hn, wi, eq_self, decide_true, beq_self_eq_true, Bool.not_true, w0, w1, w2, w3]
    (first | refine RegD_of sch_88_4 tysOk (by decide +kernel) ?_ | refine RegD_of sch_88_13 tysOk (by decide +kernel) ?_)
    simp -implicitDefEqProofs only [go_sem, mkAll_len, h0i, h1i, h, hn, wi, eq_self, decide_true, beq_self_eq_true, Bool.not_true, w0, w1, w2, w3]
    refine .one (s_markText _ (by omega)) p_markText rfl trivial ?_
    simp -implicitDefEqProofs only [go_sem, mkAll_len, h0i, h1i, h, hn, wi, eq_self, decide_true, beq_self_eq_true, Bool.not_true, w0, w1, w2, w3]
    (first | refine RegD_of sch_88_4 tysOk (by decide +kernel) ?_ | refine RegD_of sch_88_13 tysOk (by decide +kernel) ?_)
    simp -implicitDefEqProofs only [go_sem, mkAll_len, h0i, h1i, h, hn, wi, eq_self, decide_true, beq_self_eq_true, Bool.not_true, w0, w1, w2, w3]
    refine .one (s_markText _ (by omega)) p_markText rfl trivial ?_
    simp -implicitDefEqProofs only [go_sem, mkAll_len, h0i, h1i, h, hn, wi, eq_self, decide_true, beq_self_eq_true, Bool.not_true, w0, w1, w2, w3]
    refine .one (s_heldStringS xs[i].list (K + 4) (by omega) (by omega) (by have := wSum_len (w := Tx.mw) (fun _ => by unfold Tx.mw; omega) xs[i].list; omega)) p_heldStringS (by simp -implicitDefEqProofs only [go_sem]) trivial ?_
    simp -implicitDefEqProofs only [go_sem, mkAll_len, h0i, h1i, h, hn, wi, eq_self, decide_true, beq_self_eq_true, Bool.not_true, w0, w1, w2, w3]
    refine BrA_i (fun h => ?_) (fun h => ?_)
    · exfalso; simp at h; omega
    simp -implicitDefEqProofs only [go_sem, mkAll_len, h0i, h1i, h, hn, wi, eq_self, decide_true, beq_self_eq_true, Bool.not_true, w0, w1, w2, w3]
    refine .one (s_heldScoreS xs[i].scores (K + 4 + (wSum Tx.mw xs[i].list : Nat)) (by omega) (by omega) (by have := wSum_len (w := Sc.mw) (fun _ => by unfold Sc.mw; omega) xs[i].scores; omega)) p_heldScoreS (by simp -implicitDefEqProofs only [go_sem]) trivial ?_
    simp -implicitDefEqProofs only [go_sem, mkAll_len, h0i, h1i, h, hn, wi, eq_self, decide_true, beq_self_eq_true, Bool.not_true, w0, w1, w2, w3]
    refine BrA_i (fun h => ?_) (fun h => ?_)
    · exfalso; simp at h; omega
    simp -implicitDefEqProofs only [go_sem, mkAll_len, h0i, h1i, h, hn, wi, eq_self, decide_true, beq_self_eq_true, Bool.not_true, w0, w1, w2, w3]
    refine .one (s_heldPairS xs[i].fields (K + 4 + (wSum Tx.mw xs[i].list : Nat) + (wSum Sc.mw xs[i].scores : Nat)) (by omega) (by omega) (by have := wSum_len (w := Pr.mw) (fun _ => by unfold Pr.mw; omega) xs[i].fields; omega)) p_heldPairS (by simp -implicitDefEqProofs only [go_sem]) trivial ?_
    simp -implicitDefEqProofs only [go_sem, mkAll_len, h0i, h1i, h, hn, wi, eq_self, decide_true, beq_self_eq_true, Bool.not_true, w0, w1, w2, w3]
    refine BrA_i (fun h => ?_) (fun h => ?_)
    · exfalso; simp at h; omega
    simp -implicitDefEqProofs only [go_sem, mkAll_len, h0i, h1i, h, hn, wi, eq_self, decide_true, beq_self_eq_true, Bool.not_true, w0, w1, w2, w3]
    refine .to [] (i + 1) rfl ?_ rfl (by omega) (by omega)
    · simp -implicitDefEqProofs only [go_sem, LeTs_undef, LeTs_same, LeTs_nil, hK1, hmw]
      try simp [LeTs]
      try omega
  · have h : i = xs.length := by simp at h; omega
    subst h
    simp -implicitDefEqProofs only [go_sem, List.take_length, mkAll_len]
def Cl.mw (x : Cl) : Nat := 3 + wSum Or.mw x.queue + wSum Tx.mw x.watch + wSum Tx.mw x.hears
def Cl.m (x : Cl) (k : Int) : Cl := ⟨decide ((k).tmod 3 = 0), decide ((k + 1).tmod 3 = 0), mkAll Or.m Or.mw x.queue (k + 2), mkAll Tx.m Tx.mw x.watch (k + 2 + (wSum Or.mw x.queue : Nat)), decide ((k + 2 + (wSum Or.mw x.queue : Nat) + (wSum Tx.mw x.watch : Nat)).tmod 3 = 0), mkAll Tx.m Tx.mw x.hears (k + 3 + (wSum Or.mw x.queue : Nat) + (wSum Tx.mw x.watch : Nat))⟩
theorem p_markClientS : Plain Try.prog 67 := ⟨_, Try.func67, rfl, by decide⟩
theorem s_markClientS (xs : List Cl) (k : Int) (hk : 0 ≤ k) (hb : k + (wSum Cl.mw xs : Nat) < 10000000000000000) (hx : xs.length < 10000000000000000) (hq : ∀ x ∈ xs, x.queue.length < 10000000000000000) : SpecO Try.prog 67 [.refw 9000, I k] [(9000, .rows 6 (xs.map Cl.rowO))]
    (fun r h => r = I (k + (wSum Cl.mw xs : Nat)) ∧ h = [(9000, .rows 6 ((mkAll Cl.m Cl.mw xs k).map Cl.rowO))]) := by
  refine SpecO.of tysOk mixed Try.func67 rfl (by decide) ?_
  have hl : ((mkAll Cl.m Cl.mw xs k).map Cl.rowO).length = (xs.map Cl.rowO).length := by rw [List.length_map, List.length_map, mkAll_len]
  simp -implicitDefEqProofs only [go_sem, Try.f67]
  refine LoopW.slotsL (α := Nat) (fun i => [(5, I i), (1, I (k + (wSum Cl.mw (xs.take i) : Nat)))]) (fun i => [(9000, .rows 6 (mixR ((mkAll Cl.m Cl.mw xs k).map Cl.rowO) (xs.map Cl.rowO) i))]) (fun i => xs.length - i) (fun i => i ≤ xs.length) 0 ?_ ?_ (by omega) ?_
  · simp -implicitDefEqProofs only [go_sem, LeTs_undef, LeTs_same, LeTs_nil]
    simp [LeTs, wSum]
  · simp -implicitDefEqProofs only [go_sem, mix_0]
  intro i hi
  have hw := wSum_le Cl.mw xs i
  have hml : (mixR ((mkAll Cl.m Cl.mw xs k).map Cl.rowO) (xs.map Cl.rowO) i).length = xs.length := by rw [mix_len hl (by simpa using hi), List.length_map]
  simp -implicitDefEqProofs only [go_sem, hml]
  refine BrA_i (fun h => ?_) (fun h => ?_) <;> simp -implicitDefEqProofs only [go_sem]
  · have h : i < xs.length := by simp at h; omega
    have hw1 := wSum_take Cl.mw xs h
    have hw2 := wSum_le Cl.mw xs (i + 1)
    obtain ⟨K, hK⟩ : ∃ K : Int, K = k + (wSum Cl.mw (xs.take i) : Nat) := ⟨_, rfl⟩
    have hK1 : k + (wSum Cl.mw (xs.take (i + 1)) : Nat) = K + (Cl.mw xs[i] : Nat) := by rw [hw1, hK]; omega
    rw [← hK]
    have hmw : Cl.mw xs[i] = 3 + wSum Or.mw xs[i].queue + wSum Tx.mw xs[i].watch + wSum Tx.mw xs[i].hears := rfl
    have h0i : (0 : Int) ≤ i := by omega
    have h1i : (i : Int) < xs.length := by omega
    have hg : (mixR ((mkAll Cl.m Cl.mw xs k).map Cl.rowO) (xs.map Cl.rowO) i).getD i [] = [.bool xs[i].multi, .bool xs[i].wrong, .list true 1 (xs[i].queue.map Or.rowO), .list true 1 (xs[i].watch.map Tx.row), .bool xs[i].touch, .list true 1 (xs[i].hears.map Tx.row)] := by rw [mix_getD hl (by simpa using h), row_getD _ _ h]; rfl
    have hn : ((mkAll Cl.m Cl.mw xs k).map Cl.rowO).getD i [] = [.bool (decide ((K).tmod 3 = 0)), .bool (decide ((K + 1).tmod 3 = 0)), .list true 1 ((mkAll Or.m Or.mw xs[i].queue (K + 2)).map Or.rowO), .list true 1 ((mkAll Tx.m Tx.mw xs[i].watch (K + 2 + (wSum Or.mw xs[i].queue : Nat))).map Tx.row), .bool (decide ((K + 2 + (wSum Or.mw xs[i].queue : Nat) + (wSum Tx.mw xs[i].watch : Nat)).tmod 3 = 0)), .list true 1 ((mkAll Tx.m Tx.mw xs[i].hears (K + 3 + (wSum Or.mw xs[i].queue : Nat) + (wSum Tx.mw xs[i].watch : Nat))).map Tx.row)] := by rw [mkAll_getD _ _ _ _ _ h, ← hK]; rfl
    have hst := mix_set hl (i := i) (by simpa using h)
    rw [hn] at hst
    have hsg : ∀ r, ((mixR ((mkAll Cl.m Cl.mw xs k).map Cl.rowO) (xs.map Cl.rowO) i).set i r).getD i [] = r := fun r => set_getD (by omega) r
    have wi : IntKind.i64.wrap ((i : Int) + 1) = ((i + 1 : Nat) : Int) := by rw [wrap64 (by omega) (by omega)]; omega
    have w0 : IntKind.i64.wrap (K + 1) = K + 1 := by rw [wrap64 (by omega) (by omega)]
    have w1 : IntKind.i64.wrap (K + 1 + 1) = K + 2 := by rw [wrap64 (by omega) (by omega)]; omega
    have w4 : IntKind.i64.wrap (K + 2 + (wSum Or.mw xs[i].queue : Nat) + (wSum Tx.mw xs[i].watch : Nat) + 1) = K + 3 + (wSum Or.mw xs[i].queue : Nat) + (wSum Tx.mw xs[i].watch : Nat) := by rw [wrap64 (by omega) (by omega)]; omega
    have z2 : wSum Or.mw xs[i].queue ≤ Cl.mw xs[i] := by rw [hmw]; omega
    have z3 : wSum Tx.mw xs[i].watch ≤ Cl.mw xs[i] := by rw [hmw]; omega
    have z5 : wSum Tx.mw xs[i].hears ≤ Cl.mw xs[i] := by rw [hmw]; omega
    simp -implicitDefEqProofs only [go_sem, hml, h0i, h1i, h, hg, hsg, wi, w0, w1, w4]
    refine CallW.n [(9000, 288)] [] [I (K + 2)] 288 rfl (by conv => lhs; simp -implicitDefEqProofs only [go_sem, hml, h0i, h1i, h, hg, hsg, wi, w0, w1, w4]) (s_markStringSS xs[i].queue (K + 2) (by omega) (by omega) (hq _ (List.getElem_mem h))) p_markStringSS o87 rfl rfl (by conv => lhs; simp -implicitDefEqProofs only [go_sem]) (by simp -implicitDefEqProofs only [go_sem]) ?_
    rintro _ _ ⟨rfl, rfl⟩
    simp -implicitDefEqProofs only [go_sem, hml, h0i, h1i, h, hg, hsg, wi, w0, w1, w4]
    refine CallW.n [(9000, 344)] [] [I (K + 2 + (wSum Or.mw xs[i].queue : Nat))] 344 rfl (by conv => lhs; simp -implicitDefEqProofs only [go_sem, hml, h0i, h1i, h, hg, hsg, wi, w0, w1, w4]) (s_markStringS xs[i].watch (K + 2 + (wSum Or.mw xs[i].queue : Nat)) (by omega) (by omega) (by have := wSum_len (w := Tx.mw) (fun _ => by unfold Tx.mw; omega) xs[i].watch; omega)) p_markStringS o29 rfl rfl (by conv => lhs; simp -implicitDefEqProofs only [go_sem]) (by simp -implicitDefEqProofs only [go_sem]) ?_
    rintro _ _ ⟨rfl, rfl⟩
    simp -implicitDefEqProofs only [go_sem, hml, h0i, h1i, h, hg, hsg, wi, w0, w1, w4]
    refine CallW.n [(9000, 472)] [] [I (K + 3 + (wSum Or.mw xs[i].queue : Nat) + (wSum Tx.mw xs[i].watch : Nat))] 472 rfl (by conv => lhs; simp -implicitDefEqProofs only [go_sem, hml, h0i, h1i, h, hg, hsg, wi, w0, w1, w4]) (s_markStringS xs[i].hears (K + 3 + (wSum Or.mw xs[i].queue : Nat) + (wSum Tx.mw xs[i].watch : Nat)) (by omega) (by omega) (by have := wSum_len (w := Tx.mw) (fun _ => by unfold Tx.mw; omega) xs[i].hears; omega)) p_markStringS o29 rfl rfl (by conv => lhs; simp -implicitDefEqProofs only [go_sem]) (by simp -implicitDefEqProofs only [go_sem]) ?_
    rintro _ _ ⟨rfl, rfl⟩
    simp -implicitDefEqProofs only [go_sem, hml, h0i, h1i, h, hg, hsg, wi, w0, w1, w4]
    refine .to [] (i + 1) rfl ?_ ?_ (by omega) (by omega)
    · simp -implicitDefEqProofs only [go_sem, LeTs_undef, LeTs_same, LeTs_nil, hK1, hmw]
      try simp [LeTs]
      try omega
    · try simp -implicitDefEqProofs only [go_sem, hst]
  · have h : i = xs.length := by simp at h; omega
    subst h
    have hm : mixR ((mkAll Cl.m Cl.mw xs k).map Cl.rowO) (xs.map Cl.rowO) xs.length = ((mkAll Cl.m Cl.mw xs k).map Cl.rowO) := by
      have := mix_all hl; rwa [List.length_map] at this
    simp -implicitDefEqProofs only [go_sem, hm, List.take_length, mkAll_len]
theorem p_heldClientS : Plain Try.prog 69 := ⟨_, Try.func69, rfl, by decide⟩
theorem s_heldClientS (xs : List Cl) (k : Int) (hk : 0 ≤ k) (hb : k + (wSum Cl.mw xs : Nat) < 10000000000000000) (hx : xs.length < 10000000000000000) (hq : ∀ x ∈ xs, x.queue.length < 10000000000000000) : Spec Try.prog 69 [.t (.list false 6 ((mkAll Cl.m Cl.mw xs k).map Cl.row)), I k]
    (fun r => r = I (k + (wSum Cl.mw xs : Nat))) := by
  refine Spec.of tysOk mixed Try.func69 rfl (by decide) ?_
  simp -implicitDefEqProofs only [go_sem, Try.f69, mkAll_len]
  refine LoopW.slotsL (α := Nat) (fun i => [(5, I i), (1, I (k + (wSum Cl.mw (xs.take i) : Nat)))]) (fun i => []) (fun i => xs.length - i) (fun i => i ≤ xs.length) 0 ?_ rfl (by omega) ?_
  · simp -implicitDefEqProofs only [go_sem, LeTs_undef, LeTs_same, LeTs_nil]
    simp [LeTs, wSum]
  intro i hi
  have hw := wSum_le Cl.mw xs i
  simp -implicitDefEqProofs only [go_sem, mkAll_len]
  refine BrA_i (fun h => ?_) (fun h => ?_) <;> simp -implicitDefEqProofs only [go_sem]
  · have h : i < xs.length := by simp at h; omega
    have hw1 := wSum_take Cl.mw xs h
    have hw2 := wSum_le Cl.mw xs (i + 1)
    obtain ⟨K, hK⟩ : ∃ K : Int, K = k + (wSum Cl.mw (xs.take i) : Nat) := ⟨_, rfl⟩
    have hK1 : k + (wSum Cl.mw (xs.take (i + 1)) : Nat) = K + (Cl.mw xs[i] : Nat) := by rw [hw1, hK]; omega
    rw [← hK]
    have hmw : Cl.mw xs[i] = 3 + wSum Or.mw xs[i].queue + wSum Tx.mw xs[i].watch + wSum Tx.mw xs[i].hears := rfl
    have h0i : (0 : Int) ≤ i := by omega
    have h1i : (i : Int) < xs.length := by omega
    have hn : ((mkAll Cl.m Cl.mw xs k).map Cl.row).getD i [] = [.bool (decide ((K).tmod 3 = 0)), .bool (decide ((K + 1).tmod 3 = 0)), .list false 1 ((mkAll Or.m Or.mw xs[i].queue (K + 2)).map Or.row), .list false 1 ((mkAll Tx.m Tx.mw xs[i].watch (K + 2 + (wSum Or.mw xs[i].queue : Nat))).map Tx.row), .bool (decide ((K + 2 + (wSum Or.mw xs[i].queue : Nat) + (wSum Tx.mw xs[i].watch : Nat)).tmod 3 = 0)), .list false 1 ((mkAll Tx.m Tx.mw xs[i].hears (K + 3 + (wSum Or.mw xs[i].queue : Nat) + (wSum Tx.mw xs[i].watch : Nat))).map Tx.row)] := by rw [mkAll_getD _ _ _ _ _ h, ← hK]; rfl
    have wi : IntKind.i64.wrap ((i : Int) + 1) = ((i + 1 : Nat) : Int) := by rw [wrap64 (by omega) (by omega)]; omega
    have w0 : IntKind.i64.wrap (K + 1) = K + 1 := by rw [wrap64 (by omega) (by omega)]
    have w1 : IntKind.i64.wrap (K + 1 + 1) = K + 2 := by rw [wrap64 (by omega) (by omega)]; omega
    have w4 : IntKind.i64.wrap (K + 2 + (wSum Or.mw xs[i].queue : Nat) + (wSum Tx.mw xs[i].watch : Nat) + 1) = K + 3 + (wSum Or.mw xs[i].queue : Nat) + (wSum Tx.mw xs[i].watch : Nat) := by rw [wrap64 (by omega) (by omega)]; omega
    have z2 : wSum Or.mw xs[i].queue ≤ Cl.mw xs[i] := by rw [hmw]; omega
    have z3 : wSum Tx.mw xs[i].watch ≤ Cl.mw xs[i] := by rw [hmw]; omega
    have z5 : wSum Tx.mw xs[i].hears ≤ Cl.mw xs[i] := by rw [hmw]; omega
    simp -implicitDefEqProofs only [go_sem, mkAll_len, h0i, h1i, h, hn, wi, eq_self, decide_true, beq_self_eq_true, Bool.not_true, w0, w1, w4]
    refine .one (s_heldStringSS xs[i].queue (K + 2) (by omega) (by omega) (hq _ (List.getElem_mem h))) p_heldStringSS (by simp -implicitDefEqProofs only [go_sem]) trivial ?_
    simp -implicitDefEqProofs only [go_sem, mkAll_len, h0i, h1i, h, hn, wi, eq_self, decide_true, beq_self_eq_true, Bool.not_true, w0, w1, w4]
    refine BrA_i (fun h => ?_) (fun h => ?_)
    · exfalso; simp at h; omega
    simp -implicitDefEqProofs only [go_sem, mkAll_len, h0i, h1i, h, hn, wi, eq_self, decide_true, beq_self_eq_true, Bool.not_true, w0, w1, w4]
    refine .one (s_heldStringS xs[i].watch (K + 2 + (wSum Or.mw xs[i].queue : Nat)) (by omega) (by omega) (by have := wSum_len (w := Tx.mw) (fun _ => by unfold Tx.mw; omega) xs[i].watch; omega)) p_heldStringS (by simp -implicitDefEqProofs only [go_sem]) trivial ?_
    simp -implicitDefEqProofs only [go_sem, mkAll_len, h0i, h1i, h, hn, wi, eq_self, decide_true, beq_self_eq_true, Bool.not_true, w0, w1, w4]
    refine BrA_i (fun h => ?_) (fun h => ?_)
    · exfalso; simp at h; omega
    simp -implicitDefEqProofs only [go_sem, mkAll_len, h0i, h1i, h, hn, wi, eq_self, decide_true, beq_self_eq_true, Bool.not_true, w0, w1, w4]
    refine .one (s_heldStringS xs[i].hears (K + 3 + (wSum Or.mw xs[i].queue : Nat) + (wSum Tx.mw xs[i].watch : Nat)) (by omega) (by omega) (by have := wSum_len (w := Tx.mw) (fun _ => by unfold Tx.mw; omega) xs[i].hears; omega)) p_heldStringS (by simp -implicitDefEqProofs only [go_sem]) trivial ?_
    simp -implicitDefEqProofs only [go_sem, mkAll_len, h0i, h1i, h, hn, wi, eq_self, decide_true, beq_self_eq_true, Bool.not_true, w0, w1, w4]
    refine BrA_i (fun h => ?_) (fun h => ?_)
    · exfalso; simp at h; omega
    simp -implicitDefEqProofs only [go_sem, mkAll_len, h0i, h1i, h, hn, wi, eq_self, decide_true, beq_self_eq_true, Bool.not_true, w0, w1, w4]
    refine .to [] (i + 1) rfl ?_ rfl (by omega) (by omega)
    · simp -implicitDefEqProofs only [go_sem, LeTs_undef, LeTs_same, LeTs_nil, hK1, hmw]
      try simp [LeTs]
      try omega
  · have h : i = xs.length := by simp at h; omega
    subst h
    simp -implicitDefEqProofs only [go_sem, List.take_length, mkAll_len]
def Bs.mw (x : Bs) : Nat := wSum En.mw x.ents
def Bs.m (x : Bs) (k : Int) : Bs := ⟨x.now, mkAll En.m En.mw x.ents (k)⟩
theorem Bs.m_len (x : Bs) (k : Int) : (Bs.m x k).ents.length = x.ents.length := by simp only [Bs.m, mkAll_len, and_self]
theorem p_markBase : Plain Try.prog 28 := ⟨_, Try.func28, rfl, by decide⟩
theorem s_markBase (x : Bs) (k : Int) (hk : 0 ≤ k) (hb : k + (Bs.mw x : Nat) < 10000000000000000) : SpecO Try.prog 28 [.agg [I x.now, .refw 9000], I k] [(9000, .rows 7 (x.ents.map En.rowO))]
    (fun r h => r = I (k + (Bs.mw x : Nat)) ∧ h = [(9000, .rows 7 ((Bs.m x k).ents.map En.rowO))]) := by
  have hk1 : Bs.mw x = wSum En.mw x.ents := rfl
  have l0 := wSum_len (w := En.mw) (fun _ => by unfold En.mw; omega) x.ents
  have hl := Bs.m_len x k
  refine SpecO.of tysOk mixed Try.func28 rfl (by decide) ?_
  simp -implicitDefEqProofs only [go_sem, Try.f28]
  refine CallW.o [(9000, 9000)] (s_markEntryS x.ents (k) (by omega) (by omega) (by omega)) p_markEntryS o57 rfl (by conv => lhs; simp -implicitDefEqProofs only [go_sem]) (by simp -implicitDefEqProofs only [go_sem]) ?_
  rintro _ _ ⟨rfl, rfl⟩
  simp -implicitDefEqProofs only [go_sem]
  try simp -implicitDefEqProofs only [go_sem, mkAll_len]
  first
    | rfl
    | exact ⟨trivial, trivial⟩
    | exact ⟨congrArg (fun z => AV.t (T.int .i64 z)) (by omega), trivial⟩
    | exact ⟨congrArg (fun z => AV.t (T.int .i64 z)) (by omega), rfl⟩
    | ((repeat' (with_reducible refine And.intro ?_ ?_)) <;> first | trivial | rfl | exact congrArg (fun z => AV.t (T.int .i64 z)) (by omega) | exact Eq.symm (by simp only [Sv.m, Bs.m, mkAll_len]))
theorem p_heldBase : Plain Try.prog 68 := ⟨_, Try.func68, rfl, by decide⟩
theorem s_heldBase (x : Bs) (k : Int) (hk : 0 ≤ k) (hb : k + (Bs.mw x : Nat) < 10000000000000000) : Spec Try.prog 68 [(Bs.m x k).av, I k] (fun r => r = I (k + (Bs.mw x : Nat))) := by
  have hk1 : Bs.mw x = wSum En.mw x.ents := rfl
  have l0 := wSum_len (w := En.mw) (fun _ => by unfold En.mw; omega) x.ents
  refine Spec.of tysOk mixed Try.func68 rfl (by decide) ?_
  simp -implicitDefEqProofs only [go_sem, Try.f68]
  refine CallW.one (s_heldEntryS x.ents (k) (by omega) (by omega) (by omega)) p_heldEntryS (by first | (simp -implicitDefEqProofs only [go_sem]; done) | ((conv => lhs; simp -implicitDefEqProofs only [go_sem]); done) | (simp -implicitDefEqProofs only [go_sem]; rfl) | rfl) trivial ?_
  simp -implicitDefEqProofs only [go_sem]
  refine BrA_i (fun h0 => ?_) (fun h0 => ?_)
  · exfalso; simp at h0; omega
  simp -implicitDefEqProofs only [go_sem]
  first
    | (done)
    | (rw [hk1] <;> (try rfl) <;> (congr 2; omega))
def Sv.mw (x : Sv) : Nat := Bs.mw x.base + wSum Cl.mw x.cls
def Sv.m (x : Sv) (k : Int) : Sv := ⟨Bs.m x.base (k), x.file, mkAll Cl.m Cl.mw x.cls (k + (Bs.mw x.base : Nat))⟩
theorem Sv.m_len (x : Sv) (k : Int) : (Sv.m x k).base.ents.length = x.base.ents.length ∧ (Sv.m x k).cls.length = x.cls.length := by simp only [Sv.m, Bs.m, mkAll_len, and_self]
theorem p_markServer : Plain Try.prog 39 := ⟨_, Try.func39, rfl, by decide⟩
theorem s_markServer (x : Sv) (k : Int) (hk : 0 ≤ k) (hb : k + (Sv.mw x : Nat) < 10000000000000000) (hq : ∀ c ∈ x.cls, c.queue.length < 10000000000000000) : SpecO Try.prog 39 [.agg [I x.base.now, .refw 9000, .t (.str x.file), .refw 9001], I k] [(9000, .rows 7 (x.base.ents.map En.rowO)), (9001, .rows 6 (x.cls.map Cl.rowO))]
    (fun r h => r = I (k + (Sv.mw x : Nat)) ∧ h = [(9000, .rows 7 ((Sv.m x k).base.ents.map En.rowO)), (9001, .rows 6 ((Sv.m x k).cls.map Cl.rowO))]) := by
  have hk1 : Sv.mw x = Bs.mw x.base + wSum Cl.mw x.cls := rfl
  have l0 := wSum_len (w := En.mw) (fun _ => by unfold En.mw; omega) x.base.ents
  have l1 := wSum_len (w := Cl.mw) (fun _ => by unfold Cl.mw; omega) x.cls
  have hl := Sv.m_len x k
  refine SpecO.of tysOk mixed Try.func39 rfl (by decide) ?_
  simp -implicitDefEqProofs only [go_sem, Try.f39]
  refine CallW.o [(9000, 9000)] (s_markBase x.base (k) (by omega) (by omega)) p_markBase o28 rfl (by conv => lhs; simp -implicitDefEqProofs only [go_sem]) (by simp -implicitDefEqProofs only [go_sem]) ?_
  rintro _ _ ⟨rfl, rfl⟩
  simp -implicitDefEqProofs only [go_sem]
  refine CallW.o [(9000, 9001)] (s_markClientS x.cls (k + (Bs.mw x.base : Nat)) (by omega) (by omega) (by omega) hq) p_markClientS o67 rfl (by conv => lhs; simp -implicitDefEqProofs only [go_sem]) (by simp -implicitDefEqProofs only [go_sem]) ?_
  rintro _ _ ⟨rfl, rfl⟩
  simp -implicitDefEqProofs only [go_sem]
  try simp -implicitDefEqProofs only [go_sem, mkAll_len]
  first
    | rfl
    | exact ⟨trivial, trivial⟩
    | exact ⟨congrArg (fun z => AV.t (T.int .i64 z)) (by omega), trivial⟩
    | exact ⟨congrArg (fun z => AV.t (T.int .i64 z)) (by omega), rfl⟩
    | ((repeat' (with_reducible refine And.intro ?_ ?_)) <;> first | trivial | rfl | exact congrArg (fun z => AV.t (T.int .i64 z)) (by omega) | exact Eq.symm (by simp only [Sv.m, Bs.m, mkAll_len]))
theorem p_heldServer : Plain Try.prog 40 := ⟨_, Try.func40, rfl, by decide⟩
theorem s_heldServer (x : Sv) (k : Int) (hk : 0 ≤ k) (hb : k + (Sv.mw x : Nat) < 10000000000000000) (hq : ∀ c ∈ x.cls, c.queue.length < 10000000000000000) : Spec Try.prog 40 [(Sv.m x k).av, I k] (fun r => r = I (k + (Sv.mw x : Nat))) := by
  have hk1 : Sv.mw x = Bs.mw x.base + wSum Cl.mw x.cls := rfl
  have l0 := wSum_len (w := En.mw) (fun _ => by unfold En.mw; omega) x.base.ents
  have l1 := wSum_len (w := Cl.mw) (fun _ => by unfold Cl.mw; omega) x.cls
  refine Spec.of tysOk mixed Try.func40 rfl (by decide) ?_
  simp -implicitDefEqProofs only [go_sem, Try.f40]
  refine CallW.one (s_heldBase x.base (k) (by omega) (by omega)) p_heldBase (by first | (simp -implicitDefEqProofs only [go_sem]; done) | ((conv => lhs; simp -implicitDefEqProofs only [go_sem]); done) | (simp -implicitDefEqProofs only [go_sem]; rfl) | rfl) trivial ?_
  simp -implicitDefEqProofs only [go_sem]
  refine BrA_i (fun h0 => ?_) (fun h0 => ?_)
  · exfalso; simp at h0; omega
  simp -implicitDefEqProofs only [go_sem]
  refine CallW.one (s_heldClientS x.cls (k + (Bs.mw x.base : Nat)) (by omega) (by omega) (by omega) hq) p_heldClientS (by first | (simp -implicitDefEqProofs only [go_sem]; done) | ((conv => lhs; simp -implicitDefEqProofs only [go_sem]); done) | (simp -implicitDefEqProofs only [go_sem]; rfl) | rfl) trivial ?_
  simp -implicitDefEqProofs only [go_sem]
  refine BrA_i (fun h1 => ?_) (fun h1 => ?_)
  · exfalso; simp at h1; omega
  simp -implicitDefEqProofs only [go_sem]
  first
    | (done)
    | (rw [hk1] <;> (try rfl) <;> (congr 2; omega))
def Ld.mw (x : Ld) : Nat := Sv.mw x.srv
def Ld.m (x : Ld) (k : Int) : Ld := ⟨Sv.m x.srv (k), x.hist⟩
theorem Ld.m_len (x : Ld) (k : Int) : (Ld.m x k).srv.base.ents.length = x.srv.base.ents.length ∧ (Ld.m x k).srv.cls.length = x.srv.cls.length := by simp only [Ld.m, Sv.m, Bs.m, mkAll_len, and_self]
theorem p_markLeader : Plain Try.prog 11 := ⟨_, Try.func11, rfl, by decide⟩
theorem s_markLeader (x : Ld) (k : Int) (hk : 0 ≤ k) (hb : k + (Ld.mw x : Nat) < 10000000000000000) (hq : ∀ c ∈ x.srv.cls, c.queue.length < 10000000000000000) : SpecO Try.prog 11 [.agg [I x.srv.base.now, .refw 9000, .t (.str x.srv.file), .refw 9001, I x.hist], I k] [(9000, .rows 7 (x.srv.base.ents.map En.rowO)), (9001, .rows 6 (x.srv.cls.map Cl.rowO))]
    (fun r h => r = I (k + (Ld.mw x : Nat)) ∧ h = [(9000, .rows 7 ((Ld.m x k).srv.base.ents.map En.rowO)), (9001, .rows 6 ((Ld.m x k).srv.cls.map Cl.rowO))]) := by
  have hk1 : Ld.mw x = Sv.mw x.srv := rfl
  have l0 := wSum_len (w := En.mw) (fun _ => by unfold En.mw; omega) x.srv.base.ents
  have l1 := wSum_len (w := Cl.mw) (fun _ => by unfold Cl.mw; omega) x.srv.cls
  have hl := Ld.m_len x k
  refine SpecO.of tysOk mixed Try.func11 rfl (by decide) ?_
  simp -implicitDefEqProofs only [go_sem, Try.f11]
  refine CallW.o [(9000, 9000), (9001, 9001)] (s_markServer x.srv (k) (by omega) (by omega) hq) p_markServer o39 rfl (by conv => lhs; simp -implicitDefEqProofs only [go_sem]) (by simp -implicitDefEqProofs only [go_sem]) ?_
  rintro _ _ ⟨rfl, rfl⟩
  simp -implicitDefEqProofs only [go_sem]
  try simp -implicitDefEqProofs only [go_sem, mkAll_len]
  first
    | rfl
    | exact ⟨trivial, trivial⟩
    | exact ⟨congrArg (fun z => AV.t (T.int .i64 z)) (by omega), trivial⟩
    | exact ⟨congrArg (fun z => AV.t (T.int .i64 z)) (by omega), rfl⟩
    | ((repeat' (with_reducible refine And.intro ?_ ?_)) <;> first | trivial | rfl | exact congrArg (fun z => AV.t (T.int .i64 z)) (by omega) | exact Eq.symm (by simp only [Sv.m, Bs.m, mkAll_len]))
theorem p_heldLeader : Plain Try.prog 12 := ⟨_, Try.func12, rfl, by decide⟩
theorem s_heldLeader (x : Ld) (k : Int) (hk : 0 ≤ k) (hb : k + (Ld.mw x : Nat) < 10000000000000000) (hq : ∀ c ∈ x.srv.cls, c.queue.length < 10000000000000000) : Spec Try.prog 12 [(Ld.m x k).av, I k] (fun r => r = I (k + (Ld.mw x : Nat))) := by
  have hk1 : Ld.mw x = Sv.mw x.srv := rfl
  have l0 := wSum_len (w := En.mw) (fun _ => by unfold En.mw; omega) x.srv.base.ents
  have l1 := wSum_len (w := Cl.mw) (fun _ => by unfold Cl.mw; omega) x.srv.cls
  refine Spec.of tysOk mixed Try.func12 rfl (by decide) ?_
  simp -implicitDefEqProofs only [go_sem, Try.f12]
  refine CallW.one (s_heldServer x.srv (k) (by omega) (by omega) hq) p_heldServer (by first | (simp -implicitDefEqProofs only [go_sem]; done) | ((conv => lhs; simp -implicitDefEqProofs only [go_sem]); done) | (simp -implicitDefEqProofs only [go_sem]; rfl) | rfl) trivial ?_
  simp -implicitDefEqProofs only [go_sem]
  refine BrA_i (fun h0 => ?_) (fun h0 => ?_)
  · exfalso; simp at h0; omega
  simp -implicitDefEqProofs only [go_sem]
  first
    | (done)
    | (rw [hk1] <;> (try rfl) <;> (congr 2; omega))
def Fo.mw (x : Fo) : Nat := Bs.mw x.base
def Fo.m (x : Fo) (k : Int) : Fo := ⟨x.hist, x.text, Bs.m x.base (k)⟩
theorem Fo.m_len (x : Fo) (k : Int) : (Fo.m x k).base.ents.length = x.base.ents.length := by simp only [Fo.m, Bs.m, mkAll_len, and_self]
end Go.Proofs.Ythbhnjcnbnlidaa.Am
namespace Go.Proofs.Ythbhnjcnbnlidaa.Am
open Go
set_option linter.unusedVariables false
def mkC : AV → AV
  | .t x => .t (x.mk false)
  | x => x
def mkCs : List AV → List AV
  | [] => []
  | x :: l => mkC x :: mkCs l
def mkV : AV → AV
  | .agg cs => .agg (mkCs cs)
  | x => mkC x
def mkVs : List AV → List AV
  | [] => []
  | x :: l => mkV x :: mkVs l
def mkR : AV → AV
  | .tup l => .tup (mkVs l)
  | x => mkV x
theorem ResC.mk {c : Cx} {col : Col} {i j : Nat} {x : AV} {v : Value} (h : ResC c col i j x v) : ResC c col i j (mkC x) v := by
  cases x <;> first | exact Rd.mk false h | exact h
theorem ResCs.mk {c : Cx} {col : Col} {i : Nat} : ∀ {xs : List AV} {vs : List Value} {j : Nat}, ResCs c col i j xs vs → ResCs c col i j (mkCs xs) vs
  | [], [], _, _ => trivial
  | x :: xs, v :: vs, j, h => ⟨ResC.mk h.1, ResCs.mk h.2⟩
  | [], _ :: _, _, h => h.elim
  | _ :: _, [], _, h => h.elim
theorem ResV.mk {c : Cx} {col : Col} {i : Nat} {x : AV} {v : Value} (h : ResV c col i x v) : ResV c col i (mkV x) v := by
  cases x with
  | agg cs => obtain ⟨vs, e, h⟩ := h; exact ⟨vs, e, ResCs.mk h⟩
  | t y => exact ResC.mk (c := c) (col := col) (i := i) (j := 0) (x := .t y) h
  | _ => exact h
theorem ResVs.mk {c : Cx} {col : Col} : ∀ {xs : List AV} {vs : List Value} {i : Nat}, ResVs c col i xs vs → ResVs c col i (mkVs xs) vs
  | [], [], _, _ => trivial
  | x :: xs, v :: vs, i, h => ⟨ResV.mk h.1, ResVs.mk h.2⟩
  | [], _ :: _, _, h => h.elim
  | _ :: _, [], _, h => h.elim
theorem ResR.mk {c : Cx} {col : Col} {r : AV} {v : Value} (h : ResR c col r v) : ResR c col (mkR r) v := by
  cases r with
  | tup xs => obtain ⟨vs, e, h⟩ := h; exact ⟨vs, e, ResVs.mk h⟩
  | agg cs => exact ResV.mk (c := c) (col := col) (i := 0) (x := .agg cs) h
  | t y => exact ResV.mk (c := c) (col := col) (i := 0) (x := .t y) h
  | _ => exact h
theorem Spec.mkR {P : Program} {f : FuncId} {args : List AV} {Q : AV → Prop} (h : Spec P f args Q) : Spec P f args (fun r => ∃ r0, Q r0 ∧ r = Am.mkR r0) := fun w D vs hD hv => (h w D vs hD hv).mono fun e w' ⟨v, r, he, hq, hs, col, hc, hr⟩ =>
  ⟨v, Am.mkR r, he, ⟨r, hq, rfl⟩, hs, col, hc, hr.mk⟩
theorem LeS.freeze {s s' : St} {k : Nat} (h : s.freeze k = some s') : LeS s s' := fun B a w ⟨ρ, col, hs⟩ => by
  obtain ⟨sz, rs, hk, hn, hp, rfl⟩ := freeze_some h
  exact ⟨_, _, (hs.freeze hk hn hp).1⟩
theorem LeS.freezes : ∀ {ks : List Nat} {s s' : St}, s.freezes ks = some s' → LeS s s'
  | [], s, s', h => by simp [St.freezes] at h; subst h; exact LeS.refl _
  | k :: ks, s, s', h => by
    simp only [St.freezes, Option.bind_eq_some_iff] at h
    obtain ⟨s1, h1, h2⟩ := h
    exact (LeS.freeze h1).trans (LeS.freezes h2)
theorem LeS.rfz {s s' : St} {k : Nat} (h : s.rfz k = some s') : LeS s s' := fun B a w ⟨ρ, col, hs⟩ => by
  obtain ⟨sz, rs, hk, hn, hp, rfl⟩ := rfz_some h
  exact ⟨_, _, (hs.rfz hk hn hp).1⟩
attribute [go_sem] mkC mkCs mkV mkVs mkR
end Go.Proofs.Ythbhnjcnbnlidaa.Am
namespace Go.Proofs.Ythbhnjcnbnlidaa.Am
open Go
set_option maxRecDepth 100000
set_option maxHeartbeats 1000000
set_option linter.unusedSimpArgs false
set_option linter.unusedVariables false
def clZ : Cl := ⟨false, false, [], [], false, []⟩
def serverNewM (n : Int) : Sv := ⟨⟨0, []⟩, ⟨#[]⟩, if withinM n 1 3 = true then List.replicate n.toNat clZ else []⟩
def leaderNewM (n : Int) : Ld := if withinM n 1 3 = true then ⟨serverNewM n, 1⟩ else ⟨⟨⟨0, []⟩, ⟨#[]⟩, []⟩, 0⟩
theorem p_newClient : Plain Try.prog 65 := ⟨_, Try.func65, rfl, by decide⟩
theorem s_newClient : Spec Try.prog 65 [] (fun r => r = clZ.avO) := by
  refine Spec.of tysOk mixed Try.func65 rfl (by decide) ?_
  simp -implicitDefEqProofs only [go_sem, Try.f65]
  rfl
theorem p_ServerNew : Plain Try.prog 37 := ⟨_, Try.func37, rfl, by decide⟩
theorem s_ServerNew (n : Int) : Spec Try.prog 37 [I n] (fun r => r = (serverNewM n).avO) := by
  refine Spec.of tysOk mixed Try.func37 rfl (by decide) ?_
  simp -implicitDefEqProofs only [go_sem, Try.f37]
  refine CallW.one (s_within n 1 3) p_within (by first | (simp -implicitDefEqProofs only [go_sem]; done) | ((conv => lhs; simp -implicitDefEqProofs only [go_sem]); done) | (simp -implicitDefEqProofs only [go_sem]; rfl) | rfl) (by first | trivial | (simp [DeepR, DeepV, DeepVs, DeepC, DeepCs, T.scal]; done)) ?_
  cases hn : withinM n 1 3
  · simp -implicitDefEqProofs only [go_sem, hn]
    simp [serverNewM, hn]
  simp -implicitDefEqProofs only [go_sem, hn]
  have hn2 : 1 ≤ n ∧ n ≤ 3 := by simpa [withinM] using hn
  obtain ⟨m, rfl⟩ := Int.eq_ofNat_of_zero_le (show 0 ≤ n by omega)
  refine LoopW.slotsM [false, false, true, true, false, false, false, false, false, false, false, false, true, true, false, false, false, false, false, false, false, false, false] (α := Nat) (fun i => [(13, I i)]) (fun i => [(80, .rows 6 ((List.replicate i clZ).map Cl.rowO))]) (fun i => m - i) (fun i => i ≤ m) 0 (by simp -implicitDefEqProofs only [go_sem, LeTs_undef, LeTs_same, LeTs_nil]; try simp [LeTs]) (by simp -implicitDefEqProofs only [go_sem, List.replicate_zero, List.map_nil]) (by omega) ?_
  intro i hi
  simp -implicitDefEqProofs only [go_sem]
  refine BrA_i (fun h => ?_) (fun h => ?_) <;> simp -implicitDefEqProofs only [go_sem]
  · have h : i < m := by have := of_decide_eq_true h; omega
    have wi : IntKind.i64.wrap ((i : Int) + 1) = ((i + 1 : Nat) : Int) := by rw [wrap64 (by omega) (by omega)]; omega
    refine RegD_of sch_37_6 tysOk (by kernel_rfl) ?_
    simp -implicitDefEqProofs only [go_sem]
    refine CallW.onep (s_newClient) p_newClient (by first | (simp -implicitDefEqProofs only [go_sem]; done) | ((conv => lhs; simp -implicitDefEqProofs only [go_sem]); done) | (simp -implicitDefEqProofs only [go_sem]; rfl) | rfl) rfl ?_
    simp -implicitDefEqProofs only [go_sem]
    have e2 : (List.replicate (i + 1) clZ).map Cl.rowO = (List.replicate i clZ).map Cl.rowO ++ [[T.bool clZ.multi, T.bool clZ.wrong, T.list true 1 (List.map Or.rowO clZ.queue), T.list true 1 (List.map Tx.row clZ.watch), T.bool clZ.touch, T.list true 1 (List.map Tx.row clZ.hears)]] := by
      rw [List.replicate_succ', List.map_append]; rfl
    refine ⟨by unfold roomy; simp; omega, .to [144, 152, 137, 138, 139] (i + 1) rfl ?_ ?_ (by omega) (by omega)⟩ <;> simp -implicitDefEqProofs only [go_sem, LeTs_undef, LeTs_same, LeTs_nil, wi, e2]
  · have h : i = m := by have := of_decide_eq_false h; omega
    subst h
    have hz : (serverNewM (i : Int)) = ⟨⟨0, []⟩, ⟨#[]⟩, List.replicate i clZ⟩ := by simp [serverNewM, hn]
    rw [hz]
    rfl
theorem p_LeaderNew : Plain Try.prog 9 := ⟨_, Try.func9, rfl, by decide⟩
theorem s_LeaderNew (n : Int) : Spec Try.prog 9 [I n] (fun r => r = (leaderNewM n).avO) := by
  refine Spec.of tysOk mixed Try.func9 rfl (by decide) ?_
  simp -implicitDefEqProofs only [go_sem, Try.f9]
  refine CallW.onep (s_ServerNew n) p_ServerNew (by first | (simp -implicitDefEqProofs only [go_sem]; done) | ((conv => lhs; simp -implicitDefEqProofs only [go_sem]); done) | (simp -implicitDefEqProofs only [go_sem]; rfl) | rfl) rfl ?_
  cases hn : withinM n 1 3
  · have hz : (serverNewM n) = ⟨⟨0, []⟩, ⟨#[]⟩, []⟩ := by simp [serverNewM, hn]
    rw [hz]
    simp -implicitDefEqProofs only [go_sem, List.map_nil, List.length_nil, Int.natCast_zero, eq_self, decide_true]
    simp [leaderNewM, hn]
  · have hn2 : 1 ≤ n ∧ n ≤ 3 := by simpa [withinM] using hn
    have hz : (serverNewM n) = ⟨⟨0, []⟩, ⟨#[]⟩, List.replicate n.toNat clZ⟩ := by simp [serverNewM, hn]
    rw [hz]
    have hl : ¬ ((List.replicate n.toNat clZ).length : Int) = 0 := by simp; omega
    simp -implicitDefEqProofs only [go_sem, hl, decide_false]
    have hy : leaderNewM n = ⟨⟨⟨0, []⟩, ⟨#[]⟩, List.replicate n.toNat clZ⟩, 1⟩ := by simp [leaderNewM, hn, hz]
    rw [hy]
    rfl
theorem p_sServerNew : Plain Try.prog 36 := ⟨_, Try.func36, rfl, by decide⟩
theorem s_sServerNew (n : Int) : Spec Try.prog 36 [I n] (fun r => r = (serverNewM n).avO) := by
  refine Spec.of tysOk mixed Try.func36 rfl (by decide) ?_
  simp -implicitDefEqProofs only [go_sem, Try.f36]
  refine LoopW.nil [(24, 3, 152, 6)] (by conv => lhs; simp -implicitDefEqProofs only [go_sem]) ?_
  refine LoopW.slotsM [true, false, true, true, true, false, false, false, false, false, false, false, false, false, false, false, false, false, false, false, false, false] (α := Nat) (fun i => [(4, I i)]) (fun i => [(152, .rows 6 ((List.replicate i clZ).map Cl.rowO))]) (fun i => 3 - i) (fun i => i ≤ 3 ∧ (0 < i → withinM n 1 3 = true ∧ (i : Int) ≤ n)) 0 (by simp -implicitDefEqProofs only [go_sem, LeTs_undef, LeTs_same, LeTs_nil]; try simp [LeTs]) (by simp -implicitDefEqProofs only [go_sem, List.replicate_zero, List.map_nil]) ⟨by omega, fun h => by omega⟩ ?_
  rintro i ⟨hi, hin⟩
  simp -implicitDefEqProofs only [go_sem]
  refine BrA_i (fun h => ?_) (fun h => ?_) <;> simp -implicitDefEqProofs only [go_sem]
  · have h : (i : Int) < n := of_decide_eq_true h
    have wi : IntKind.i64.wrap ((i : Int) + 1) = ((i + 1 : Nat) : Int) := by rw [wrap64 (by omega) (by omega)]; omega
    refine CallW.one (s_l1In n 1 3) p_l1In (by first | (simp -implicitDefEqProofs only [go_sem]; done) | ((conv => lhs; simp -implicitDefEqProofs only [go_sem]); done) | (simp -implicitDefEqProofs only [go_sem]; rfl) | rfl) (by first | trivial | (simp [DeepR, DeepV, DeepVs, DeepC, DeepCs, T.scal]; done)) ?_
    cases hn : withinM n 1 3
    · simp -implicitDefEqProofs only [go_sem, hn]
      have h0 : i = 0 := by
        rcases Nat.eq_zero_or_pos i with h0 | h0
        · exact h0
        · have := (hin h0).1; rw [hn] at this; cases this
      subst h0
      have hz : (serverNewM n) = ⟨⟨0, []⟩, ⟨#[]⟩, []⟩ := by simp [serverNewM, hn]
      rw [hz]; rfl
    · have hn2 : 1 ≤ n ∧ n ≤ 3 := by simpa [withinM] using hn
      simp -implicitDefEqProofs only [go_sem, hn]
      have e2 : (List.replicate (i + 1) clZ).map Cl.rowO = (List.replicate i clZ).map Cl.rowO ++ [[T.bool false, T.bool false, T.list true 1 [], T.list true 1 [], T.bool false, T.list true 1 []]] := by
        rw [List.replicate_succ', List.map_append]; rfl
      refine ⟨by unfold roomy; simp; omega, .to [144, 89, 90, 91] (i + 1) rfl ?_ ?_ (by omega) ⟨by omega, fun _ => by omega⟩⟩ <;> simp -implicitDefEqProofs only [go_sem, LeTs_undef, LeTs_same, LeTs_nil, wi, e2]
  · have h : ¬ (i : Int) < n := of_decide_eq_false h
    cases hn : withinM n 1 3
    · have h0 : i = 0 := by
        rcases Nat.eq_zero_or_pos i with h0 | h0
        · exact h0
        · have := (hin h0).1; rw [hn] at this; cases this
      subst h0
      have hz : (serverNewM n) = ⟨⟨0, []⟩, ⟨#[]⟩, []⟩ := by simp [serverNewM, hn]
      rw [hz]; rfl
    · have hn2 : 1 ≤ n ∧ n ≤ 3 := by simpa [withinM] using hn
      have hin2 := (hin (by omega)).2
      have he : n = (i : Int) := by omega
      subst he
      have hz : (serverNewM (i : Int)) = ⟨⟨0, []⟩, ⟨#[]⟩, List.replicate i clZ⟩ := by simp [serverNewM, hn]
      rw [hz]; rfl
theorem p_sLeaderNew : Plain Try.prog 8 := ⟨_, Try.func8, rfl, by decide⟩
theorem s_sLeaderNew (n : Int) : Spec Try.prog 8 [I n] (fun r => r = (leaderNewM n).avO) := by
  refine Spec.of tysOk mixed Try.func8 rfl (by decide) ?_
  simp -implicitDefEqProofs only [go_sem, Try.f8]
  refine CallW.onep (s_sServerNew n) p_sServerNew (by first | (simp -implicitDefEqProofs only [go_sem]; done) | ((conv => lhs; simp -implicitDefEqProofs only [go_sem]); done) | (simp -implicitDefEqProofs only [go_sem]; rfl) | rfl) rfl ?_
  cases hn : withinM n 1 3
  · have hz : (serverNewM n) = ⟨⟨0, []⟩, ⟨#[]⟩, []⟩ := by simp [serverNewM, hn]
    rw [hz]
    simp -implicitDefEqProofs only [go_sem, List.map_nil, List.length_nil, Int.natCast_zero, eq_self, decide_true]
    simp [leaderNewM, hn]
  · have hn2 : 1 ≤ n ∧ n ≤ 3 := by simpa [withinM] using hn
    have hz : (serverNewM n) = ⟨⟨0, []⟩, ⟨#[]⟩, List.replicate n.toNat clZ⟩ := by simp [serverNewM, hn]
    rw [hz]
    have hl : ¬ ((List.replicate n.toNat clZ).length : Int) = 0 := by simp; omega
    simp -implicitDefEqProofs only [go_sem, hl, decide_false]
    have hy : leaderNewM n = ⟨⟨⟨0, []⟩, ⟨#[]⟩, List.replicate n.toNat clZ⟩, 1⟩ := by simp [leaderNewM, hn, hz]
    rw [hy]
    rfl
theorem leaderNewM_cls (n : Int) : (leaderNewM n).srv.base.ents = [] ∧ (leaderNewM n).srv.cls.length ≤ 3 ∧ ∀ c ∈ (leaderNewM n).srv.cls, c = clZ := by
  unfold leaderNewM
  cases hn : withinM n 1 3
  · simp
  · have hn2 : 1 ≤ n ∧ n ≤ 3 := by simpa [withinM] using hn
    simp only [serverNewM, hn, if_true, List.length_replicate]
    exact ⟨trivial, by omega, fun c hc => List.eq_of_mem_replicate hc⟩
theorem clZ_sm : clZ.sm := by simp [clZ, Cl.sm]
theorem leaderNewM_sm (n : Int) : (leaderNewM n).sm := by
  obtain ⟨h1, h2, h3⟩ := leaderNewM_cls n
  refine ⟨⟨by rw [h1]; simp, by rw [h1]; simp⟩, by omega, fun c hc => by rw [h3 c hc]; exact clZ_sm⟩
theorem wSum_clZ : ∀ l : List Cl, (∀ c ∈ l, c = clZ) → wSum Cl.mw l ≤ 3 * l.length
  | [], _ => by simp [wSum]
  | c :: l, h => by
    have e := wSum_clZ l fun c hc => h c (by simp [hc])
    rw [wSum_cons, h c (by simp), List.length_cons]
    have : clZ.mw = 3 := rfl
    omega
theorem leaderNewM_mw (n : Int) : (leaderNewM n).mw ≤ 9 := by
  obtain ⟨h1, h2, h3⟩ := leaderNewM_cls n
  have := wSum_clZ _ h3
  show wSum En.mw (leaderNewM n).srv.base.ents + wSum Cl.mw (leaderNewM n).srv.cls ≤ 9
  rw [h1]
  simp only [wSum, List.map_nil, List.sum_nil] at *
  omega
theorem s_FnExactLeaderNew (n : Int) : Spec Try.prog 3 [I n] (fun r => r = Bo true) := by
  obtain ⟨h1, h2, h3⟩ := leaderNewM_cls n
  have hm := leaderNewM_mw n
  have hs := leaderNewM_sm n
  have hq : ∀ c ∈ (leaderNewM n).srv.cls, c.queue.length < 10000000000000000 := fun c hc => by rw [h3 c hc]; simp [clZ]
  have n1 : ¬ (1 + ((leaderNewM n).mw : Nat) : Int) < 0 := by omega
  refine Spec.of tysOk mixed Try.func3 rfl (by decide) ?_
  simp -implicitDefEqProofs only [go_sem, Try.f3]
  refine CallW.onep (s_sLeaderNew n) p_sLeaderNew (by first | (simp -implicitDefEqProofs only [go_sem]; done) | ((conv => lhs; simp -implicitDefEqProofs only [go_sem]); done) | (simp -implicitDefEqProofs only [go_sem]; rfl) | rfl) rfl ?_
  simp -implicitDefEqProofs only [go_sem]
  refine CallW.onep (s_LeaderNew n) p_LeaderNew (by first | (simp -implicitDefEqProofs only [go_sem]; done) | ((conv => lhs; simp -implicitDefEqProofs only [go_sem]); done) | (simp -implicitDefEqProofs only [go_sem]; rfl) | rfl) rfl ?_
  simp -implicitDefEqProofs only [go_sem]
  refine CallW.one (s_eqLeader (leaderNewM n) (leaderNewM n) hs) p_eqLeader (by first | (simp -implicitDefEqProofs only [go_sem]; done) | ((conv => lhs; simp -implicitDefEqProofs only [go_sem]); done) | (simp -implicitDefEqProofs only [go_sem]; rfl) | rfl) (by first | trivial | (simp [DeepR, DeepV, DeepVs, DeepC, DeepCs, T.scal]; done)) ?_
  simp -implicitDefEqProofs only [go_sem, eq_self, decide_true, beq_self_eq_true, decide_false]
  refine CallW.o [(9000, 89), (9001, 90)] (s_markLeader (leaderNewM n) 1 (by omega) (by omega) hq) p_markLeader o11 rfl (by conv => lhs; simp -implicitDefEqProofs only [go_sem]) (by simp -implicitDefEqProofs only [go_sem]) ?_
  rintro _ _ ⟨rfl, rfl⟩
  simp -implicitDefEqProofs only [go_sem, eq_self, decide_true, beq_self_eq_true, decide_false]
  refine CallW.one (s_heldLeader (leaderNewM n) 1 (by omega) (by omega) hq) p_heldLeader (by first | (simp -implicitDefEqProofs only [go_sem]; done) | ((conv => lhs; simp -implicitDefEqProofs only [go_sem]); done) | (simp -implicitDefEqProofs only [go_sem]; rfl) | rfl) (by first | trivial | (simp [DeepR, DeepV, DeepVs, DeepC, DeepCs, T.scal]; done)) ?_
  simp -implicitDefEqProofs only [go_sem, eq_self, decide_true, beq_self_eq_true, decide_false, n1]
  refine CallW.onep (s_LeaderNew n) p_LeaderNew (by first | (simp -implicitDefEqProofs only [go_sem]; done) | ((conv => lhs; simp -implicitDefEqProofs only [go_sem]); done) | (simp -implicitDefEqProofs only [go_sem]; rfl) | rfl) rfl ?_
  simp -implicitDefEqProofs only [go_sem]
  refine CallW.one (s_eqLeader (leaderNewM n) (leaderNewM n) hs) p_eqLeader (by first | (simp -implicitDefEqProofs only [go_sem]; done) | ((conv => lhs; simp -implicitDefEqProofs only [go_sem]); done) | (simp -implicitDefEqProofs only [go_sem]; rfl) | rfl) (by first | trivial | (simp [DeepR, DeepV, DeepVs, DeepC, DeepCs, T.scal]; done)) ?_
  simp -implicitDefEqProofs only [go_sem, eq_self, decide_true, beq_self_eq_true, decide_false]
  refine CallW.one (s_heldLeader (leaderNewM n) 1 (by omega) (by omega) hq) p_heldLeader (by first | (simp -implicitDefEqProofs only [go_sem]; done) | ((conv => lhs; simp -implicitDefEqProofs only [go_sem]); done) | (simp -implicitDefEqProofs only [go_sem]; rfl) | rfl) (by first | trivial | (simp [DeepR, DeepV, DeepVs, DeepC, DeepCs, T.scal]; done)) ?_
  simp -implicitDefEqProofs only [go_sem, eq_self, decide_true, beq_self_eq_true, decide_false, n1]
end Go.Proofs.Ythbhnjcnbnlidaa.Am
namespace Go.Proofs.Ythbhnjcnbnlidaa.Am
open Go Go.ChangeShapes Go.WideShapes Go.RowKit
def RdRow (w : World) (ts : List T) (cs : List Value) : Prop := ts.length = cs.length ∧ ∀ (j : Nat) (t : T) (v : Value), ts[j]? = some t → cs[j]? = some v → Rd w (fun b => b < w.heap.size) t v
structure Opn (P : Program) (t : TypeId) (sz : Nat) {α : Type} (row : α → List T) (G : α → Prop) : Prop where
  len : ∀ x, (row x).length = sz
  op : ∀ {H : Type} {enc : TypeId × Value → H} {W : World} {fuel : Nat} {cs : List Value} {D : DataW H} {ps : List MemPlace},
    DataW.trod enc P W 0 (fun _ => true) true fuel t cs = some (D, ps) → (∀ n ∈ DataW.weights P t D, n ≤ reachBytes) → ∃ x, RdRow W (row x) cs ∧ G x
theorem RdRow.one {w : World} {t : T} {v : Value} (h : Rd w (fun b => b < w.heap.size) t v) : RdRow w [t] [v] :=
  ⟨rfl, fun j t' v' h1 h2 => by
    cases j with
    | zero => simp at h1 h2; subst h1 h2; exact h
    | succ j => simp at h1⟩
theorem RdRow.append {w : World} {a b : List T} {c d : List Value} (h : RdRow w a c) (h' : RdRow w b d) : RdRow w (a ++ b) (c ++ d) :=
  ⟨by simp [h.1, h'.1], fun j t v h1 h2 => by
    rw [List.getElem?_append] at h1 h2
    have := h.1
    split at h1
    · rename_i hj
      rw [if_pos (by omega)] at h2
      exact h.2 j t v h1 h2
    · rename_i hj
      rw [if_neg (by omega)] at h2
      rw [this] at h1
      exact h'.2 _ t v h1 h2⟩
section
variable {P : Program} {t : TypeId}
theorem Opn.int {k : IntKind} (hu : P.underlying t = some (.int k)) : Opn P t 1 (fun x : Int => [T.int k x]) (fun x => (Lit.int k x).wf = true) where
  len := fun _ => rfl
  op := fun h _ => by
    obtain ⟨m, rfl, _, hw⟩ := DataW.trod_int hu h
    exact ⟨m, .one (.int _ _), hw⟩
theorem Opn.bool (hu : P.underlying t = some .bool) : Opn P t 1 (fun x : Bool => [T.bool x]) (fun _ => True) where
  len := fun _ => rfl
  op := fun h _ => by
    obtain ⟨m, rfl, _⟩ := DataW.trod_bool hu h
    exact ⟨m, .one (.bool _), trivial⟩
theorem Opn.string (hu : P.underlying t = some .string) : Opn P t 1 (fun x : ByteArray => [T.str x]) (fun x => x.size ≤ 140737488351232) where
  len := fun _ => rfl
  op := fun h hz => by
    obtain ⟨m, rfl, e, _⟩ := DataW.trod_string hu h
    obtain ⟨rfl, _⟩ := Prod.mk.inj e
    refine ⟨m, .one (.str _), ?_⟩
    have := hz m.data.toList.length (by simp [DataW.weights])
    simpa [reachBytes] using this
theorem Opn.slice {e : TypeId} {sz : Nat} {α : Type} {row : α → List T} {G : α → Prop} (he : Opn P e sz row G) (hu : P.underlying t = some (.slice e)) (hc : P.cellsOf e = sz) (hs : 0 < sz) {B : Nat} (hB : P.bytesOf e = B) :
    Opn P t 1 (fun xs : List α => [T.list false sz (xs.map row)]) (fun xs => xs.length * B ≤ 140737488351232 ∧ ∀ x ∈ xs, G x) where
  len := fun _ => rfl
  op := fun {H enc W fuel cs D ps} h hz => by
    rcases DataW.trod_slice hu h with ⟨rfl, _⟩ | ⟨a, len, cap, elems, rest, n, _, rfl, hx, hb, hl, hm, hlen, hel, hsp, _⟩
    · exact ⟨[], .one (.nil ..), by simp, by simp⟩
    · obtain ⟨rfl, _⟩ := Prod.mk.inj hx
      have hw0 := hz ((elems.map (·.1)).length + (rest.map (·.1)).length |>.mul (P.bytesOf e)) (by simp [DataW.weights, hu])
      have each : ∀ i, i < len → ∃ x c, RdRow W (row x) c ∧ G x ∧ c.length = sz ∧ ∀ j u, c[j]? = some u → W.cell? (a.add (i * sz + j)) = some u := by
        intro i hi
        have h1 := hel i hi
        have hil : i < elems.length := by omega
        rw [List.getElem?_eq_getElem hil] at h1
        rw [Option.bind_eq_some_iff] at h1
        obtain ⟨c, hcs, hy⟩ := h1
        have hD : ∀ m ∈ DataW.weights P e (elems[i]).1, m ≤ reachBytes := by
          intro m hmem
          refine hz m ?_
          simp only [DataW.weights, hu]
          refine List.mem_cons_of_mem _ (List.mem_append_left _ ?_)
          have : ∀ (l : List (DataW H)) (y : DataW H), y ∈ l → m ∈ DataW.weights P e y → m ∈ DataW.weightsAll P e l := by
            intro l
            induction l with
            | nil => intro y hy; cases hy
            | cons z l ih =>
              intro y hy hm2
              simp only [DataW.weightsAll, List.mem_append]
              rcases List.mem_cons.1 hy with rfl | hy
              · exact Or.inl hm2
              · exact Or.inr (ih y hy hm2)
          exact this _ _ (List.mem_map.2 ⟨elems[i], List.getElem_mem hil, rfl⟩) hmem
        obtain ⟨x, hK, hG⟩ := he.op (show DataW.trod enc P W 0 (fun _ => true) true n e c = some ((elems[i]).1, (elems[i]).2) from hy) hD
        obtain ⟨hb1, hb2, hb3⟩ := World.cells?_some hcs
        have hlen2 : c.length = sz := by rw [← hK.1, he.len]
        refine ⟨x, c, hK, hG, hlen2, fun j u hu2 => ?_⟩
        have hj := (List.getElem?_eq_some_iff.1 hu2).1
        have h3 := hb3 j (by rw [hc]; omega)
        rw [hu2] at h3
        rw [← h3, hc, Addr.add_add]
      have pick : ∀ l, l ≤ len → ∃ xs : List α, xs.length = l ∧ (∀ x ∈ xs, G x) ∧ ∀ j p, xs[j]? = some p → ∃ c, c.length = sz ∧ RdRow W (row p) c ∧ ∀ i u, c[i]? = some u → W.cell? (a.add (j * sz + i)) = some u := by
        intro l
        induction l with
        | zero => exact fun _ => ⟨[], rfl, by simp, fun j p h => by simp at h⟩
        | succ l ih =>
          intro hll
          obtain ⟨xs, h1, h2, h3⟩ := ih (by omega)
          obtain ⟨x, c, q1, q2, q3, q4⟩ := each l (by omega)
          refine ⟨xs ++ [x], by simp [h1], ?_, ?_⟩
          · intro y hy
            rcases List.mem_append.1 hy with hy | hy
            · exact h2 y hy
            · obtain rfl := List.mem_singleton.1 hy
              exact q2
          · intro j p hj
            by_cases hjl : j < xs.length
            · exact h3 j p (by rwa [List.getElem?_append_left hjl] at hj)
            · rw [List.getElem?_append_right (by omega)] at hj
              have : j - xs.length = 0 := by
                have := (List.getElem?_eq_some_iff.1 hj).1
                simpa using this
              rw [this] at hj
              have hjl2 : j = l := by omega
              subst hjl2
              obtain rfl : x = p := by simpa using hj
              exact ⟨c, q3, q1, q4⟩
      obtain ⟨xs, h1, h2, h3⟩ := pick len (Nat.le_refl _)
      subst h1
      refine ⟨xs, .one ?_, ?_, h2⟩
      · obtain ⟨ab, ao, asp⟩ := a
        have at0 : ∀ (j : Nat) (p : α), xs[j]? = some p → ∀ i, i < sz → ∃ u, W.cell? ⟨ab, ao + (j * sz + i), none⟩ = some u ∧ ∀ x, (row p)[i]? = some x → Rd W (fun b => b < W.heap.size) x u := by
          intro j p hj i hi
          obtain ⟨c, c1, c2, c3⟩ := h3 j p hj
          obtain ⟨u, hu2⟩ : ∃ u, c[i]? = some u := ⟨c[i]'(by omega), List.getElem?_eq_getElem _⟩
          have h4 := c3 i u hu2
          refine ⟨u, ?_, fun x hx => c2.2 i x u hx hu2⟩
          by_cases h0 : j * sz + i = 0
          · rw [h0] at h4 ⊢
            have : asp = none := by
              unfold World.cell? at h4
              simp only [Addr.add] at h4
              cases asp with
              | none => rfl
              | some q => simp at h4; split at h4 <;> simp at h4
            subst this
            exact h4
          · unfold Addr.add at h4
            rw [if_neg h0] at h4
            exact h4
        cases xs with
        | nil => exact .nil ..
        | cons x0 xs0 =>
          obtain ⟨u0, hu0, _⟩ := at0 0 x0 rfl 0 hs
          have hab : ab < W.heap.size := by
            unfold World.cell? at hu0
            simp only at hu0
            split at hu0
            · rename_i hh
              exact (Array.getElem?_eq_some_iff.1 hh).1
            · cases hu0
          have e1 : asp = none := by
            obtain ⟨c, c1, c2, c3⟩ := h3 0 x0 rfl
            have h4 := c3 0 (c[0]'(by omega)) (List.getElem?_eq_getElem _)
            simp only [Nat.zero_mul, Nat.add_zero, Addr.add, if_pos] at h4
            unfold World.cell? at h4
            cases asp with
            | none => rfl
            | some q => simp at h4; split at h4 <;> simp at h4
          subst e1
          have hrow : ∀ (i : Nat) (r : List T), ((x0 :: xs0).map row)[i]? = some r → ∃ p, (x0 :: xs0)[i]? = some p ∧ r = row p := by
            intro i r hr
            rw [List.getElem?_map] at hr
            cases hp : (x0 :: xs0)[i]? with
            | none => rw [hp] at hr; cases hr
            | some p => rw [hp] at hr; cases hr; exact ⟨p, rfl, rfl⟩
          have hfin := @Rd.list W (fun b => b < W.heap.size) false sz ((x0 :: xs0).map row) ab ao cap (fun i j => (W.cell? ⟨ab, ao + (i * sz + j), none⟩).getD Go.undef) (by simpa using hl) hab
            (fun i r hr => by obtain ⟨p, _, rfl⟩ := hrow i r hr; exact he.len p)
            (fun i r j x hr hx => by
              obtain ⟨p, hp, rfl⟩ := hrow i r hr
              obtain ⟨u, hu1, _⟩ := at0 i p hp j (by have := (List.getElem?_eq_some_iff.1 hx).1; rw [he.len] at this; exact this)
              simp only [hu1, Option.getD_some])
            (fun i r j x hr hx => by
              obtain ⟨p, hp, rfl⟩ := hrow i r hr
              obtain ⟨u, hu1, hu2⟩ := at0 i p hp j (by have := (List.getElem?_eq_some_iff.1 hx).1; rw [he.len] at this; exact this)
              simp only [hu1, Option.getD_some]
              exact hu2 x hx)
          rwa [List.length_map] at hfin
      have hw1 : (elems.length + rest.length) * P.bytesOf e ≤ reachBytes := by simpa using hw0
      rw [hB] at hw1
      rw [← hlen]
      exact Nat.le_trans (Nat.mul_le_mul_right _ (Nat.le_add_right _ _)) hw1
structure OpnF (P : Program) (fs : List Field) (o sz : Nat) {α : Type} (row : α → List T) (G : α → Prop) : Prop where
  len : ∀ x, (row x).length = sz
  op : ∀ {H : Type} {enc : TypeId × Value → H} {W : World} {fuel : Nat} {cs : List Value} {xs : List (DataW H × List MemPlace)},
    xs.length = fs.length → (∀ (i : Nat) (f : Field), fs[i]? = some f → DataW.trod enc P W 0 (fun _ => true) true fuel f.type ((cs.drop f.offset).take (P.cellsOf f.type)) = xs[i]?) →
    (∀ n ∈ DataW.weightsEach P (fs.map (·.type)) (xs.map (·.1)), n ≤ reachBytes) → cs.length = o + sz → ∃ x, RdRow W (row x) (cs.drop o) ∧ G x
theorem OpnF.one {f : Field} {o sz : Nat} {α : Type} {row : α → List T} {G : α → Prop} (he : Opn P f.type sz row G) (ho : f.offset = o) (hc : P.cellsOf f.type = sz) : OpnF P [f] o sz row G where
  len := he.len
  op := fun {H enc W fuel cs xs} hx h hz hl => by
    match xs, hx with
    | [y], _ =>
      have hy := h 0 f rfl
      rw [ho, hc, List.take_of_length_le (by simp; omega)] at hy
      exact he.op (show _ = some (y.1, y.2) from hy) (fun n hn => hz n (by simp only [List.map_cons, List.map_nil, DataW.weightsEach]; exact List.mem_append_left _ hn))
theorem OpnF.cons {f : Field} {r : List Field} {o sz sz2 : Nat} {α β : Type} {row : α → List T} {row2 : β → List T} {G : α → Prop} {G2 : β → Prop} (he : Opn P f.type sz row G) (ho : f.offset = o) (hc : P.cellsOf f.type = sz) (hr : OpnF P r (o + sz) sz2 row2 G2) :
    OpnF P (f :: r) o (sz + sz2) (fun x : α × β => row x.1 ++ row2 x.2) (fun x => G x.1 ∧ G2 x.2) where
  len := fun x => by rw [List.length_append, he.len, hr.len]
  op := fun {H enc W fuel cs xs} hx h hz hl => by
    match xs, hx with
    | y :: ys, hx =>
      have hl2 : cs.length = o + sz + sz2 := by omega
      have hy := h 0 f rfl
      rw [ho, hc] at hy
      obtain ⟨x, hK, hG⟩ := he.op (show _ = some (y.1, y.2) from hy) (fun n hn => hz n (by simp only [List.map_cons, DataW.weightsEach]; exact List.mem_append_left _ hn))
      obtain ⟨x2, hK2, hG2⟩ := hr.op (xs := ys) (by simpa using hx) (fun i g hg => h (i + 1) g hg) (fun n hn => hz n (by simp only [List.map_cons, DataW.weightsEach]; exact List.mem_append_right _ hn)) hl2
      refine ⟨(x, x2), ?_, hG, hG2⟩
      have := hK.append hK2
      rwa [← List.drop_drop, List.take_append_drop] at this
theorem Opn.struct {fs : Array Field} {sz : Nat} {α β : Type} {row : α → List T} {row2 : β → List T} {G : α → Prop} {G2 : β → Prop} (g : α → β) (hf : OpnF P fs.toList 0 sz row G) (hu : P.underlying t = some (.struct fs)) (hg : ∀ a, row2 (g a) = row a) (hG2 : ∀ a, G a → G2 (g a)) (hlen : ∀ b, (row2 b).length = sz) (hc : P.cellsOf t = sz) :
    Opn P t sz row2 G2 where
  len := hlen
  op := fun {H enc W fuel cs D ps} h hz => by
    obtain ⟨xs, n, _, hx, hl, hm, he⟩ := DataW.trod_struct hu h
    obtain ⟨rfl, _⟩ := Prod.mk.inj hx
    obtain ⟨x, hK, hG⟩ := hf.op (xs := xs) (by simpa using hm) (fun i f hf => he i f (by simpa using hf)) (fun n hn => hz n (by simp only [DataW.weights, hu]; exact hn)) (by omega)
    exact ⟨g x, by rw [hg]; simpa using hK, hG2 x hG⟩
end
theorem each_of {H : Type} {P : Program} {ts : List TypeId} {ds : List (DataW H)} (h : (DataW.weightsEach P ts ds).all (· ≤ reachBytes) = true) {j : Nat} {t : TypeId} {D : DataW H} (ht : ts[j]? = some t) (hd : ds[j]? = some D) : ∀ n ∈ DataW.weights P t D, n ≤ reachBytes := by
  intro n hn
  have := List.all_eq_true.1 h _ (DataW.weights_mem_each ht hd n hn)
  simpa using this
theorem arg_one {W : World} {t : T} {v : Value} (hv : v.cells.toList = [v]) (h : RdRow W [t] v.cells.toList) : AVr (inCx W fun b => b < W.heap.size) (.t t) v := by
  rw [hv] at h
  exact h.2 0 t v rfl rfl
theorem out_bool {w w' : World} {D : Dm} {b : Bool} {v : Value} (h : Out w D w' (.t (.bool b)) v) : v = .bool b ∧ Below w.heap.size w w' := by
  obtain ⟨h1, col, _, h2⟩ := h
  refine ⟨?_, h1.os, h1.tape, h1.output, h1.size, fun k hk => h1.block k hk (by simp)⟩
  have h3 : Rd (outCx w D w' col).w (outCx w D w' col).Dp (.bool b) v := h2
  cases h3
  rfl
end Go.Proofs.Ythbhnjcnbnlidaa.Am
namespace Go.Proofs.Ythbhnjcnbnlidaa.Am
open Go
set_option linter.unusedVariables false
set_option linter.unusedSimpArgs false
set_option maxRecDepth 100000
def Stm.row (x : Stm) : List T := [.int .i64 x.last.t, .int .i64 x.last.n, .list false 3 (x.items.map It.row), .list false 4 (x.groups.map Gr.row)]
theorem opn_int : Opn Try.prog 3 1 (fun x : Int => [T.int .i64 x]) (fun x => (Lit.int .i64 x).wf = true) := Opn.int Try.underlying3
theorem Opn.weaken {P : Program} {t : TypeId} {sz : Nat} {α : Type} {row : α → List T} {G G' : α → Prop} (h : Opn P t sz row G) (hg : ∀ x, G x → G' x) : Opn P t sz row G' :=
  ⟨h.len, fun h1 h2 => by obtain ⟨x, a, b⟩ := h.op h1 h2; exact ⟨x, a, hg x b⟩⟩
end Go.Proofs.Ythbhnjcnbnlidaa.Am
