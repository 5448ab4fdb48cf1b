/- Texts of this claim, packed: walks and laws that its row stands on. Each states its own conditions. -/
import Derived.Below
import Derived.ChangeArms
import Derived.ChangeOld
import Derived.ChangeSlices
import Derived.DataElems
import Derived.OpenShut
import Derived.ProofKit
import Derived.ShutString
import Derived.SizedLaws
import Derived.Test.YtofiljboaegekacBFnExactGroupNew1
namespace Go.Proofs.Ytofiljboaegekac.Am
open Go
@[ext] structure Pr where
  k : ByteArray
  v : ByteArray
deriving DecidableEq
@[ext] structure Idt where
  t : Int
  n : Int
deriving DecidableEq
@[ext] structure It where
  id : Idt
  fields : List Pr
deriving DecidableEq
@[ext] structure Wt where
  id : Idt
  who : ByteArray
  at' : Int
  tm : Int
deriving DecidableEq
@[ext] structure Gr where
  name : ByteArray
  last : Idt
  waits : List Wt
deriving DecidableEq
@[ext] structure Stm where
  last : Idt
  items : List It
  groups : List Gr
deriving DecidableEq
def Pr.row (x : Pr) : List T := [.str x.k, .str x.v]
def It.row (x : It) : List T := [.int .i64 x.id.t, .int .i64 x.id.n, .list false 2 (x.fields.map Pr.row)]
def Wt.row (x : Wt) : List T := [.int .i64 x.id.t, .int .i64 x.id.n, .str x.who, .int .i64 x.at', .int .i64 x.tm]
def Gr.row (x : Gr) : List T := [.str x.name, .int .i64 x.last.t, .int .i64 x.last.n, .list false 5 (x.waits.map Wt.row)]
def It.rowO (x : It) : List T := [.int .i64 x.id.t, .int .i64 x.id.n, .list true 2 (x.fields.map Pr.row)]
def Gr.rowO (x : Gr) : List T := [.str x.name, .int .i64 x.last.t, .int .i64 x.last.n, .list true 5 (x.waits.map Wt.row)]
def It.sm (x : It) : Prop := x.fields.length < 4611686018427387904
def Gr.sm (x : Gr) : Prop := x.waits.length < 4611686018427387904
def Stm.sm (x : Stm) : Prop := x.items.length < 4611686018427387904 ∧ x.groups.length < 4611686018427387904 ∧ (∀ i ∈ x.items, i.sm) ∧ ∀ g ∈ x.groups, g.sm
def cutM (n : Int) (w : Nat) : Int := if n < w then -1 else n - w
theorem cutM_lt (n : Int) (w : Nat) : cutM n w < 0 ↔ n < w := by unfold cutM; split <;> omega
theorem cutM_ge {n : Int} {w : Nat} (h : ¬ n < w) : cutM n w = n - w := by simp [cutM, h]
def Pr.w (x : Pr) : Nat := x.k.size + x.v.size
def It.w (x : It) : Nat := wAll Pr.w x.fields
def Wt.w (x : Wt) : Nat := x.who.size
def Gr.w (x : Gr) : Nat := x.name.size + wAll Wt.w x.waits
def Stm.w (x : Stm) : Nat := wAll It.w x.items + wAll Gr.w x.groups
def ts (l : List T) : List AV := l.map .t
abbrev Pr.av (x : Pr) : AV := .agg [.t (.str x.k), .t (.str x.v)]
abbrev Idt.av (x : Idt) : AV := .agg [I x.t, I x.n]
abbrev It.av (x : It) : AV := .agg [I x.id.t, I x.id.n, .t (.list false 2 (x.fields.map Pr.row))]
abbrev Wt.av (x : Wt) : AV := .agg [I x.id.t, I x.id.n, .t (.str x.who), I x.at', I x.tm]
abbrev Gr.av (x : Gr) : AV := .agg [.t (.str x.name), I x.last.t, I x.last.n, .t (.list false 5 (x.waits.map Wt.row))]
abbrev Stm.av (x : Stm) : AV := .agg [I x.last.t, I x.last.n, .t (.list false 3 (x.items.map It.row)), .t (.list false 4 (x.groups.map Gr.row))]
theorem bytesEq_iff (a b : ByteArray) : bytesEq a b = decide (a = b) := by
  unfold bytesEq
  rw [ByteArray.toList_eq, ByteArray.toList_eq]
  obtain ⟨⟨x⟩⟩ := a
  obtain ⟨⟨y⟩⟩ := b
  by_cases h : x = y
  · subst h; simp
  · have h1 : (x == y) = false := by simpa using h
    simp [h, h1]
theorem mk_rows {α : Type} (f : α → List T) (h : ∀ x, (f x).map (T.mk false) = f x) (l : List α) : (l.map f).map (List.map (T.mk false)) = l.map f := by
  rw [List.map_map]
  exact List.map_congr_left fun x _ => h x
theorem Pr.mk_rows (l : List Pr) : (l.map Pr.row).map (List.map (T.mk false)) = l.map Pr.row := Am.mk_rows _ (fun _ => rfl) l
theorem Wt.mk_rows (l : List Wt) : (l.map Wt.row).map (List.map (T.mk false)) = l.map Wt.row := Am.mk_rows _ (fun _ => rfl) l
theorem It.mk_rows (l : List It) : (l.map It.row).map (List.map (T.mk false)) = l.map It.row := Am.mk_rows _ (fun x => by simp only [It.row, List.map_cons, List.map_nil, T.mk_list, T.mk_int, Pr.mk_rows]) l
theorem Gr.mk_rows (l : List Gr) : (l.map Gr.row).map (List.map (T.mk false)) = l.map Gr.row := Am.mk_rows _ (fun x => by simp only [Gr.row, List.map_cons, List.map_nil, T.mk_list, T.mk_int, T.mk_str, Wt.mk_rows]) l
attribute [go_sem] bytesEq_iff Pr.mk_rows Wt.mk_rows It.mk_rows Gr.mk_rows
end Go.Proofs.Ytofiljboaegekac.Am
namespace Go.Proofs.Ytofiljboaegekac.Am
open Go
set_option maxRecDepth 100000
set_option linter.unusedSimpArgs false
set_option linter.unusedVariables false
def dig (n : Nat) : ByteArray := ⟨#[UInt8.ofNat (IntKind.u8.wrap (48 + (n : Int))).toNat]⟩
def mtL (n : Nat) (out : ByteArray) : ByteArray := if h : n = 0 then out else mtL (n / 10) (dig (n % 10) ++ out)
termination_by n
decreasing_by omega
theorem mtL_pos {n : Nat} (h : 0 < n) (out : ByteArray) : mtL n out = mtL (n / 10) (dig (n % 10) ++ out) := by rw [mtL, dif_neg (by omega)]
theorem mtL_0 (out : ByteArray) : mtL 0 out = out := by rw [mtL, dif_pos rfl]
def mt (k : Int) : ByteArray := if k ≤ 0 then "m0".toUTF8 else "m".toUTF8 ++ mtL k.toNat .empty
theorem p_markText : Plain Try.prog 51 := ⟨_, Try.func51, rfl, by decide⟩
theorem s_markText (k : Int) (hk : k < 1000000000000000000) : Spec Try.prog 51 [I k] (fun r => r = .t (.str (mt k))) := by
  refine Spec.of tysOk mixed Try.func51 rfl (by decide) ?_
  simp -implicitDefEqProofs only [go_sem, Try.f51]
  refine BrA_i (fun h => ?_) (fun h => ?_) <;> simp -implicitDefEqProofs only [go_sem]
  · have h : k ≤ 0 := by simpa using h
    simp only [mt, if_pos h]; rfl
  · have h : 0 < k := by simpa using h
    refine LoopW.slotsL (α := Nat × ByteArray × Nat) (fun p => [(0, I p.1), (3, .t (.str p.2.1))]) (fun _ => []) (fun p => p.1) (fun p => mtL p.1 p.2.1 = mtL k.toNat .empty ∧ p.1 < 10 ^ p.2.2 ∧ p.2.1.size + p.2.2 ≤ 100 ∧ p.1 ≤ k.toNat) (k.toNat, .empty, 18) ?_ rfl ?_ ?_
    · simp -implicitDefEqProofs only [go_sem, LeTs_undef, LeTs_same, LeTs_nil, Int.toNat_of_nonneg (show 0 ≤ k by omega)]
      simp [LeTs]; rfl
    · refine ⟨rfl, ?_, ?_, Nat.le_refl _⟩
      · show k.toNat < 10 ^ 18; omega
      · show (0 + 18 ≤ 100); omega
    rintro ⟨n, out, f⟩ ⟨h1, h2, h3, h4⟩
    simp -implicitDefEqProofs only [go_sem]
    refine BrA_i (fun h => ?_) (fun h => ?_) <;> simp -implicitDefEqProofs only [go_sem]
    · have h : 0 < n := by simp at h; omega
      simp only at h1 h2 h3 h4
      have e1 : IntKind.i64.wrap (48 + (n : Int).tmod 10) = 48 + ((n % 10 : Nat) : Int) := by
        have : (n : Int).tmod 10 = ((n % 10 : Nat) : Int) := rfl
        rw [this, wrap64 (by omega) (by omega)]
      have e2 : IntKind.i64.wrap ((n : Int).tdiv 10) = ((n / 10 : Nat) : Int) := by
        have h0 : (n : Int).tdiv 10 = ((n / 10 : Nat) : Int) := rfl
        rw [h0, wrap64 (by omega) (by omega)]
      have ed : (⟨#[UInt8.ofNat (IntKind.u8.wrap (48 + ((n % 10 : Nat) : Int))).toNat]⟩ : ByteArray) = dig (n % 10) := rfl
      rw [e1, e2, ed]
      have hf : f ≠ 0 := fun e => by subst e; simp at h2; omega
      obtain ⟨f, rfl⟩ : ∃ g, f = g + 1 := ⟨f - 1, by omega⟩
      have hsz : (dig (n % 10) ++ out).size = out.size + 1 := by
        rw [ByteArray.size_append]; show 1 + out.size = _; omega
      refine ⟨by unfold strMax; omega, .to [96] (n / 10, dig (n % 10) ++ out, f) rfl ?_ rfl ?_ ⟨?_, ?_, ?_, ?_⟩⟩
      · simp -implicitDefEqProofs only [go_sem, LeTs_undef, LeTs_same, LeTs_nil]
      · show n / 10 < n; omega
      · show mtL (n / 10) (dig (n % 10) ++ out) = _
        rw [← h1, mtL_pos h]
      · show n / 10 < 10 ^ f
        rw [Nat.pow_succ] at h2; omega
      · show (dig (n % 10) ++ out).size + f ≤ 100; omega
      · show n / 10 ≤ k.toNat; omega
    · have h : n = 0 := by simp at h; omega
      subst h
      simp only at h1 h2 h3 h4
      rw [mtL_0] at h1
      refine ⟨by unfold strMax; omega, ?_⟩
      have hk0 : ¬ k ≤ 0 := by omega
      simp only [mt, if_neg hk0, ← h1]
      rfl
end Go.Proofs.Ytofiljboaegekac.Am
namespace Go.Proofs.Ytofiljboaegekac.Am
open Go
set_option maxRecDepth 100000
set_option linter.unusedSimpArgs false
set_option linter.unusedVariables false
def Pr.mw (x : Pr) : Nat := 2
def Pr.m (x : Pr) (k : Int) : Pr := ⟨mt (k), mt (k + 1)⟩
theorem p_markPairS : Plain Try.prog 50 := ⟨_, Try.func50, rfl, by decide⟩
theorem s_markPairS (xs : List Pr) (k : Int) (hk : 0 ≤ k) (hb : k + (wSum Pr.mw xs : Nat) < 10000000000000000) (hx : xs.length < 10000000000000000) : SpecO Try.prog 50 [.refw 9000, I k] [(9000, .rows 2 (xs.map Pr.row))]
    (fun r h => r = I (k + (wSum Pr.mw xs : Nat)) ∧ h = [(9000, .rows 2 ((mkAll Pr.m Pr.mw xs k).map Pr.row))]) := by
  refine SpecO.of tysOk mixed Try.func50 rfl (by decide) ?_
  have hl : ((mkAll Pr.m Pr.mw xs k).map Pr.row).length = (xs.map Pr.row).length := by rw [List.length_map, List.length_map, mkAll_len]
  simp -implicitDefEqProofs only [go_sem, Try.f50]
  refine LoopW.slotsL (α := Nat) (fun i => [(5, I i), (1, I (k + (wSum Pr.mw (xs.take i) : Nat)))]) (fun i => [(9000, .rows 2 (mixR ((mkAll Pr.m Pr.mw xs k).map Pr.row) (xs.map Pr.row) i))]) (fun i => xs.length - i) (fun i => i ≤ xs.length) 0 ?_ ?_ (by omega) ?_
  · simp -implicitDefEqProofs only [go_sem, LeTs_undef, LeTs_same, LeTs_nil]
    simp [LeTs, wSum]
  · simp -implicitDefEqProofs only [go_sem, mix_0]
  intro i hi
  have hw := wSum_le Pr.mw xs i
  have hml : (mixR ((mkAll Pr.m Pr.mw xs k).map Pr.row) (xs.map Pr.row) i).length = xs.length := by rw [mix_len hl (by simpa using hi), List.length_map]
  simp -implicitDefEqProofs only [go_sem, hml]
  refine BrA_i (fun h => ?_) (fun h => ?_) <;> simp -implicitDefEqProofs only [go_sem]
  · have h : i < xs.length := by simp at h; omega
    have hw1 := wSum_take Pr.mw xs h
    have hw2 := wSum_le Pr.mw xs (i + 1)
    obtain ⟨K, hK⟩ : ∃ K : Int, K = k + (wSum Pr.mw (xs.take i) : Nat) := ⟨_, rfl⟩
    have hK1 : k + (wSum Pr.mw (xs.take (i + 1)) : Nat) = K + (Pr.mw xs[i] : Nat) := by rw [hw1, hK]; omega
    rw [← hK]
    have hmw : Pr.mw xs[i] = 2 := rfl
    have h0i : (0 : Int) ≤ i := by omega
    have h1i : (i : Int) < xs.length := by omega
    have hg : (mixR ((mkAll Pr.m Pr.mw xs k).map Pr.row) (xs.map Pr.row) i).getD i [] = [.str xs[i].k, .str xs[i].v] := by rw [mix_getD hl (by simpa using h), row_getD _ _ h]; rfl
    have hn : ((mkAll Pr.m Pr.mw xs k).map Pr.row).getD i [] = [.str (mt (K)), .str (mt (K + 1))] := by rw [mkAll_getD _ _ _ _ _ h, ← hK]; rfl
    have hst := mix_set hl (i := i) (by simpa using h)
    rw [hn] at hst
    have hsg : ∀ r, ((mixR ((mkAll Pr.m Pr.mw xs k).map Pr.row) (xs.map Pr.row) i).set i r).getD i [] = r := fun r => set_getD (by omega) r
    have wi : IntKind.i64.wrap ((i : Int) + 1) = ((i + 1 : Nat) : Int) := by rw [wrap64 (by omega) (by omega)]; omega
    have w0 : IntKind.i64.wrap (K + 1) = K + 1 := by rw [wrap64 (by omega) (by omega)]
    have w1 : IntKind.i64.wrap (K + 1 + 1) = K + 2 := by rw [wrap64 (by omega) (by omega)]; omega
    simp -implicitDefEqProofs only [go_sem, hml, h0i, h1i, h, hg, hsg, wi, w0, w1]
    refine .one (s_markText _ (by omega)) p_markText rfl trivial ?_
    simp -implicitDefEqProofs only [go_sem, hml, h0i, h1i, h, hg, hsg, wi, w0, w1]
    refine .one (s_markText _ (by omega)) p_markText rfl trivial ?_
    simp -implicitDefEqProofs only [go_sem, hml, h0i, h1i, h, hg, hsg, wi, w0, w1]
    refine .to [] (i + 1) rfl ?_ ?_ (by omega) (by omega)
    · simp -implicitDefEqProofs only [go_sem, LeTs_undef, LeTs_same, LeTs_nil, hK1, hmw]
      try simp [LeTs]
      try omega
    · try simp -implicitDefEqProofs only [go_sem, hst]
  · have h : i = xs.length := by simp at h; omega
    subst h
    have hm : mixR ((mkAll Pr.m Pr.mw xs k).map Pr.row) (xs.map Pr.row) xs.length = ((mkAll Pr.m Pr.mw xs k).map Pr.row) := by
      have := mix_all hl; rwa [List.length_map] at this
    simp -implicitDefEqProofs only [go_sem, hm, List.take_length, mkAll_len]
theorem p_heldPairS : Plain Try.prog 53 := ⟨_, Try.func53, rfl, by decide⟩
theorem s_heldPairS (xs : List Pr) (k : Int) (hk : 0 ≤ k) (hb : k + (wSum Pr.mw xs : Nat) < 10000000000000000) (hx : xs.length < 10000000000000000) : Spec Try.prog 53 [.t (.list false 2 ((mkAll Pr.m Pr.mw xs k).map Pr.row)), I k]
    (fun r => r = I (k + (wSum Pr.mw xs : Nat))) := by
  refine Spec.of tysOk mixed Try.func53 rfl (by decide) ?_
  simp -implicitDefEqProofs only [go_sem, Try.f53, mkAll_len]
  refine LoopW.slotsL (α := Nat) (fun i => [(5, I i), (1, I (k + (wSum Pr.mw (xs.take i) : Nat)))]) (fun i => []) (fun i => xs.length - i) (fun i => i ≤ xs.length) 0 ?_ rfl (by omega) ?_
  · simp -implicitDefEqProofs only [go_sem, LeTs_undef, LeTs_same, LeTs_nil]
    simp [LeTs, wSum]
  intro i hi
  have hw := wSum_le Pr.mw xs i
  simp -implicitDefEqProofs only [go_sem, mkAll_len]
  refine BrA_i (fun h => ?_) (fun h => ?_) <;> simp -implicitDefEqProofs only [go_sem]
  · have h : i < xs.length := by simp at h; omega
    have hw1 := wSum_take Pr.mw xs h
    have hw2 := wSum_le Pr.mw xs (i + 1)
    obtain ⟨K, hK⟩ : ∃ K : Int, K = k + (wSum Pr.mw (xs.take i) : Nat) := ⟨_, rfl⟩
    have hK1 : k + (wSum Pr.mw (xs.take (i + 1)) : Nat) = K + (Pr.mw xs[i] : Nat) := by rw [hw1, hK]; omega
    rw [← hK]
    have hmw : Pr.mw xs[i] = 2 := rfl
    have h0i : (0 : Int) ≤ i := by omega
    have h1i : (i : Int) < xs.length := by omega
    have hn : ((mkAll Pr.m Pr.mw xs k).map Pr.row).getD i [] = [.str (mt (K)), .str (mt (K + 1))] := by rw [mkAll_getD _ _ _ _ _ h, ← hK]; rfl
    have wi : IntKind.i64.wrap ((i : Int) + 1) = ((i + 1 : Nat) : Int) := by rw [wrap64 (by omega) (by omega)]; omega
    have w0 : IntKind.i64.wrap (K + 1) = K + 1 := by rw [wrap64 (by omega) (by omega)]
    have w1 : IntKind.i64.wrap (K + 1 + 1) = K + 2 := by rw [wrap64 (by omega) (by omega)]; omega
    simp -implicitDefEqProofs only [go_sem, mkAll_len, h0i, h1i, h, hn, wi, w0, w1]
    (first | refine RegD_of sch_53_4 tysOk (by decide +kernel) ?_ | refine RegD_of sch_53_7 tysOk (by decide +kernel) ?_)
    simp -implicitDefEqProofs only [go_sem, mkAll_len, h0i, h1i, h, hn, wi, w0, w1]
    refine .one (s_markText _ (by omega)) p_markText rfl trivial ?_
    simp -implicitDefEqProofs only [go_sem, mkAll_len, h0i, h1i, h, hn, wi, w0, w1]
    (first | refine RegD_of sch_53_4 tysOk (by decide +kernel) ?_ | refine RegD_of sch_53_7 tysOk (by decide +kernel) ?_)
    simp -implicitDefEqProofs only [go_sem, mkAll_len, h0i, h1i, h, hn, wi, w0, w1]
    refine .one (s_markText _ (by omega)) p_markText rfl trivial ?_
    simp -implicitDefEqProofs only [go_sem, mkAll_len, h0i, h1i, h, hn, wi, w0, w1]
    refine .to [] (i + 1) rfl ?_ rfl (by omega) (by omega)
    · simp -implicitDefEqProofs only [go_sem, LeTs_undef, LeTs_same, LeTs_nil, hK1, hmw]
      try simp [LeTs]
      try omega
  · have h : i = xs.length := by simp at h; omega
    subst h
    simp -implicitDefEqProofs only [go_sem, List.take_length, mkAll_len]
def It.mw (x : It) : Nat := 2 + wSum Pr.mw x.fields
def It.m (x : It) (k : Int) : It := ⟨⟨k, k + 1⟩, mkAll Pr.m Pr.mw x.fields (k + 2)⟩
theorem p_markItemS : Plain Try.prog 26 := ⟨_, Try.func26, rfl, by decide⟩
theorem s_markItemS (xs : List It) (k : Int) (hk : 0 ≤ k) (hb : k + (wSum It.mw xs : Nat) < 10000000000000000) (hx : xs.length < 10000000000000000) : SpecO Try.prog 26 [.refw 9000, I k] [(9000, .rows 3 (xs.map It.rowO))]
    (fun r h => r = I (k + (wSum It.mw xs : Nat)) ∧ h = [(9000, .rows 3 ((mkAll It.m It.mw xs k).map It.rowO))]) := by
  refine SpecO.of tysOk mixed Try.func26 rfl (by decide) ?_
  have hl : ((mkAll It.m It.mw xs k).map It.rowO).length = (xs.map It.rowO).length := by rw [List.length_map, List.length_map, mkAll_len]
  simp -implicitDefEqProofs only [go_sem, Try.f26]
  refine LoopW.slotsL (α := Nat) (fun i => [(5, I i), (1, I (k + (wSum It.mw (xs.take i) : Nat)))]) (fun i => [(9000, .rows 3 (mixR ((mkAll It.m It.mw xs k).map It.rowO) (xs.map It.rowO) i))]) (fun i => xs.length - i) (fun i => i ≤ xs.length) 0 ?_ ?_ (by omega) ?_
  · simp -implicitDefEqProofs only [go_sem, LeTs_undef, LeTs_same, LeTs_nil]
    simp [LeTs, wSum]
  · simp -implicitDefEqProofs only [go_sem, mix_0]
  intro i hi
  have hw := wSum_le It.mw xs i
  have hml : (mixR ((mkAll It.m It.mw xs k).map It.rowO) (xs.map It.rowO) i).length = xs.length := by rw [mix_len hl (by simpa using hi), List.length_map]
  simp -implicitDefEqProofs only [go_sem, hml]
  refine BrA_i (fun h => ?_) (fun h => ?_) <;> simp -implicitDefEqProofs only [go_sem]
  · have h : i < xs.length := by simp at h; omega
    have hw1 := wSum_take It.mw xs h
    have hw2 := wSum_le It.mw xs (i + 1)
    obtain ⟨K, hK⟩ : ∃ K : Int, K = k + (wSum It.mw (xs.take i) : Nat) := ⟨_, rfl⟩
    have hK1 : k + (wSum It.mw (xs.take (i + 1)) : Nat) = K + (It.mw xs[i] : Nat) := by rw [hw1, hK]; omega
    rw [← hK]
    have hmw : It.mw xs[i] = 2 + wSum Pr.mw xs[i].fields := rfl
    have h0i : (0 : Int) ≤ i := by omega
    have h1i : (i : Int) < xs.length := by omega
    have hg : (mixR ((mkAll It.m It.mw xs k).map It.rowO) (xs.map It.rowO) i).getD i [] = [.int .i64 xs[i].id.t, .int .i64 xs[i].id.n, .list true 2 (xs[i].fields.map Pr.row)] := by rw [mix_getD hl (by simpa using h), row_getD _ _ h]; rfl
    have hn : ((mkAll It.m It.mw xs k).map It.rowO).getD i [] = [.int .i64 (K), .int .i64 (K + 1), .list true 2 ((mkAll Pr.m Pr.mw xs[i].fields (K + 2)).map Pr.row)] := by rw [mkAll_getD _ _ _ _ _ h, ← hK]; rfl
    have hst := mix_set hl (i := i) (by simpa using h)
    rw [hn] at hst
    have hsg : ∀ r, ((mixR ((mkAll It.m It.mw xs k).map It.rowO) (xs.map It.rowO) i).set i r).getD i [] = r := fun r => set_getD (by omega) r
    have wi : IntKind.i64.wrap ((i : Int) + 1) = ((i + 1 : Nat) : Int) := by rw [wrap64 (by omega) (by omega)]; omega
    have w0 : IntKind.i64.wrap (K + 1) = K + 1 := by rw [wrap64 (by omega) (by omega)]
    have w1 : IntKind.i64.wrap (K + 1 + 1) = K + 2 := by rw [wrap64 (by omega) (by omega)]; omega
    have z2 : wSum Pr.mw xs[i].fields ≤ It.mw xs[i] := by rw [hmw]; omega
    simp -implicitDefEqProofs only [go_sem, hml, h0i, h1i, h, hg, hsg, wi, w0, w1]
    refine CallW.n [(9000, 272)] [] [I (K + 2)] 272 rfl (by conv => lhs; simp -implicitDefEqProofs only [go_sem, hml, h0i, h1i, h, hg, hsg, wi, w0, w1]) (s_markPairS xs[i].fields (K + 2) (by omega) (by omega) (by have := wSum_len (w := Pr.mw) (fun _ => by unfold Pr.mw; omega) xs[i].fields; omega)) p_markPairS o50 rfl rfl (by conv => lhs; simp -implicitDefEqProofs only [go_sem]) (by simp -implicitDefEqProofs only [go_sem]) ?_
    rintro _ _ ⟨rfl, rfl⟩
    simp -implicitDefEqProofs only [go_sem, hml, h0i, h1i, h, hg, hsg, wi, w0, w1]
    refine .to [] (i + 1) rfl ?_ ?_ (by omega) (by omega)
    · simp -implicitDefEqProofs only [go_sem, LeTs_undef, LeTs_same, LeTs_nil, hK1, hmw]
      try simp [LeTs]
      try omega
    · try simp -implicitDefEqProofs only [go_sem, hst]
  · have h : i = xs.length := by simp at h; omega
    subst h
    have hm : mixR ((mkAll It.m It.mw xs k).map It.rowO) (xs.map It.rowO) xs.length = ((mkAll It.m It.mw xs k).map It.rowO) := by
      have := mix_all hl; rwa [List.length_map] at this
    simp -implicitDefEqProofs only [go_sem, hm, List.take_length, mkAll_len]
theorem p_heldItemS : Plain Try.prog 28 := ⟨_, Try.func28, rfl, by decide⟩
theorem s_heldItemS (xs : List It) (k : Int) (hk : 0 ≤ k) (hb : k + (wSum It.mw xs : Nat) < 10000000000000000) (hx : xs.length < 10000000000000000) : Spec Try.prog 28 [.t (.list false 3 ((mkAll It.m It.mw xs k).map It.row)), I k]
    (fun r => r = I (k + (wSum It.mw xs : Nat))) := by
  refine Spec.of tysOk mixed Try.func28 rfl (by decide) ?_
  simp -implicitDefEqProofs only [go_sem, Try.f28, mkAll_len]
  refine LoopW.slotsL (α := Nat) (fun i => [(5, I i), (1, I (k + (wSum It.mw (xs.take i) : Nat)))]) (fun i => []) (fun i => xs.length - i) (fun i => i ≤ xs.length) 0 ?_ rfl (by omega) ?_
  · simp -implicitDefEqProofs only [go_sem, LeTs_undef, LeTs_same, LeTs_nil]
    simp [LeTs, wSum]
  intro i hi
  have hw := wSum_le It.mw xs i
  simp -implicitDefEqProofs only [go_sem, mkAll_len]
  refine BrA_i (fun h => ?_) (fun h => ?_) <;> simp -implicitDefEqProofs only [go_sem]
  · have h : i < xs.length := by simp at h; omega
    have hw1 := wSum_take It.mw xs h
    have hw2 := wSum_le It.mw xs (i + 1)
    obtain ⟨K, hK⟩ : ∃ K : Int, K = k + (wSum It.mw (xs.take i) : Nat) := ⟨_, rfl⟩
    have hK1 : k + (wSum It.mw (xs.take (i + 1)) : Nat) = K + (It.mw xs[i] : Nat) := by rw [hw1, hK]; omega
    rw [← hK]
    have hmw : It.mw xs[i] = 2 + wSum Pr.mw xs[i].fields := rfl
    have h0i : (0 : Int) ≤ i := by omega
    have h1i : (i : Int) < xs.length := by omega
    have hn : ((mkAll It.m It.mw xs k).map It.row).getD i [] = [.int .i64 (K), .int .i64 (K + 1), .list false 2 ((mkAll Pr.m Pr.mw xs[i].fields (K + 2)).map Pr.row)] := by rw [mkAll_getD _ _ _ _ _ h, ← hK]; rfl
    have wi : IntKind.i64.wrap ((i : Int) + 1) = ((i + 1 : Nat) : Int) := by rw [wrap64 (by omega) (by omega)]; omega
    have w0 : IntKind.i64.wrap (K + 1) = K + 1 := by rw [wrap64 (by omega) (by omega)]
    have w1 : IntKind.i64.wrap (K + 1 + 1) = K + 2 := by rw [wrap64 (by omega) (by omega)]; omega
    have z2 : wSum Pr.mw xs[i].fields ≤ It.mw xs[i] := by rw [hmw]; omega
    simp -implicitDefEqProofs only [go_sem, mkAll_len, h0i, h1i, h, hn, wi, w0, w1]
    refine .one (s_heldPairS xs[i].fields (K + 2) (by omega) (by omega) (by have := wSum_len (w := Pr.mw) (fun _ => by unfold Pr.mw; omega) xs[i].fields; omega)) p_heldPairS (by simp -implicitDefEqProofs only [go_sem]) trivial ?_
    simp -implicitDefEqProofs only [go_sem, mkAll_len, h0i, h1i, h, hn, wi, w0, w1]
    refine BrA_i (fun h => ?_) (fun h => ?_)
    · exfalso; simp at h; omega
    simp -implicitDefEqProofs only [go_sem, mkAll_len, h0i, h1i, h, hn, wi, w0, w1]
    refine .to [] (i + 1) rfl ?_ rfl (by omega) (by omega)
    · simp -implicitDefEqProofs only [go_sem, LeTs_undef, LeTs_same, LeTs_nil, hK1, hmw]
      try simp [LeTs]
      try omega
  · have h : i = xs.length := by simp at h; omega
    subst h
    simp -implicitDefEqProofs only [go_sem, List.take_length, mkAll_len]
def Wt.mw (x : Wt) : Nat := 5
def Wt.m (x : Wt) (k : Int) : Wt := ⟨⟨k, k + 1⟩, mt (k + 2), k + 3, k + 4⟩
theorem p_markWaitS : Plain Try.prog 52 := ⟨_, Try.func52, rfl, by decide⟩
theorem s_markWaitS (xs : List Wt) (k : Int) (hk : 0 ≤ k) (hb : k + (wSum Wt.mw xs : Nat) < 10000000000000000) (hx : xs.length < 10000000000000000) : SpecO Try.prog 52 [.refw 9000, I k] [(9000, .rows 5 (xs.map Wt.row))]
    (fun r h => r = I (k + (wSum Wt.mw xs : Nat)) ∧ h = [(9000, .rows 5 ((mkAll Wt.m Wt.mw xs k).map Wt.row))]) := by
  refine SpecO.of tysOk mixed Try.func52 rfl (by decide) ?_
  have hl : ((mkAll Wt.m Wt.mw xs k).map Wt.row).length = (xs.map Wt.row).length := by rw [List.length_map, List.length_map, mkAll_len]
  simp -implicitDefEqProofs only [go_sem, Try.f52]
  refine LoopW.slotsL (α := Nat) (fun i => [(5, I i), (1, I (k + (wSum Wt.mw (xs.take i) : Nat)))]) (fun i => [(9000, .rows 5 (mixR ((mkAll Wt.m Wt.mw xs k).map Wt.row) (xs.map Wt.row) i))]) (fun i => xs.length - i) (fun i => i ≤ xs.length) 0 ?_ ?_ (by omega) ?_
  · simp -implicitDefEqProofs only [go_sem, LeTs_undef, LeTs_same, LeTs_nil]
    simp [LeTs, wSum]
  · simp -implicitDefEqProofs only [go_sem, mix_0]
  intro i hi
  have hw := wSum_le Wt.mw xs i
  have hml : (mixR ((mkAll Wt.m Wt.mw xs k).map Wt.row) (xs.map Wt.row) i).length = xs.length := by rw [mix_len hl (by simpa using hi), List.length_map]
  simp -implicitDefEqProofs only [go_sem, hml]
  refine BrA_i (fun h => ?_) (fun h => ?_) <;> simp -implicitDefEqProofs only [go_sem]
  · have h : i < xs.length := by simp at h; omega
    have hw1 := wSum_take Wt.mw xs h
    have hw2 := wSum_le Wt.mw xs (i + 1)
    obtain ⟨K, hK⟩ : ∃ K : Int, K = k + (wSum Wt.mw (xs.take i) : Nat) := ⟨_, rfl⟩
    have hK1 : k + (wSum Wt.mw (xs.take (i + 1)) : Nat) = K + (Wt.mw xs[i] : Nat) := by rw [hw1, hK]; omega
    rw [← hK]
    have hmw : Wt.mw xs[i] = 5 := rfl
    have h0i : (0 : Int) ≤ i := by omega
    have h1i : (i : Int) < xs.length := by omega
    have hg : (mixR ((mkAll Wt.m Wt.mw xs k).map Wt.row) (xs.map Wt.row) i).getD i [] = [.int .i64 xs[i].id.t, .int .i64 xs[i].id.n, .str xs[i].who, .int .i64 xs[i].at', .int .i64 xs[i].tm] := by rw [mix_getD hl (by simpa using h), row_getD _ _ h]; rfl
    have hn : ((mkAll Wt.m Wt.mw xs k).map Wt.row).getD i [] = [.int .i64 (K), .int .i64 (K + 1), .str (mt (K + 2)), .int .i64 (K + 3), .int .i64 (K + 4)] := by rw [mkAll_getD _ _ _ _ _ h, ← hK]; rfl
    have hst := mix_set hl (i := i) (by simpa using h)
    rw [hn] at hst
    have hsg : ∀ r, ((mixR ((mkAll Wt.m Wt.mw xs k).map Wt.row) (xs.map Wt.row) i).set i r).getD i [] = r := fun r => set_getD (by omega) r
    have wi : IntKind.i64.wrap ((i : Int) + 1) = ((i + 1 : Nat) : Int) := by rw [wrap64 (by omega) (by omega)]; omega
    have w0 : IntKind.i64.wrap (K + 1) = K + 1 := by rw [wrap64 (by omega) (by omega)]
    have w1 : IntKind.i64.wrap (K + 1 + 1) = K + 2 := by rw [wrap64 (by omega) (by omega)]; omega
    have w2 : IntKind.i64.wrap (K + 2 + 1) = K + 3 := by rw [wrap64 (by omega) (by omega)]; omega
    have w3 : IntKind.i64.wrap (K + 3 + 1) = K + 4 := by rw [wrap64 (by omega) (by omega)]; omega
    have w4 : IntKind.i64.wrap (K + 4 + 1) = K + 5 := by rw [wrap64 (by omega) (by omega)]; omega
    simp -implicitDefEqProofs only [go_sem, hml, h0i, h1i, h, hg, hsg, wi, w0, w1, w2, w3, w4]
    refine .one (s_markText _ (by omega)) p_markText rfl trivial ?_
    simp -implicitDefEqProofs only [go_sem, hml, h0i, h1i, h, hg, hsg, wi, w0, w1, w2, w3, w4]
    refine .to [] (i + 1) rfl ?_ ?_ (by omega) (by omega)
    · simp -implicitDefEqProofs only [go_sem, LeTs_undef, LeTs_same, LeTs_nil, hK1, hmw]
      try simp [LeTs]
      try omega
    · try simp -implicitDefEqProofs only [go_sem, hst]
  · have h : i = xs.length := by simp at h; omega
    subst h
    have hm : mixR ((mkAll Wt.m Wt.mw xs k).map Wt.row) (xs.map Wt.row) xs.length = ((mkAll Wt.m Wt.mw xs k).map Wt.row) := by
      have := mix_all hl; rwa [List.length_map] at this
    simp -implicitDefEqProofs only [go_sem, hm, List.take_length, mkAll_len]
theorem p_heldWaitS : Plain Try.prog 54 := ⟨_, Try.func54, rfl, by decide⟩
theorem s_heldWaitS (xs : List Wt) (k : Int) (hk : 0 ≤ k) (hb : k + (wSum Wt.mw xs : Nat) < 10000000000000000) (hx : xs.length < 10000000000000000) : Spec Try.prog 54 [.t (.list false 5 ((mkAll Wt.m Wt.mw xs k).map Wt.row)), I k]
    (fun r => r = I (k + (wSum Wt.mw xs : Nat))) := by
  refine Spec.of tysOk mixed Try.func54 rfl (by decide) ?_
  simp -implicitDefEqProofs only [go_sem, Try.f54, mkAll_len]
  refine LoopW.slotsL (α := Nat) (fun i => [(5, I i), (1, I (k + (wSum Wt.mw (xs.take i) : Nat)))]) (fun i => []) (fun i => xs.length - i) (fun i => i ≤ xs.length) 0 ?_ rfl (by omega) ?_
  · simp -implicitDefEqProofs only [go_sem, LeTs_undef, LeTs_same, LeTs_nil]
    simp [LeTs, wSum]
  intro i hi
  have hw := wSum_le Wt.mw xs i
  simp -implicitDefEqProofs only [go_sem, mkAll_len]
  refine BrA_i (fun h => ?_) (fun h => ?_) <;> simp -implicitDefEqProofs only [go_sem]
  · have h : i < xs.length := by simp at h; omega
    have hw1 := wSum_take Wt.mw xs h
    have hw2 := wSum_le Wt.mw xs (i + 1)
    obtain ⟨K, hK⟩ : ∃ K : Int, K = k + (wSum Wt.mw (xs.take i) : Nat) := ⟨_, rfl⟩
    have hK1 : k + (wSum Wt.mw (xs.take (i + 1)) : Nat) = K + (Wt.mw xs[i] : Nat) := by rw [hw1, hK]; omega
    rw [← hK]
    have hmw : Wt.mw xs[i] = 5 := rfl
    have h0i : (0 : Int) ≤ i := by omega
    have h1i : (i : Int) < xs.length := by omega
    have hn : ((mkAll Wt.m Wt.mw xs k).map Wt.row).getD i [] = [.int .i64 (K), .int .i64 (K + 1), .str (mt (K + 2)), .int .i64 (K + 3), .int .i64 (K + 4)] := by rw [mkAll_getD _ _ _ _ _ h, ← hK]; rfl
    have wi : IntKind.i64.wrap ((i : Int) + 1) = ((i + 1 : Nat) : Int) := by rw [wrap64 (by omega) (by omega)]; omega
    have w0 : IntKind.i64.wrap (K + 1) = K + 1 := by rw [wrap64 (by omega) (by omega)]
    have w1 : IntKind.i64.wrap (K + 1 + 1) = K + 2 := by rw [wrap64 (by omega) (by omega)]; omega
    have w2 : IntKind.i64.wrap (K + 2 + 1) = K + 3 := by rw [wrap64 (by omega) (by omega)]; omega
    have w3 : IntKind.i64.wrap (K + 3 + 1) = K + 4 := by rw [wrap64 (by omega) (by omega)]; omega
    have w4 : IntKind.i64.wrap (K + 4 + 1) = K + 5 := by rw [wrap64 (by omega) (by omega)]; omega
    simp -implicitDefEqProofs only [go_sem, mkAll_len, h0i, h1i, h, hn, wi, w0, w1, w2, w3, w4]
    (first | refine RegD_of sch_54_10 tysOk (by decide +kernel) ?_)
    simp -implicitDefEqProofs only [go_sem, mkAll_len, h0i, h1i, h, hn, wi, w0, w1, w2, w3, w4]
    refine .one (s_markText _ (by omega)) p_markText rfl trivial ?_
    simp -implicitDefEqProofs only [go_sem, mkAll_len, h0i, h1i, h, hn, wi, w0, w1, w2, w3, w4]
    refine .to [] (i + 1) rfl ?_ rfl (by omega) (by omega)
    · simp -implicitDefEqProofs only [go_sem, LeTs_undef, LeTs_same, LeTs_nil, hK1, hmw]
      try simp [LeTs]
      try omega
  · have h : i = xs.length := by simp at h; omega
    subst h
    simp -implicitDefEqProofs only [go_sem, List.take_length, mkAll_len]
def Gr.mw (x : Gr) : Nat := 3 + wSum Wt.mw x.waits
def Gr.m (x : Gr) (k : Int) : Gr := ⟨mt (k), ⟨k + 1, k + 2⟩, mkAll Wt.m Wt.mw x.waits (k + 3)⟩
theorem p_markGroupS : Plain Try.prog 27 := ⟨_, Try.func27, rfl, by decide⟩
theorem s_markGroupS (xs : List Gr) (k : Int) (hk : 0 ≤ k) (hb : k + (wSum Gr.mw xs : Nat) < 10000000000000000) (hx : xs.length < 10000000000000000) : SpecO Try.prog 27 [.refw 9000, I k] [(9000, .rows 4 (xs.map Gr.rowO))]
    (fun r h => r = I (k + (wSum Gr.mw xs : Nat)) ∧ h = [(9000, .rows 4 ((mkAll Gr.m Gr.mw xs k).map Gr.rowO))]) := by
  refine SpecO.of tysOk mixed Try.func27 rfl (by decide) ?_
  have hl : ((mkAll Gr.m Gr.mw xs k).map Gr.rowO).length = (xs.map Gr.rowO).length := by rw [List.length_map, List.length_map, mkAll_len]
  simp -implicitDefEqProofs only [go_sem, Try.f27]
  refine LoopW.slotsL (α := Nat) (fun i => [(5, I i), (1, I (k + (wSum Gr.mw (xs.take i) : Nat)))]) (fun i => [(9000, .rows 4 (mixR ((mkAll Gr.m Gr.mw xs k).map Gr.rowO) (xs.map Gr.rowO) i))]) (fun i => xs.length - i) (fun i => i ≤ xs.length) 0 ?_ ?_ (by omega) ?_
  · simp -implicitDefEqProofs only [go_sem, LeTs_undef, LeTs_same, LeTs_nil]
    simp [LeTs, wSum]
  · simp -implicitDefEqProofs only [go_sem, mix_0]
  intro i hi
  have hw := wSum_le Gr.mw xs i
  have hml : (mixR ((mkAll Gr.m Gr.mw xs k).map Gr.rowO) (xs.map Gr.rowO) i).length = xs.length := by rw [mix_len hl (by simpa using hi), List.length_map]
  simp -implicitDefEqProofs only [go_sem, hml]
  refine BrA_i (fun h => ?_) (fun h => ?_) <;> simp -implicitDefEqProofs only [go_sem]
  · have h : i < xs.length := by simp at h; omega
    have hw1 := wSum_take Gr.mw xs h
    have hw2 := wSum_le Gr.mw xs (i + 1)
    obtain ⟨K, hK⟩ : ∃ K : Int, K = k + (wSum Gr.mw (xs.take i) : Nat) := ⟨_, rfl⟩
    have hK1 : k + (wSum Gr.mw (xs.take (i + 1)) : Nat) = K + (Gr.mw xs[i] : Nat) := by rw [hw1, hK]; omega
    rw [← hK]
    have hmw : Gr.mw xs[i] = 3 + wSum Wt.mw xs[i].waits := rfl
    have h0i : (0 : Int) ≤ i := by omega
    have h1i : (i : Int) < xs.length := by omega
    have hg : (mixR ((mkAll Gr.m Gr.mw xs k).map Gr.rowO) (xs.map Gr.rowO) i).getD i [] = [.str xs[i].name, .int .i64 xs[i].last.t, .int .i64 xs[i].last.n, .list true 5 (xs[i].waits.map Wt.row)] := by rw [mix_getD hl (by simpa using h), row_getD _ _ h]; rfl
    have hn : ((mkAll Gr.m Gr.mw xs k).map Gr.rowO).getD i [] = [.str (mt (K)), .int .i64 (K + 1), .int .i64 (K + 2), .list true 5 ((mkAll Wt.m Wt.mw xs[i].waits (K + 3)).map Wt.row)] := by rw [mkAll_getD _ _ _ _ _ h, ← hK]; rfl
    have hst := mix_set hl (i := i) (by simpa using h)
    rw [hn] at hst
    have hsg : ∀ r, ((mixR ((mkAll Gr.m Gr.mw xs k).map Gr.rowO) (xs.map Gr.rowO) i).set i r).getD i [] = r := fun r => set_getD (by omega) r
    have wi : IntKind.i64.wrap ((i : Int) + 1) = ((i + 1 : Nat) : Int) := by rw [wrap64 (by omega) (by omega)]; omega
    have w0 : IntKind.i64.wrap (K + 1) = K + 1 := by rw [wrap64 (by omega) (by omega)]
    have w1 : IntKind.i64.wrap (K + 1 + 1) = K + 2 := by rw [wrap64 (by omega) (by omega)]; omega
    have w2 : IntKind.i64.wrap (K + 2 + 1) = K + 3 := by rw [wrap64 (by omega) (by omega)]; omega
    have z3 : wSum Wt.mw xs[i].waits ≤ Gr.mw xs[i] := by rw [hmw]; omega
    simp -implicitDefEqProofs only [go_sem, hml, h0i, h1i, h, hg, hsg, wi, w0, w1, w2]
    refine .one (s_markText _ (by omega)) p_markText rfl trivial ?_
    simp -implicitDefEqProofs only [go_sem, hml, h0i, h1i, h, hg, hsg, wi, w0, w1, w2]
    refine CallW.n [(9000, 336)] [] [I (K + 3)] 336 rfl (by conv => lhs; simp -implicitDefEqProofs only [go_sem, hml, h0i, h1i, h, hg, hsg, wi, w0, w1, w2]) (s_markWaitS xs[i].waits (K + 3) (by omega) (by omega) (by have := wSum_len (w := Wt.mw) (fun _ => by unfold Wt.mw; omega) xs[i].waits; omega)) p_markWaitS o52 rfl rfl (by conv => lhs; simp -implicitDefEqProofs only [go_sem]) (by simp -implicitDefEqProofs only [go_sem]) ?_
    rintro _ _ ⟨rfl, rfl⟩
    simp -implicitDefEqProofs only [go_sem, hml, h0i, h1i, h, hg, hsg, wi, w0, w1, w2]
    refine .to [] (i + 1) rfl ?_ ?_ (by omega) (by omega)
    · simp -implicitDefEqProofs only [go_sem, LeTs_undef, LeTs_same, LeTs_nil, hK1, hmw]
      try simp [LeTs]
      try omega
    · try simp -implicitDefEqProofs only [go_sem, hst]
  · have h : i = xs.length := by simp at h; omega
    subst h
    have hm : mixR ((mkAll Gr.m Gr.mw xs k).map Gr.rowO) (xs.map Gr.rowO) xs.length = ((mkAll Gr.m Gr.mw xs k).map Gr.rowO) := by
      have := mix_all hl; rwa [List.length_map] at this
    simp -implicitDefEqProofs only [go_sem, hm, List.take_length, mkAll_len]
end Go.Proofs.Ytofiljboaegekac.Am
namespace Go.Proofs.Ytofiljboaegekac.Am
open Go
set_option maxRecDepth 100000
set_option linter.unusedSimpArgs false
set_option linter.unusedVariables false
theorem shared_Pr (xs : List Pr) : sharedRows (xs.map Pr.row) = xs.map Pr.row := by
  unfold sharedRows
  rw [List.map_map]
  exact List.map_congr_left fun x _ => rfl
theorem shared_Wt (xs : List Wt) : sharedRows (xs.map Wt.row) = xs.map Wt.row := by
  unfold sharedRows
  rw [List.map_map]
  exact List.map_congr_left fun x _ => rfl
theorem p_copiedPairs : Plain Try.prog 66 := ⟨_, Try.func66, rfl, by decide⟩
theorem s_copiedPairs (xs : List Pr) (hx : xs.length ≤ 2097152) : Spec Try.prog 66 [.t (.list false 2 (xs.map Pr.row))] (fun r => r = .own (.list true 2 (xs.map Pr.row))) := by
  refine Spec.of tysOk mixed Try.func66 rfl (by decide) ?_
  simp -implicitDefEqProofs only [go_sem, Try.f66, shared_Pr]
  (unfold roomy; omega)
theorem p_cloneWaits : Plain Try.prog 45 := ⟨_, Try.func45, rfl, by decide⟩
theorem s_cloneWaits (xs : List Wt) (hx : xs.length ≤ 2097152) : Spec Try.prog 45 [.t (.list false 5 (xs.map Wt.row))] (fun r => r = .own (.list true 5 (xs.map Wt.row))) := by
  refine Spec.of tysOk mixed Try.func45 rfl (by decide) ?_
  simp -implicitDefEqProofs only [go_sem, Try.f45, shared_Wt]
  (unfold roomy; omega)
theorem p_cloneItems : Plain Try.prog 44 := ⟨_, Try.func44, rfl, by decide⟩
theorem s_cloneItems (xs : List It) (hx : xs.length ≤ 2097152) (hs : ∀ x ∈ xs, x.fields.length ≤ 2097152) : Spec Try.prog 44 [.t (.list false 3 (xs.map It.row))] (fun r => r = .own (.list true 3 (xs.map It.rowO))) := by
  refine Spec.of tysOk mixed Try.func44 rfl (by decide) ?_
  simp -implicitDefEqProofs only [go_sem, Try.f44]
  refine LoopW.slotsL (α := Nat) (fun i => [(9, I i), (6, .undef)]) (fun i => [(48, .rows 3 ((xs.take i).map It.rowO))]) (fun i => xs.length - i) (fun i => i ≤ xs.length) 0 (by simp -implicitDefEqProofs only [go_sem, LeTs_undef, LeTs_same, LeTs_nil]; simp [LeTs]) rfl (by omega) ?_
  intro i hi
  simp -implicitDefEqProofs only [go_sem]
  refine BrA_i (fun h => ?_) (fun h => ?_)
  · have h : i < xs.length := by simp at h; omega
    have hw1 : IntKind.i64.wrap ((i : Int) + 1) = ((i + 1 : Nat) : Int) := by rw [wrap64 (by omega) (by omega)]; omega
    simp -implicitDefEqProofs only [go_sem, row_getD _ _ h, It.row]
    refine ⟨⟨by omega, by omega⟩, ?_⟩
    refine RegD_of sch_44_5 tysOk (by kernel_rfl) ?_
    simp -implicitDefEqProofs only [go_sem]
    refine .onep (s_copiedPairs xs[i].fields (hs _ (List.getElem_mem _))) p_copiedPairs (by simp -implicitDefEqProofs only [go_sem]) rfl ?_
    simp -implicitDefEqProofs only [go_sem]
    have e : (xs.take (i + 1)).map It.rowO = (xs.take i).map It.rowO ++ [[T.int .i64 xs[i].id.t, T.int .i64 xs[i].id.n, T.list true 2 (xs[i].fields.map Pr.row)]] := by
      rw [List.take_succ_eq_append_getElem h, List.map_append]; rfl
    refine ⟨by unfold roomy; simp; omega, .to [40] (i + 1) rfl ?_ ?_ (by omega) h⟩ <;> simp -implicitDefEqProofs only [go_sem, LeTs_undef, LeTs_same, LeTs_nil, hw1, e]
  · simp -implicitDefEqProofs only [go_sem]
    have h : i = xs.length := by simp at h; omega
    subst h
    rw [List.take_length]
    try exact ⟨by decide, rfl⟩
end Go.Proofs.Ytofiljboaegekac.Am
namespace Go.Proofs.Ytofiljboaegekac.Am
open Go
set_option maxRecDepth 100000
set_option linter.unusedSimpArgs false
set_option linter.unusedVariables false
abbrev Stm.avO (x : Stm) : AV := .agg [I x.last.t, I x.last.n, .own (.list true 3 (x.items.map It.rowO)), .own (.list true 4 (x.groups.map Gr.rowO))]
def Stm.md (s : Stm) : Prop := s.items.length ≤ 1048576 ∧ s.groups.length ≤ 1048576 ∧ (∀ i ∈ s.items, i.fields.length ≤ 1048576) ∧ ∀ g ∈ s.groups, g.waits.length ≤ 1048576
theorem p_cloneStream : Plain Try.prog 19 := ⟨_, Try.func19, rfl, by decide⟩
theorem s_cloneStream (s : Stm) (hs : s.md) : Spec Try.prog 19 [s.av] (fun r => r = s.avO) := by
  obtain ⟨hs1, hs2, hs3, hs4⟩ := hs
  refine Spec.of tysOk mixed Try.func19 rfl (by decide) ?_
  simp -implicitDefEqProofs only [go_sem, Try.f19]
  (first | refine RegD_to sch_19_1 ?sx tysOk (by decide +kernel) ?ga ?gb | refine RegD_to sch_19_5 ?sx tysOk (by decide +kernel) ?ga ?gb)
  case ga =>
    simp -implicitDefEqProofs only [go_sem]
    repeat' (first
      | (refine CallW.onep (s_cloneItems s.items (by omega) (fun x hx => by have := hs3 x hx; omega)) p_cloneItems (by simp -implicitDefEqProofs only [go_sem]) rfl ?_; simp -implicitDefEqProofs only [go_sem])
      | exact rfl
      | refine ⟨?_, ?_⟩)
  simp -implicitDefEqProofs only [go_sem]
  refine LoopW.slotsM [false, false, true, true, false, false, false, false, false, false, false, false, false, false, true, true, true, false, false, false, false, false, false, false, false, false, false, false, false, false, false, false, false, false, false] (α := Nat) (fun i => [(16, I i)]) (fun i => [(88, .rows 4 ((s.groups.take i).map Gr.rowO))]) (fun i => s.groups.length - i) (fun i => i ≤ s.groups.length) 0 (by simp -implicitDefEqProofs only [go_sem, LeTs_undef, LeTs_same, LeTs_nil]; try simp [LeTs]) (by simp -implicitDefEqProofs only [go_sem, List.take_zero]) (by omega) ?_
  intro i hi
  simp -implicitDefEqProofs only [go_sem]
  refine BrA_i (fun h => ?_) (fun h => ?_) <;> simp -implicitDefEqProofs only [go_sem]
  · have h : i < s.groups.length := by simp at h; omega
    have h0i : (0 : Int) ≤ i := by omega
    have h1i : (i : Int) < s.groups.length := by omega
    have wi : IntKind.i64.wrap ((i : Int) + 1) = ((i + 1 : Nat) : Int) := by rw [wrap64 (by omega) (by omega)]; omega
    have hf := hs4 _ (List.getElem_mem h)
    have e : (s.groups.take (i + 1)).map Gr.rowO = (s.groups.take i).map Gr.rowO ++ [[T.str s.groups[i].name, T.int .i64 s.groups[i].last.t, T.int .i64 s.groups[i].last.n, T.list true 5 (s.groups[i].waits.map Wt.row)]] := by
      rw [List.take_succ_eq_append_getElem h, List.map_append]; rfl
    simp -implicitDefEqProofs only [go_sem, h, h0i, h1i, row_getD _ _ h, Gr.row]
    (first | refine RegD_of sch_19_1 tysOk (by decide +kernel) ?_ | refine RegD_of sch_19_5 tysOk (by decide +kernel) ?_)
    simp -implicitDefEqProofs only [go_sem]
    refine CallW.onep (s_cloneWaits s.groups[i].waits (by omega)) p_cloneWaits (by simp -implicitDefEqProofs only [go_sem]) rfl ?_
    simp -implicitDefEqProofs only [go_sem, wi]
    refine ⟨by unfold roomy; simp; omega, .to [40, 240, 248, 225, 226, 227] (i + 1) rfl ?_ ?_ (by omega) h⟩ <;> simp -implicitDefEqProofs only [go_sem, LeTs_undef, LeTs_same, LeTs_nil, e]
  · have h : i = s.groups.length := by simp at h; omega
    subst h
    simp -implicitDefEqProofs only [go_sem, List.take_length]
theorem p_l9Item : Plain Try.prog 36 := ⟨_, Try.func36, rfl, by decide⟩
theorem s_l9Item (x : It) (hx : x.fields.length ≤ 2097152) : Spec Try.prog 36 [x.av] (fun r => r = .agg [I x.id.t, I x.id.n, .own (.list true 2 (x.fields.map Pr.row))]) := by
  refine Spec.of tysOk mixed Try.func36 rfl (by decide) ?_
  simp -implicitDefEqProofs only [go_sem, Try.f36]
  (first | refine RegD_of sch_36_1 tysOk (by decide +kernel) ?_)
  simp -implicitDefEqProofs only [go_sem, shared_Pr]
  (unfold roomy; omega)
theorem p_l9Copy : Plain Try.prog 15 := ⟨_, Try.func15, rfl, by decide⟩
theorem s_l9Copy (s : Stm) (hs : s.md) : Spec Try.prog 15 [s.av] (fun r => r = s.avO) := by
  obtain ⟨hs1, hs2, hs3, hs4⟩ := hs
  refine Spec.of tysOk mixed Try.func15 rfl (by decide) ?_
  simp -implicitDefEqProofs only [go_sem, Try.f15]
  refine LoopW.nil [(24, 2, 208, 3), (24, 3, 392, 4)] (by conv => lhs; simp -implicitDefEqProofs only [go_sem]) ?_
  refine LoopW.slotsM [false, true, true, true, true, false, false, false, false, false, false, false, false, false, false, false, false, false, false, false, false, false, false, false, false, false, false, false, false, false, false, false, false, false, false, false, false, false, false, false, false, false, false, false, false, false, false, false, false, false, false, false] (α := Nat) (fun i => [(4, I i)]) (fun i => [(208, .rows 3 ((s.items.take i).map It.rowO))]) (fun i => s.items.length - i) (fun i => i ≤ s.items.length) 0 (by simp -implicitDefEqProofs only [go_sem, LeTs_undef, LeTs_same, LeTs_nil]; try simp [LeTs]) (by simp -implicitDefEqProofs only [go_sem, List.take_zero, List.map_nil]) (by omega) ?_
  intro i hi
  simp -implicitDefEqProofs only [go_sem]
  refine BrA_i (fun h => ?_) (fun h => ?_) <;> simp -implicitDefEqProofs only [go_sem]
  · have h : i < s.items.length := by simp at h; omega
    have h0i : (0 : Int) ≤ i := by omega
    have h1i : (i : Int) < s.items.length := by omega
    have wi : IntKind.i64.wrap ((i : Int) + 1) = ((i + 1 : Nat) : Int) := by rw [wrap64 (by omega) (by omega)]; omega
    have hf := hs3 _ (List.getElem_mem h)
    have e : (s.items.take (i + 1)).map It.rowO = (s.items.take i).map It.rowO ++ [[T.int .i64 s.items[i].id.t, T.int .i64 s.items[i].id.n, T.list true 2 (s.items[i].fields.map Pr.row)]] := by
      rw [List.take_succ_eq_append_getElem h, List.map_append]; rfl
    refine RegD_of sch_15_5 tysOk (by kernel_rfl) ?_
    simp -implicitDefEqProofs only [go_sem, h, h0i, h1i, row_getD _ _ h, It.row]
    refine CallW.onep (s_l9Item s.items[i] (by omega)) p_l9Item (by simp -implicitDefEqProofs only [go_sem]) rfl ?_
    simp -implicitDefEqProofs only [go_sem, wi]
    refine ⟨by unfold roomy; simp; omega, .to [200, 193, 194, 195] (i + 1) rfl ?_ ?_ (by omega) h⟩ <;> simp -implicitDefEqProofs only [go_sem, LeTs_undef, LeTs_same, LeTs_nil, e]
  · have h : i = s.items.length := by simp at h; omega
    subst h
    clear hi
    simp -implicitDefEqProofs only [go_sem, List.take_length]
    refine LoopW.slotsM [false, true, true, true, false, true, false, false, false, false, false, false, false, false, false, false, false, false, false, false, false, false, false, false, false, false, false, false, false, false, false, false, false, false, false, false, false, false, false, false, false, false, false, false, false, false, false, false, false, false, false, false] (α := Nat) (fun i => [(5, I i)]) (fun i => [(392, .rows 4 ((s.groups.take i).map Gr.rowO))]) (fun i => s.groups.length - i) (fun i => i ≤ s.groups.length) 0 (by simp -implicitDefEqProofs only [go_sem, LeTs_undef, LeTs_same, LeTs_nil]; try simp [LeTs]) (by simp -implicitDefEqProofs only [go_sem, List.take_zero, List.map_nil]) (by omega) ?_
    intro i hi
    simp -implicitDefEqProofs only [go_sem]
    refine BrA_i (fun h => ?_) (fun h => ?_) <;> simp -implicitDefEqProofs only [go_sem]
    · have h : i < s.groups.length := by simp at h; omega
      have h0i : (0 : Int) ≤ i := by omega
      have h1i : (i : Int) < s.groups.length := by omega
      have wi : IntKind.i64.wrap ((i : Int) + 1) = ((i + 1 : Nat) : Int) := by rw [wrap64 (by omega) (by omega)]; omega
      have hf := hs4 _ (List.getElem_mem h)
      have e : (s.groups.take (i + 1)).map Gr.rowO = (s.groups.take i).map Gr.rowO ++ [[T.str s.groups[i].name, T.int .i64 s.groups[i].last.t, T.int .i64 s.groups[i].last.n, T.list true 5 (s.groups[i].waits.map Wt.row)]] := by
        rw [List.take_succ_eq_append_getElem h, List.map_append]; rfl
      have hr : roomy s.groups[i].waits.length 48 := by unfold roomy; omega
      simp -implicitDefEqProofs only [go_sem, h, h0i, h1i, row_getD _ _ h, Gr.row, shared_Wt, hr, wi]
      refine ⟨by unfold roomy; simp; omega, .to [48, 320, 344, 384] (i + 1) rfl ?_ ?_ (by omega) h⟩ <;> simp -implicitDefEqProofs only [go_sem, LeTs_undef, LeTs_same, LeTs_nil, e]
    · have h : i = s.groups.length := by simp at h; omega
      subst h
      simp -implicitDefEqProofs only [go_sem, List.take_length]
end Go.Proofs.Ytofiljboaegekac.Am
namespace Go.Proofs.Ytofiljboaegekac.Am
open Go
set_option maxRecDepth 100000
set_option linter.unusedSimpArgs false
set_option linter.unusedVariables false
theorem s_isNaN (n : Int) : Spec Try.prog 75 [I n] (fun r => r = Bo false) := by
  refine Spec.of tysOk mixed Try.func75 rfl (by decide) ?_
  simp -implicitDefEqProofs only [go_sem, Try.f75]
theorem p_isNaN : Plain Try.prog 75 := ⟨_, Try.func75, rfl, by decide⟩
def cmpM (a b : Int) : Int := if a < b then -1 else if b < a then 1 else 0
theorem s_compare (a b : Int) : Spec Try.prog 63 [I a, I b] (fun r => r = I (cmpM a b)) := by
  refine Spec.of tysOk mixed Try.func63 rfl (by decide) ?_
  simp -implicitDefEqProofs only [go_sem, Try.f63]
  refine .one (s_isNaN _) p_isNaN rfl trivial ?_
  simp -implicitDefEqProofs only [go_sem]
  refine .one (s_isNaN _) p_isNaN rfl trivial ?_
  simp -implicitDefEqProofs only [go_sem]
  refine BrA_i (fun h => ?_) (fun h => ?_)
  · simp -implicitDefEqProofs only [go_sem]; simp_all [cmpM]
  · simp -implicitDefEqProofs only [go_sem]
    refine BrA_i (fun h => ?_) (fun h => ?_) <;> simp -implicitDefEqProofs only [go_sem] <;> simp_all [cmpM] <;> omega
theorem p_compare : Plain Try.prog 63 := ⟨_, Try.func63, rfl, by decide⟩
def firstM (xs : List Int) : Int := (xs.find? (· != 0)).getD 0
theorem s_or (xs : List Int) (hx : xs.length < 1000000) : Spec Try.prog 62 [.t (.list false 1 (xs.map fun n => [T.int .i64 n]))] (fun r => r = I (firstM xs)) := by
  refine Spec.of tysOk mixed Try.func62 rfl (by decide) ?_
  simp -implicitDefEqProofs only [go_sem, Try.f62]
  refine LoopW.slots (α := Nat) (fun i => [(8, I i)]) (fun _ => []) (fun i => xs.length - i) (fun i => i ≤ xs.length ∧ (∀ n ∈ xs.take i, n = 0)) 0 rfl rfl (by simp) ?_
  rintro i ⟨hi, hz⟩
  simp -implicitDefEqProofs only [go_sem]
  refine BrA_i (fun h => ?_) (fun h => ?_)
  · have h : i < xs.length := by simp at h; omega
    simp -implicitDefEqProofs only [go_sem, row_getD _ _ h]
    refine ⟨⟨by omega, by omega⟩, BrA_i (fun h0 => ?_) (fun h0 => ?_)⟩
    rotate_left
    · simp -implicitDefEqProofs only [go_sem]
      have hz' : ∀ n ∈ xs.take i, ¬ ((n != 0) = true) := fun n hn => by simp [hz n hn]
      have : xs = xs.take i ++ xs[i] :: xs.drop (i + 1) := by simp
      have h0 : (xs[i] != 0) = true := by simpa using h0
      have h1 : xs.find? (· != 0) = some xs[i] := by
        rw [List.find?_eq_some_iff_append]
        exact ⟨h0, _, _, this, fun n hn => by simp [hz n hn]⟩
      unfold firstM; rw [h1]; rfl
    · simp -implicitDefEqProofs only [go_sem]
      refine .to [] (i + 1) rfl ?_ rfl (by omega) ⟨h, ?_⟩
      · simp -implicitDefEqProofs only [go_sem, LeTs_undef, LeTs_same]
        simp only [wrap64 (n := (i : Int) + 1) (by omega) (by omega)]
        simp [LeTs]
      · intro n hn
        simp at h0
        rw [List.take_succ_eq_append_getElem h, List.mem_append, List.mem_singleton] at hn
        rcases hn with hn | hn
        · exact hz n hn
        · rw [hn]; exact h0
  · simp -implicitDefEqProofs only [go_sem]
    have h : i = xs.length := by simp at h; omega
    subst h
    have : xs.find? (· != 0) = none := List.find?_eq_none.2 fun n hn => by simp [hz n (by simpa using hn)]
    simp [firstM, this]
theorem p_or : Plain Try.prog 62 := ⟨_, Try.func62, rfl, by decide⟩
def ordM (a b c d : Int) : Int := if cmpM a c = 0 then cmpM b d else cmpM a c
theorem find2 (x y : Int) : firstM [x, y] = if x = 0 then y else x := by
  unfold firstM
  by_cases h : x = 0 <;> by_cases h' : y = 0 <;> simp [List.find?_cons, h, h', bne]
  all_goals (split <;> simp_all)
theorem s_idOrder (a b c d : Int) : Spec Try.prog 40 [.agg [I a, I b], .agg [I c, I d]] (fun r => r = I (ordM a b c d)) := by
  refine Spec.of tysOk mixed Try.func40 rfl (by decide) ?_
  simp -implicitDefEqProofs only [go_sem, Try.f40]
  refine RegD_of sch_40_1 tysOk (by kernel_rfl) ?_
  simp -implicitDefEqProofs only [go_sem]
  refine .one (s_compare _ _) p_compare rfl trivial ?_
  simp -implicitDefEqProofs only [go_sem]
  refine .one (s_compare _ _) p_compare rfl trivial ?_
  simp -implicitDefEqProofs only [go_sem]
  refine .one (s_or [cmpM a c, cmpM b d] (by simp)) p_or rfl trivial ?_
  simp -implicitDefEqProofs only [go_sem]
  rw [find2]; rfl
theorem p_idOrder : Plain Try.prog 40 := ⟨_, Try.func40, rfl, by decide⟩
theorem s_IdLess (a b c d : Int) : Spec Try.prog 41 [.agg [I a, I b], .agg [I c, I d]] (fun r => r = Bo (decide (ordM a b c d < 0))) := by
  refine Spec.of tysOk mixed Try.func41 rfl (by decide) ?_
  simp -implicitDefEqProofs only [go_sem, Try.f41]
  refine .one (s_idOrder _ _ _ _) p_idOrder rfl trivial ?_
  simp -implicitDefEqProofs only [go_sem]
theorem p_IdLess : Plain Try.prog 41 := ⟨_, Try.func41, rfl, by decide⟩
def withinM (n lo hi : Int) : Bool := decide (lo ≤ n) && decide (n ≤ hi)
theorem s_within (n lo hi : Int) : Spec Try.prog 61 [I n, I lo, I hi] (fun r => r = Bo (withinM n lo hi)) := by
  refine Spec.of tysOk mixed Try.func61 rfl (by decide) ?_
  simp -implicitDefEqProofs only [go_sem, Try.f61]
  refine BrA_i (fun h => ?_) (fun h => ?_) <;> simp -implicitDefEqProofs only [go_sem] <;> simp_all [withinM] <;> omega
theorem p_within : Plain Try.prog 61 := ⟨_, Try.func61, rfl, by decide⟩
def keyOkM (b : ByteArray) : Bool := withinM b.size 1 12
theorem s_keyOk (b : ByteArray) : Spec Try.prog 65 [.t (.str b)] (fun r => r = Bo (keyOkM b)) := by
  refine Spec.of tysOk mixed Try.func65 rfl (by decide) ?_
  simp -implicitDefEqProofs only [go_sem, Try.f65]
  refine .one (s_within _ _ _) p_within rfl trivial ?_
  simp -implicitDefEqProofs only [go_sem]
  rfl
theorem p_keyOk : Plain Try.prog 65 := ⟨_, Try.func65, rfl, by decide⟩
def idOkM (a b : Int) : Bool := withinM a 0 1000000 && withinM b 0 1000000000
theorem s_idOk (a b : Int) : Spec Try.prog 39 [.agg [I a, I b]] (fun r => r = Bo (idOkM a b)) := by
  refine Spec.of tysOk mixed Try.func39 rfl (by decide) ?_
  simp -implicitDefEqProofs only [go_sem, Try.f39]
  refine .one (s_within _ _ _) p_within rfl trivial ?_
  simp -implicitDefEqProofs only [go_sem]
  refine BrA_i (fun h => ?_) (fun h => ?_)
  · simp -implicitDefEqProofs only [go_sem]
    refine .one (s_within _ _ _) p_within rfl trivial ?_
    simp -implicitDefEqProofs only [go_sem]
    simp [idOkM, h]
  · simp -implicitDefEqProofs only [go_sem]
    simp [idOkM, h]
theorem p_idOk : Plain Try.prog 39 := ⟨_, Try.func39, rfl, by decide⟩
def okAt (lt ln : Int) (ws : List Wt) (i : Nat) (x : Wt) : Bool :=
  idOkM x.id.t x.id.n && (match i with | 0 => true | j + 1 => match ws[j]? with | some y => decide (ordM y.id.t y.id.n x.id.t x.id.n < 0) | none => true) && !decide (ordM lt ln x.id.t x.id.n < 0) && keyOkM x.who && withinM x.at' 0 1000000 && withinM x.tm 1 1000000000
theorem s_groupOk (name : ByteArray) (lt ln : Int) (ws : List Wt) (hw : ws.length < 2000000) : Spec Try.prog 43 [.agg [.t (.str name), I lt, I ln, .t (.list false 5 (ws.map Wt.row))]]
    (fun r => ∃ b, r = Bo b ∧ b = (decide (∀ i (h : i < ws.length), okAt lt ln ws i ws[i] = true) && keyOkM name && idOkM lt ln && decide (ws.length ≤ 16))) := by
  refine Spec.of tysOk mixed Try.func43 rfl (by decide) ?_
  simp -implicitDefEqProofs only [go_sem, Try.f43]
  refine LoopW.slots (α := Nat) (fun i => [(8, I i)]) (fun _ => []) (fun i => ws.length - i) (fun i => i ≤ ws.length ∧ (∀ j (h : j < ws.length), j < i → okAt lt ln ws j ws[j] = true)) 0 rfl rfl (by simp) ?_
  rintro i ⟨hi, hz⟩
  simp -implicitDefEqProofs only [go_sem]
  refine BrA_i (fun h => ?_) (fun h => ?_)
  · have h : i < ws.length := by simp at h; omega
    simp -implicitDefEqProofs only [go_sem, row_getD _ _ h, Wt.row]
    refine ⟨⟨by omega, by omega⟩, ?_⟩
    refine RegD_of sch_43_4 tysOk (by kernel_rfl) ?_
    have hp : 0 < i → IntKind.i64.wrap ((i : Int) - 1) = ((i - 1 : Nat) : Int) := fun h0 => by rw [wrap64 (by omega) (by omega)]; omega
    have hq : 0 < i → i - 1 < ws.length := fun _ => by omega
    have good : okAt lt ln ws i ws[i] = true → (∀ j (h : j < ws.length), j < i + 1 → okAt lt ln ws j ws[j] = true) := fun hg j hj hl => by
      rcases Nat.lt_succ_iff_lt_or_eq.1 hl with hl | rfl
      · exact hz j hj hl
      · exact hg
    have bad : okAt lt ln ws i ws[i] = false → (∃ b, Bo false = Bo b ∧ b = (decide (∀ i (h : i < ws.length), okAt lt ln ws i ws[i] = true) && keyOkM name && idOkM lt ln && decide (ws.length ≤ 16))) := fun hg => by
      refine ⟨_, rfl, ?_⟩
      have : ¬ ∀ i (h : i < ws.length), okAt lt ln ws i ws[i] = true := fun hall => by rw [hall i h] at hg; cases hg
      simp [this]
    have hw1 : IntKind.i64.wrap ((i : Int) + 1) = ((i + 1 : Nat) : Int) := by rw [wrap64 (by omega) (by omega)]; omega
    simp -implicitDefEqProofs only [go_sem]
    refine .one (s_idOk _ _) p_idOk rfl trivial ?_
    simp -implicitDefEqProofs only [go_sem]
    refine BrA_i (fun h1 => ?_) (fun h1 => ?_) <;> simp -implicitDefEqProofs only [go_sem]
    · refine BrA_i (fun h2 => ?_) (fun h2 => ?_) <;> simp -implicitDefEqProofs only [go_sem]
      · have h2 : 0 < i := by simpa using h2
        simp -implicitDefEqProofs only [go_sem, hp h2, row_getD _ _ (hq h2), Wt.row]
        refine ⟨⟨by omega, by omega⟩, ?_⟩
        refine .one (s_idOrder _ _ _ _) p_idOrder rfl trivial ?_
        simp -implicitDefEqProofs only [go_sem]
        refine BrA_i (fun h3 => ?_) (fun h3 => ?_) <;> simp -implicitDefEqProofs only [go_sem]
        · refine bad ?_
          obtain ⟨j, rfl⟩ : ∃ j, i = j + 1 := ⟨i - 1, by omega⟩
          have hj : ws[j]? = some ws[j] := List.getElem?_eq_getElem (by omega)
          simp only [Nat.add_sub_cancel, decide_eq_true_eq] at h3
          have : ¬ ordM ws[j].id.t ws[j].id.n ws[j + 1].id.t ws[j + 1].id.n < 0 := by omega
          simp [okAt, hj, this]
        have hprev : (match i with | 0 => true | j + 1 => match ws[j]? with | some y => decide (ordM y.id.t y.id.n ws[i].id.t ws[i].id.n < 0) | none => true) = true := by
          obtain ⟨j, rfl⟩ : ∃ j, i = j + 1 := ⟨i - 1, by omega⟩
          have hj : ws[j]? = some ws[j] := List.getElem?_eq_getElem (by omega)
          simp only [Nat.add_sub_cancel, decide_eq_false_iff_not] at h3
          have : ordM ws[j].id.t ws[j].id.n ws[j + 1].id.t ws[j + 1].id.n < 0 := by omega
          simp [hj, this]
        refine .one (s_IdLess _ _ _ _) p_IdLess rfl trivial ?_
        simp -implicitDefEqProofs only [go_sem]
        refine BrA_i (fun h4 => ?_) (fun h4 => ?_) <;> simp -implicitDefEqProofs only [go_sem]
        · exact bad (by simp [okAt, h4])
        refine .one (s_keyOk _) p_keyOk rfl trivial ?_
        simp -implicitDefEqProofs only [go_sem]
        refine BrA_i (fun h5 => ?_) (fun h5 => ?_) <;> simp -implicitDefEqProofs only [go_sem]
        · refine .one (s_within _ _ _) p_within rfl trivial ?_
          simp -implicitDefEqProofs only [go_sem]
          refine BrA_i (fun h6 => ?_) (fun h6 => ?_) <;> simp -implicitDefEqProofs only [go_sem]
          · refine .one (s_within _ _ _) p_within rfl trivial ?_
            simp -implicitDefEqProofs only [go_sem]
            refine BrA_i (fun h7 => ?_) (fun h7 => ?_) <;> simp -implicitDefEqProofs only [go_sem]
            · refine .to [32] (i + 1) rfl ?_ ?_ (by omega) ⟨h, good (by simp [okAt, h1, h4, h5, h6, h7, hprev])⟩ <;> simp -implicitDefEqProofs only [go_sem, LeTs_undef, LeTs_same, LeTs_nil, hw1]
            · exact bad (by simp [okAt, h7])
          · exact bad (by simp [okAt, h6])
        · exact bad (by simp [okAt, h5])
      · have h2 : i = 0 := by simp at h2; omega
        have hprev : (match i with | 0 => true | j + 1 => match ws[j]? with | some y => decide (ordM y.id.t y.id.n ws[i].id.t ws[i].id.n < 0) | none => true) = true := by subst h2; rfl
        refine .one (s_IdLess _ _ _ _) p_IdLess rfl trivial ?_
        simp -implicitDefEqProofs only [go_sem]
        refine BrA_i (fun h4 => ?_) (fun h4 => ?_) <;> simp -implicitDefEqProofs only [go_sem]
        · exact bad (by simp [okAt, h4])
        refine .one (s_keyOk _) p_keyOk rfl trivial ?_
        simp -implicitDefEqProofs only [go_sem]
        refine BrA_i (fun h5 => ?_) (fun h5 => ?_) <;> simp -implicitDefEqProofs only [go_sem]
        · refine .one (s_within _ _ _) p_within rfl trivial ?_
          simp -implicitDefEqProofs only [go_sem]
          refine BrA_i (fun h6 => ?_) (fun h6 => ?_) <;> simp -implicitDefEqProofs only [go_sem]
          · refine .one (s_within _ _ _) p_within rfl trivial ?_
            simp -implicitDefEqProofs only [go_sem]
            refine BrA_i (fun h7 => ?_) (fun h7 => ?_) <;> simp -implicitDefEqProofs only [go_sem]
            · refine .to [32] (i + 1) rfl ?_ ?_ (by omega) ⟨h, good (by simp [okAt, h1, h4, h5, h6, h7, hprev])⟩ <;> simp -implicitDefEqProofs only [go_sem, LeTs_undef, LeTs_same, LeTs_nil, hw1]
            · exact bad (by simp [okAt, h7])
          · exact bad (by simp [okAt, h6])
        · exact bad (by simp [okAt, h5])
    · exact bad (by simp [okAt, h1])
  · simp -implicitDefEqProofs only [go_sem]
    refine .one (s_keyOk _) p_keyOk rfl trivial ?_
    simp -implicitDefEqProofs only [go_sem]
    have hz' : ∀ i (h : i < ws.length), okAt lt ln ws i ws[i] = true := fun j hj => hz j hj (by simp at h; omega)
    refine BrA_i (fun h1 => ?_) (fun h1 => ?_) <;> simp -implicitDefEqProofs only [go_sem]
    · refine .one (s_idOk _ _) p_idOk rfl trivial ?_
      simp -implicitDefEqProofs only [go_sem]
      refine BrA_i (fun h2 => ?_) (fun h2 => ?_) <;> simp -implicitDefEqProofs only [go_sem]
      · refine ⟨_, rfl, ?_⟩
        simp [h1, h2, hz']
        omega
      · refine ⟨_, rfl, ?_⟩
        simp [h1, h2, hz']
    · refine ⟨_, rfl, ?_⟩
      simp [h1]
end Go.Proofs.Ytofiljboaegekac.Am
namespace Go.Proofs.Ytofiljboaegekac.Am
open Go
set_option maxRecDepth 100000
set_option linter.unusedSimpArgs false
set_option linter.unusedVariables false
theorem p_l1In : Plain Try.prog 57 := ⟨_, Try.func57, rfl, by decide⟩
theorem s_l1In (n lo hi : Int) : Spec Try.prog 57 [I n, I lo, I hi] (fun r => r = Bo (withinM n lo hi)) := by
  refine Spec.of tysOk mixed Try.func57 rfl (by decide) ?_
  simp -implicitDefEqProofs only [go_sem, Try.f57]
  refine BrA_i (fun h => ?_) (fun h => ?_) <;> simp -implicitDefEqProofs only [go_sem] <;> simp_all [withinM] <;> omega
theorem p_l4Key : Plain Try.prog 58 := ⟨_, Try.func58, rfl, by decide⟩
theorem s_l4Key (b : ByteArray) : Spec Try.prog 58 [.t (.str b)] (fun r => r = Bo (keyOkM b)) := by
  refine Spec.of tysOk mixed Try.func58 rfl (by decide) ?_
  simp -implicitDefEqProofs only [go_sem, Try.f58]
  refine .one (s_l1In _ _ _) p_l1In rfl trivial ?_
  simp -implicitDefEqProofs only [go_sem]
  rfl
theorem p_l9Id : Plain Try.prog 32 := ⟨_, Try.func32, rfl, by decide⟩
theorem s_l9Id (a b : Int) : Spec Try.prog 32 [.agg [I a, I b]] (fun r => r = Bo (idOkM a b)) := by
  refine Spec.of tysOk mixed Try.func32 rfl (by decide) ?_
  simp -implicitDefEqProofs only [go_sem, Try.f32]
  refine .one (s_l1In _ _ _) p_l1In rfl trivial ?_
  simp -implicitDefEqProofs only [go_sem]
  refine BrA_i (fun h => ?_) (fun h => ?_) <;> simp -implicitDefEqProofs only [go_sem]
  · refine .one (s_l1In _ _ _) p_l1In rfl trivial ?_
    simp -implicitDefEqProofs only [go_sem]
    simp [idOkM, h]
  · simp [idOkM, h]
theorem ordM_lt (a b c d : Int) : ordM a b c d < 0 ↔ a < c ∨ (a = c ∧ b < d) := by
  unfold ordM cmpM
  split <;> split <;> (try split) <;> (try split) <;> omega
theorem p_sIdLess : Plain Try.prog 33 := ⟨_, Try.func33, rfl, by decide⟩
theorem s_sIdLess (a b c d : Int) : Spec Try.prog 33 [.agg [I a, I b], .agg [I c, I d]] (fun r => r = Bo (decide (ordM a b c d < 0))) := by
  refine Spec.of tysOk mixed Try.func33 rfl (by decide) ?_
  have e := ordM_lt a b c d
  simp -implicitDefEqProofs only [go_sem, Try.f33]
  refine BrA_i (fun h => ?_) (fun h => ?_) <;> simp -implicitDefEqProofs only [go_sem]
  · simp at h; simp [e, h]
  refine BrA_i (fun h1 => ?_) (fun h1 => ?_) <;> simp -implicitDefEqProofs only [go_sem]
  · simp at h h1; subst h1; simp [e]
  · simp at h h1
    have : ¬ a < c := by omega
    simp [e, h1, this]
end Go.Proofs.Ytofiljboaegekac.Am
namespace Go.Proofs.Ytofiljboaegekac.Am
open Go
set_option maxRecDepth 100000
set_option linter.unusedSimpArgs false
set_option linter.unusedVariables false
def allAt {α : Type} (good : α → Bool) (link : α → α → Bool) (xs : List α) : Bool := xs.all good && (xs.zip xs.tail).all fun p => link p.1 p.2
def goodAt {α : Type} (good : α → Bool) (link : α → α → Bool) (xs : List α) (i : Nat) : Bool :=
  match xs[i]? with
  | none => true
  | some x => good x && match i with
    | 0 => true
    | j + 1 => match xs[j]? with
      | none => true
      | some y => link y x
theorem allAt_iff {α : Type} (good : α → Bool) (link : α → α → Bool) (xs : List α) : allAt good link xs = true ↔ ∀ i, i < xs.length → goodAt good link xs i = true := by
  unfold allAt
  rw [Bool.and_eq_true, List.all_eq_true, List.all_eq_true]
  constructor
  · rintro ⟨h1, h2⟩ i hi
    unfold goodAt
    rw [List.getElem?_eq_getElem hi]
    simp only [Bool.and_eq_true]
    refine ⟨h1 _ (List.getElem_mem _), ?_⟩
    cases i with
    | zero => rfl
    | succ j =>
      have hj : j < xs.length := by omega
      simp only [List.getElem?_eq_getElem hj]
      refine h2 (xs[j], xs[j + 1]) ?_
      rw [List.mem_iff_getElem]
      refine ⟨j, by simp; omega, ?_⟩
      simp
  · intro h
    refine ⟨fun x hx => ?_, fun p hp => ?_⟩
    · obtain ⟨i, hi, rfl⟩ := List.mem_iff_getElem.1 hx
      have := h i hi
      unfold goodAt at this
      rw [List.getElem?_eq_getElem hi] at this
      simp only [Bool.and_eq_true] at this
      exact this.1
    · obtain ⟨j, hj, rfl⟩ := List.mem_iff_getElem.1 hp
      simp at hj
      have := h (j + 1) (by omega)
      unfold goodAt at this
      rw [List.getElem?_eq_getElem (show j + 1 < xs.length by omega)] at this
      simp only [Bool.and_eq_true, List.getElem?_eq_getElem (show j < xs.length by omega)] at this
      simpa using this.2
theorem goodAt_0 {α : Type} (good : α → Bool) (link : α → α → Bool) (xs : List α) {i : Nat} (h : i < xs.length) (h0 : i = 0) : goodAt good link xs i = good xs[i] := by
  subst h0
  simp [goodAt, h]
theorem goodAt_s {α : Type} (good : α → Bool) (link : α → α → Bool) (xs : List α) {i : Nat} (h : i < xs.length) (h0 : 0 < i) : goodAt good link xs i = (good xs[i] && link (xs[i - 1]'(by omega)) xs[i]) := by
  obtain ⟨j, rfl⟩ : ∃ j, i = j + 1 := ⟨i - 1, by omega⟩
  have hj : j < xs.length := by omega
  simp [goodAt, h, hj]
theorem goodAt_no {α : Type} (good : α → Bool) (link : α → α → Bool) (xs : List α) {i : Nat} (h : i < xs.length) (hg : good xs[i] = false) : goodAt good link xs i = false := by
  simp [goodAt, h, hg]
theorem p_FieldsOk : Plain Try.prog 64 := ⟨_, Try.func64, rfl, by decide⟩
def prGood (x : Pr) : Bool := decide (x.k.size ≤ 40) && decide (x.v.size ≤ 40)
def prLink (x y : Pr) : Bool := bytesLt x.k y.k
def fieldsOkM (xs : List Pr) : Bool := allAt prGood prLink xs && decide (xs.length ≤ 16)
theorem s_FieldsOk (xs : List Pr) (hx : xs.length < 4611686018427387904) : Spec Try.prog 64 [.t (.list false 2 (xs.map Pr.row))] (fun r => r = Bo (fieldsOkM xs)) := by
  refine Spec.of tysOk mixed Try.func64 rfl (by decide) ?_
  simp -implicitDefEqProofs only [go_sem, Try.f64]
  refine LoopW.slots (α := Nat) (fun i => [(7, I i)]) (fun _ => []) (fun i => xs.length - i) (fun i => i ≤ xs.length ∧ ∀ j, j < i → goodAt prGood prLink xs j = true) 0 rfl rfl (by simp) ?_
  rintro i ⟨hi, hz⟩
  simp -implicitDefEqProofs only [go_sem]
  refine BrA_i (fun h => ?_) (fun h => ?_)
  · have h : i < xs.length := by simp at h; omega
    have hw1 : IntKind.i64.wrap ((i : Int) + 1) = ((i + 1 : Nat) : Int) := by rw [wrap64 (by omega) (by omega)]; omega
    have hp : 0 < i → IntKind.i64.wrap ((i : Int) - 1) = ((i - 1 : Nat) : Int) := fun h0 => by rw [wrap64 (by omega) (by omega)]; omega
    have bad : goodAt prGood prLink xs i = false → AV.t (T.bool false) = Bo (fieldsOkM xs) := fun hg => by
      have : allAt prGood prLink xs = false := by
        cases ha : allAt prGood prLink xs
        · rfl
        · rw [(allAt_iff _ _ _).1 ha i h] at hg; cases hg
      simp [fieldsOkM, this]
    simp -implicitDefEqProofs only [go_sem, row_getD _ _ h, Pr.row]
    refine ⟨⟨by omega, by omega⟩, ?_⟩
    refine RegD_of sch_64_4 tysOk (by kernel_rfl) ?_
    simp -implicitDefEqProofs only [go_sem]
    refine BrA_i (fun h1 => ?_) (fun h1 => ?_) <;> simp -implicitDefEqProofs only [go_sem]
    · exact bad (goodAt_no _ _ _ h (by simp at h1; simp [prGood]; omega))
    refine BrA_i (fun h2 => ?_) (fun h2 => ?_) <;> simp -implicitDefEqProofs only [go_sem]
    · exact bad (goodAt_no _ _ _ h (by simp at h2; simp [prGood]; omega))
    have hg : prGood xs[i] = true := by simp at h1 h2; simp [prGood]; omega
    refine BrA_i (fun h3 => ?_) (fun h3 => ?_) <;> simp -implicitDefEqProofs only [go_sem]
    · have h3 : 0 < i := by simpa using h3
      have hq : i - 1 < xs.length := by omega
      simp -implicitDefEqProofs only [go_sem, hp h3, row_getD _ _ hq, Pr.row]
      refine ⟨⟨by omega, by omega⟩, ?_⟩
      refine BrA_i (fun h4 => ?_) (fun h4 => ?_) <;> simp -implicitDefEqProofs only [go_sem]
      · refine .to [32] (i + 1) rfl ?_ ?_ (by omega) ⟨h, fun j hj => ?_⟩ <;> (try simp -implicitDefEqProofs only [go_sem, LeTs_undef, LeTs_same, LeTs_nil, hw1])
        rcases Nat.lt_succ_iff_lt_or_eq.1 hj with hl | rfl
        · exact hz j hl
        · rw [goodAt_s _ _ _ h h3, hg]; simpa [prLink] using h4
      · exact bad (by rw [goodAt_s _ _ _ h h3]; simp [prLink, h4])
    · have h3 : i = 0 := by simp at h3; omega
      refine .to [32] (i + 1) rfl ?_ ?_ (by omega) ⟨h, fun j hj => ?_⟩ <;> (try simp -implicitDefEqProofs only [go_sem, LeTs_undef, LeTs_same, LeTs_nil, hw1])
      rcases Nat.lt_succ_iff_lt_or_eq.1 hj with hl | rfl
      · exact hz j hl
      · rw [goodAt_0 _ _ _ h h3, hg]
  · simp -implicitDefEqProofs only [go_sem]
    have h : i = xs.length := by simp at h; omega
    subst h
    have : allAt prGood prLink xs = true := (allAt_iff _ _ _).2 hz
    simp [fieldsOkM, this]
    omega
theorem p_sFieldsOk : Plain Try.prog 34 := ⟨_, Try.func34, rfl, by decide⟩
theorem s_sFieldsOk (xs : List Pr) (hx : xs.length < 4611686018427387904) : Spec Try.prog 34 [.t (.list false 2 (xs.map Pr.row))] (fun r => r = Bo (fieldsOkM xs)) := by
  refine Spec.of tysOk mixed Try.func34 rfl (by decide) ?_
  simp -implicitDefEqProofs only [go_sem, Try.f34]
  refine LoopW.slots (α := Nat) (fun i => [(3, I i)]) (fun _ => []) (fun i => xs.length - i) (fun i => i ≤ xs.length ∧ ∀ j, j < i → goodAt prGood prLink xs j = true) 0 rfl rfl (by simp) ?_
  rintro i ⟨hi, hz⟩
  simp -implicitDefEqProofs only [go_sem]
  refine BrA_i (fun h => ?_) (fun h => ?_)
  · have h : i < xs.length := by simp at h; omega
    have hw1 : IntKind.i64.wrap ((i : Int) + 1) = ((i + 1 : Nat) : Int) := by rw [wrap64 (by omega) (by omega)]; omega
    have hp : 0 < i → IntKind.i64.wrap ((i : Int) - 1) = ((i - 1 : Nat) : Int) := fun h0 => by rw [wrap64 (by omega) (by omega)]; omega
    have bad : goodAt prGood prLink xs i = false → AV.t (T.bool false) = Bo (fieldsOkM xs) := fun hg => by
      have : allAt prGood prLink xs = false := by
        cases ha : allAt prGood prLink xs
        · rfl
        · rw [(allAt_iff _ _ _).1 ha i h] at hg; cases hg
      simp [fieldsOkM, this]
    simp -implicitDefEqProofs only [go_sem]
    refine RegD_of sch_34_4 tysOk (by kernel_rfl) ?_
    simp -implicitDefEqProofs only [go_sem, row_getD _ _ h, Pr.row]
    refine ⟨⟨by omega, by omega⟩, ?_⟩
    refine BrA_i (fun h1 => ?_) (fun h1 => ?_) <;> simp -implicitDefEqProofs only [go_sem]
    · exact bad (goodAt_no _ _ _ h (by simp at h1; simp [prGood]; omega))
    simp -implicitDefEqProofs only [go_sem, row_getD _ _ h, Pr.row]
    refine ⟨⟨by omega, by omega⟩, ?_⟩
    refine BrA_i (fun h2 => ?_) (fun h2 => ?_) <;> simp -implicitDefEqProofs only [go_sem]
    · exact bad (goodAt_no _ _ _ h (by simp at h2; simp [prGood]; omega))
    have hg : prGood xs[i] = true := by simp at h1 h2; simp [prGood]; omega
    refine BrA_i (fun h3 => ?_) (fun h3 => ?_) <;> simp -implicitDefEqProofs only [go_sem]
    · have h3 : 0 < i := by simpa using h3
      have hq : i - 1 < xs.length := by omega
      simp -implicitDefEqProofs only [go_sem, hp h3, row_getD _ _ hq, Pr.row]
      refine ⟨⟨by omega, by omega⟩, ?_⟩
      simp -implicitDefEqProofs only [go_sem, row_getD _ _ h, Pr.row]
      refine ⟨⟨by omega, by omega⟩, ?_⟩
      refine BrA_i (fun h4 => ?_) (fun h4 => ?_) <;> simp -implicitDefEqProofs only [go_sem]
      · refine .to [] (i + 1) rfl ?_ ?_ (by omega) ⟨h, fun j hj => ?_⟩ <;> (try simp -implicitDefEqProofs only [go_sem, LeTs_undef, LeTs_same, LeTs_nil, hw1])
        rcases Nat.lt_succ_iff_lt_or_eq.1 hj with hl | rfl
        · exact hz j hl
        · rw [goodAt_s _ _ _ h h3, hg]; simpa [prLink] using h4
      · exact bad (by rw [goodAt_s _ _ _ h h3]; simp [prLink, h4])
    · have h3 : i = 0 := by simp at h3; omega
      refine .to [] (i + 1) rfl ?_ ?_ (by omega) ⟨h, fun j hj => ?_⟩ <;> (try simp -implicitDefEqProofs only [go_sem, LeTs_undef, LeTs_same, LeTs_nil, hw1])
      rcases Nat.lt_succ_iff_lt_or_eq.1 hj with hl | rfl
      · exact hz j hl
      · rw [goodAt_0 _ _ _ h h3, hg]
  · simp -implicitDefEqProofs only [go_sem]
    have h : i = xs.length := by simp at h; omega
    subst h
    have : allAt prGood prLink xs = true := (allAt_iff _ _ _).2 hz
    simp [fieldsOkM, this]
    omega
end Go.Proofs.Ytofiljboaegekac.Am
namespace Go.Proofs.Ytofiljboaegekac.Am
open Go
set_option maxRecDepth 100000
set_option linter.unusedSimpArgs false
set_option linter.unusedVariables false
theorem p_fieldsFull : Plain Try.prog 42 := ⟨_, Try.func42, rfl, by decide⟩
def fieldsFullM (xs : List Pr) : Bool := decide (0 < xs.length) && fieldsOkM xs
theorem s_fieldsFull (xs : List Pr) (hx : xs.length < 4611686018427387904) : Spec Try.prog 42 [.t (.list false 2 (xs.map Pr.row))] (fun r => r = Bo (fieldsFullM xs)) := by
  refine Spec.of tysOk mixed Try.func42 rfl (by decide) ?_
  simp -implicitDefEqProofs only [go_sem, Try.f42]
  refine BrA_i (fun h => ?_) (fun h => ?_) <;> simp -implicitDefEqProofs only [go_sem]
  · refine .one (s_FieldsOk xs hx) p_FieldsOk (by simp -implicitDefEqProofs only [go_sem]) trivial ?_
    simp -implicitDefEqProofs only [go_sem]
    have : 0 < xs.length := by simpa using h
    simp [fieldsFullM, this]
  · have : ¬ 0 < xs.length := by simpa using h
    simp [fieldsFullM, this]
def ltM (a b : Idt) : Bool := decide (ordM a.t a.n b.t b.n < 0)
def idM (a : Idt) : Bool := idOkM a.t a.n
def wtGood (last : Idt) (x : Wt) : Bool := idM x.id && !ltM last x.id && keyOkM x.who && withinM x.at' 0 1000000 && withinM x.tm 1 1000000000
def wtLink (x y : Wt) : Bool := ltM x.id y.id
def grOkM (g : Gr) : Bool := keyOkM g.name && idM g.last && decide (g.waits.length ≤ 16) && allAt (wtGood g.last) wtLink g.waits
def itGood (last : Idt) (x : It) : Bool := idM x.id && !ltM last x.id && fieldsFullM x.fields
def itLink (x y : It) : Bool := ltM x.id y.id
def grGood (last : Idt) (g : Gr) : Bool := grOkM g && !ltM last g.last
def grLink (x y : Gr) : Bool := bytesLt x.name y.name
def streamOkM (s : Stm) : Bool := idM s.last && decide (s.items.length ≤ 16) && decide (s.groups.length ≤ 3) && allAt (itGood s.last) itLink s.items && allAt (grGood s.last) grLink s.groups
theorem okAt_good (last : Idt) (ws : List Wt) (i : Nat) (h : i < ws.length) : okAt last.t last.n ws i ws[i] = goodAt (wtGood last) wtLink ws i := by
  rcases Nat.eq_zero_or_pos i with h0 | h0
  · rw [goodAt_0 _ _ _ h h0]
    subst h0
    simp [okAt, wtGood, idM, ltM]
  · rw [goodAt_s _ _ _ h h0]
    obtain ⟨j, rfl⟩ : ∃ j, i = j + 1 := ⟨i - 1, by omega⟩
    have hj : j < ws.length := by omega
    simp only [okAt, List.getElem?_eq_getElem hj, wtGood, wtLink, idM, ltM, Nat.add_sub_cancel]
    generalize idOkM _ _ = a
    generalize decide (ordM ws[j].id.t _ _ _ < 0) = b
    generalize decide (ordM last.t last.n _ _ < 0) = c
    generalize keyOkM _ = d
    generalize withinM _ 0 _ = e
    generalize withinM _ 1 _ = f
    cases a <;> cases b <;> cases c <;> cases d <;> cases e <;> cases f <;> rfl
theorem s_grOk (g : Gr) (h : g.waits.length < 2000000) : Spec Try.prog 43 [g.av] (fun r => r = Bo (grOkM g)) :=
  (s_groupOk g.name g.last.t g.last.n g.waits h).weaken fun r ⟨b, hr, hb⟩ => by
    rw [hr, hb]
    have : decide (∀ i (h : i < g.waits.length), okAt g.last.t g.last.n g.waits i g.waits[i] = true) = allAt (wtGood g.last) wtLink g.waits := by
      rw [Bool.eq_iff_iff, decide_eq_true_eq, allAt_iff]
      exact forall_congr' fun i => forall_congr' fun hi => by rw [okAt_good _ _ _ hi]
    rw [this]
    unfold grOkM idM
    cases allAt (wtGood g.last) wtLink g.waits <;> cases keyOkM g.name <;> cases idOkM g.last.t g.last.n <;> cases decide (g.waits.length ≤ 16) <;> rfl
end Go.Proofs.Ytofiljboaegekac.Am
namespace Go.Proofs.Ytofiljboaegekac.Am
open Go
set_option maxRecDepth 100000
set_option linter.unusedSimpArgs false
set_option linter.unusedVariables false
theorem p_grOk : Plain Try.prog 43 := ⟨_, Try.func43, rfl, by decide⟩
theorem p_StreamOk : Plain Try.prog 18 := ⟨_, Try.func18, rfl, by decide⟩
theorem s_StreamOk (s : Stm) (hs : s.sm) (hw : ∀ g ∈ s.groups, g.waits.length < 2000000) : Spec Try.prog 18 [s.av] (fun r => r = Bo (streamOkM s)) := by
  obtain ⟨hs1, hs2, hs3, hs4⟩ := hs
  refine Spec.of tysOk mixed Try.func18 rfl (by decide) ?_
  simp -implicitDefEqProofs only [go_sem, Try.f18]
  refine .one (s_idOk s.last.t s.last.n) p_idOk (by simp -implicitDefEqProofs only [go_sem]) trivial ?_
  simp -implicitDefEqProofs only [go_sem]
  refine BrA_i (fun h1 => ?_) (fun h1 => ?_) <;> simp -implicitDefEqProofs only [go_sem]
  · refine BrA_i (fun h2 => ?_) (fun h2 => ?_) <;> simp -implicitDefEqProofs only [go_sem]
    · have : ¬ s.items.length ≤ 16 := by simp at h2; omega
      simp [streamOkM, this]
    refine BrA_i (fun h3 => ?_) (fun h3 => ?_) <;> simp -implicitDefEqProofs only [go_sem]
    · have : ¬ s.groups.length ≤ 3 := by simp at h3; omega
      simp [streamOkM, this]
    have bad1 : allAt (itGood s.last) itLink s.items = false → AV.t (T.bool false) = Bo (streamOkM s) := fun h => by simp [streamOkM, h]
    have bad2 : allAt (grGood s.last) grLink s.groups = false → AV.t (T.bool false) = Bo (streamOkM s) := fun h => by simp [streamOkM, h]
    refine LoopW.slots (α := Nat) (fun i => [(26, I i)]) (fun _ => []) (fun i => s.items.length - i) (fun i => i ≤ s.items.length ∧ ∀ j, j < i → goodAt (itGood s.last) itLink s.items j = true) 0 rfl rfl (by simp) ?_
    rintro i ⟨hi, hz⟩
    simp -implicitDefEqProofs only [go_sem]
    refine BrA_i (fun h => ?_) (fun h => ?_)
    · have h : i < s.items.length := by simp at h; omega
      have hw1 : IntKind.i64.wrap ((i : Int) + 1) = ((i + 1 : Nat) : Int) := by rw [wrap64 (by omega) (by omega)]; omega
      have hp : 0 < i → IntKind.i64.wrap ((i : Int) - 1) = ((i - 1 : Nat) : Int) := fun h0 => by rw [wrap64 (by omega) (by omega)]; omega
      have bad : goodAt (itGood s.last) itLink s.items i = false → AV.t (T.bool false) = Bo (streamOkM s) := fun hg => bad1 (by
        cases ha : allAt (itGood s.last) itLink s.items
        · rfl
        · rw [(allAt_iff _ _ _).1 ha i h] at hg; cases hg)
      simp -implicitDefEqProofs only [go_sem, row_getD _ _ h, It.row]
      refine ⟨⟨by omega, by omega⟩, ?_⟩
      refine RegD_of sch_18_6 tysOk (by kernel_rfl) ?_
      simp -implicitDefEqProofs only [go_sem]
      refine .one (s_idOk s.items[i].id.t s.items[i].id.n) p_idOk (by simp -implicitDefEqProofs only [go_sem]) trivial ?_
      simp -implicitDefEqProofs only [go_sem]
      refine BrA_i (fun g1 => ?_) (fun g1 => ?_) <;> simp -implicitDefEqProofs only [go_sem]
      · refine BrA_i (fun g2 => ?_) (fun g2 => ?_) <;> simp -implicitDefEqProofs only [go_sem]
        · have g2 : 0 < i := by simpa using g2
          have hq : i - 1 < s.items.length := by omega
          simp -implicitDefEqProofs only [go_sem, hp g2, row_getD _ _ hq, It.row]
          refine ⟨⟨by omega, by omega⟩, ?_⟩
          refine .one (s_idOrder (s.items[i - 1]'hq).id.t (s.items[i - 1]'hq).id.n s.items[i].id.t s.items[i].id.n) p_idOrder (by simp -implicitDefEqProofs only [go_sem]) trivial ?_
          simp -implicitDefEqProofs only [go_sem]
          refine BrA_i (fun g3 => ?_) (fun g3 => ?_) <;> simp -implicitDefEqProofs only [go_sem]
          · exact bad (by
              rw [goodAt_s _ _ _ h g2]
              have : itLink (s.items[i - 1]'hq) s.items[i] = false := by simp [itLink, ltM]; simpa using g3
              simp [this])
          have hl : itLink (s.items[i - 1]'hq) s.items[i] = true := by simp [itLink, ltM]; simpa using g3
          refine .one (s_IdLess s.last.t s.last.n s.items[i].id.t s.items[i].id.n) p_IdLess (by simp -implicitDefEqProofs only [go_sem]) trivial ?_
          simp -implicitDefEqProofs only [go_sem]
          refine BrA_i (fun g4 => ?_) (fun g4 => ?_) <;> simp -implicitDefEqProofs only [go_sem]
          · exact bad (goodAt_no _ _ _ h (by simp [itGood, ltM, g4]))
          refine .one (s_fieldsFull s.items[i].fields (hs3 _ (List.getElem_mem _))) p_fieldsFull (by simp -implicitDefEqProofs only [go_sem]) trivial ?_
          simp -implicitDefEqProofs only [go_sem]
          refine BrA_i (fun g5 => ?_) (fun g5 => ?_) <;> simp -implicitDefEqProofs only [go_sem]
          · have hgood : itGood s.last s.items[i] = true := by simp [itGood, idM, ltM, g1, g4, g5]
            refine .to [32] (i + 1) rfl ?_ ?_ (by omega) ⟨h, fun j hj => ?_⟩ <;> (try simp -implicitDefEqProofs only [go_sem, LeTs_undef, LeTs_same, LeTs_nil, hw1])
            rcases Nat.lt_succ_iff_lt_or_eq.1 hj with hlt | rfl
            · exact hz j hlt
            · rw [goodAt_s _ _ _ h g2, hgood, hl]; rfl
          · exact bad (goodAt_no _ _ _ h (by simp [itGood, g5]))
        · have g2 : i = 0 := by simp at g2; omega
          refine .one (s_IdLess s.last.t s.last.n s.items[i].id.t s.items[i].id.n) p_IdLess (by simp -implicitDefEqProofs only [go_sem]) trivial ?_
          simp -implicitDefEqProofs only [go_sem]
          refine BrA_i (fun g4 => ?_) (fun g4 => ?_) <;> simp -implicitDefEqProofs only [go_sem]
          · exact bad (goodAt_no _ _ _ h (by simp [itGood, ltM, g4]))
          refine .one (s_fieldsFull s.items[i].fields (hs3 _ (List.getElem_mem _))) p_fieldsFull (by simp -implicitDefEqProofs only [go_sem]) trivial ?_
          simp -implicitDefEqProofs only [go_sem]
          refine BrA_i (fun g5 => ?_) (fun g5 => ?_) <;> simp -implicitDefEqProofs only [go_sem]
          · have hgood : itGood s.last s.items[i] = true := by simp [itGood, idM, ltM, g1, g4, g5]
            refine .to [32] (i + 1) rfl ?_ ?_ (by omega) ⟨h, fun j hj => ?_⟩ <;> (try simp -implicitDefEqProofs only [go_sem, LeTs_undef, LeTs_same, LeTs_nil, hw1])
            rcases Nat.lt_succ_iff_lt_or_eq.1 hj with hlt | rfl
            · exact hz j hlt
            · rw [goodAt_0 _ _ _ h g2, hgood]
          · exact bad (goodAt_no _ _ _ h (by simp [itGood, g5]))
      · exact bad (goodAt_no _ _ _ h (by simp [itGood, idM, g1]))
    · simp -implicitDefEqProofs only [go_sem]
      have hall : allAt (itGood s.last) itLink s.items = true := (allAt_iff _ _ _).2 fun j hj => hz j (by simp at h; omega)
      clear hz hi h
      refine LoopW.slots (α := Nat) (fun i => [(69, I i)]) (fun _ => []) (fun i => s.groups.length - i) (fun i => i ≤ s.groups.length ∧ ∀ j, j < i → goodAt (grGood s.last) grLink s.groups j = true) 0 rfl rfl (by simp) ?_
      rintro i ⟨hi, hz⟩
      simp -implicitDefEqProofs only [go_sem]
      refine BrA_i (fun h => ?_) (fun h => ?_)
      · have h : i < s.groups.length := by simp at h; omega
        have hw1 : IntKind.i64.wrap ((i : Int) + 1) = ((i + 1 : Nat) : Int) := by rw [wrap64 (by omega) (by omega)]; omega
        have hp : 0 < i → IntKind.i64.wrap ((i : Int) - 1) = ((i - 1 : Nat) : Int) := fun h0 => by rw [wrap64 (by omega) (by omega)]; omega
        have bad : goodAt (grGood s.last) grLink s.groups i = false → AV.t (T.bool false) = Bo (streamOkM s) := fun hg => bad2 (by
          cases ha : allAt (grGood s.last) grLink s.groups
          · rfl
          · rw [(allAt_iff _ _ _).1 ha i h] at hg; cases hg)
        simp -implicitDefEqProofs only [go_sem, row_getD _ _ h, Gr.row]
        refine ⟨⟨by omega, by omega⟩, ?_⟩
        refine RegD_of sch_18_12 tysOk (by kernel_rfl) ?_
        simp -implicitDefEqProofs only [go_sem]
        refine .one (s_grOk s.groups[i] (hw _ (List.getElem_mem _))) p_grOk (by simp -implicitDefEqProofs only [go_sem]) trivial ?_
        simp -implicitDefEqProofs only [go_sem]
        refine BrA_i (fun g1 => ?_) (fun g1 => ?_) <;> simp -implicitDefEqProofs only [go_sem]
        · refine BrA_i (fun g2 => ?_) (fun g2 => ?_) <;> simp -implicitDefEqProofs only [go_sem]
          · have g2 : 0 < i := by simpa using g2
            have hq : i - 1 < s.groups.length := by omega
            simp -implicitDefEqProofs only [go_sem, hp g2, row_getD _ _ hq, Gr.row]
            refine ⟨⟨by omega, by omega⟩, ?_⟩
            refine BrA_i (fun g3 => ?_) (fun g3 => ?_) <;> simp -implicitDefEqProofs only [go_sem]
            · have hl : grLink (s.groups[i - 1]'hq) s.groups[i] = true := g3
              refine .one (s_IdLess s.last.t s.last.n s.groups[i].last.t s.groups[i].last.n) p_IdLess (by simp -implicitDefEqProofs only [go_sem]) trivial ?_
              simp -implicitDefEqProofs only [go_sem]
              refine BrA_i (fun g4 => ?_) (fun g4 => ?_) <;> simp -implicitDefEqProofs only [go_sem]
              · exact bad (goodAt_no _ _ _ h (by simp [grGood, ltM, g4]))
              · have hgood : grGood s.last s.groups[i] = true := by simp [grGood, ltM, g1, g4]
                refine .to [48] (i + 1) rfl ?_ ?_ (by omega) ⟨h, fun j hj => ?_⟩ <;> (try simp -implicitDefEqProofs only [go_sem, LeTs_undef, LeTs_same, LeTs_nil, hw1])
                rcases Nat.lt_succ_iff_lt_or_eq.1 hj with hlt | rfl
                · exact hz j hlt
                · rw [goodAt_s _ _ _ h g2, hgood, hl]; rfl
            · exact bad (by
                rw [goodAt_s _ _ _ h g2]
                have : grLink (s.groups[i - 1]'hq) s.groups[i] = false := g3
                simp [this])
          · have g2 : i = 0 := by simp at g2; omega
            refine .one (s_IdLess s.last.t s.last.n s.groups[i].last.t s.groups[i].last.n) p_IdLess (by simp -implicitDefEqProofs only [go_sem]) trivial ?_
            simp -implicitDefEqProofs only [go_sem]
            refine BrA_i (fun g4 => ?_) (fun g4 => ?_) <;> simp -implicitDefEqProofs only [go_sem]
            · exact bad (goodAt_no _ _ _ h (by simp [grGood, ltM, g4]))
            · have hgood : grGood s.last s.groups[i] = true := by simp [grGood, ltM, g1, g4]
              refine .to [48] (i + 1) rfl ?_ ?_ (by omega) ⟨h, fun j hj => ?_⟩ <;> (try simp -implicitDefEqProofs only [go_sem, LeTs_undef, LeTs_same, LeTs_nil, hw1])
              rcases Nat.lt_succ_iff_lt_or_eq.1 hj with hlt | rfl
              · exact hz j hlt
              · rw [goodAt_0 _ _ _ h g2, hgood]
        · exact bad (goodAt_no _ _ _ h (by simp [grGood, g1]))
      · simp -implicitDefEqProofs only [go_sem]
        have hall2 : allAt (grGood s.last) grLink s.groups = true := (allAt_iff _ _ _).2 fun j hj => hz j (by simp at h; omega)
        simp at h2 h3
        have e2 : s.items.length ≤ 16 := by omega
        have e3 : s.groups.length ≤ 3 := by omega
        simp [streamOkM, idM, h1, e2, e3, hall, hall2]
  · simp [streamOkM, idM, h1]
end Go.Proofs.Ytofiljboaegekac.Am
namespace Go.Proofs.Ytofiljboaegekac.Am
open Go
set_option maxRecDepth 100000
set_option linter.unusedSimpArgs false
set_option linter.unusedVariables false
abbrev Idt.z : Idt := ⟨0, 0⟩
abbrev Stm.z : Stm := ⟨⟨0, 0⟩, [], []⟩
theorem Stm.md.sm {s : Stm} (h : s.md) : s.sm ∧ ∀ g ∈ s.groups, g.waits.length < 2000000 → True := ⟨⟨by have := h.1; omega, by have := h.2.1; omega, fun i hi => by have := h.2.2.1 i hi; unfold It.sm; omega, fun g hg => by have := h.2.2.2 g hg; unfold Gr.sm; omega⟩, fun _ _ _ => trivial⟩
theorem streamOkM_len {s : Stm} (h : streamOkM s = true) : s.items.length ≤ 16 ∧ s.groups.length ≤ 3 := by
  simp only [streamOkM, Bool.and_eq_true, decide_eq_true_eq] at h
  omega
end Go.Proofs.Ytofiljboaegekac.Am
namespace Go.Proofs.Ytofiljboaegekac.Am
open Go
set_option maxRecDepth 100000
set_option maxHeartbeats 400000
set_option linter.unusedSimpArgs false
set_option linter.unusedVariables false
theorem allAt_no {α : Type} {good : α → Bool} {link : α → α → Bool} {xs : List α} {i : Nat} (h : i < xs.length) (hg : goodAt good link xs i = false) : allAt good link xs = false := by
  cases ha : allAt good link xs
  · rfl
  · rw [(allAt_iff _ _ _).1 ha i h] at hg; cases hg
theorem good_step {α : Type} {good : α → Bool} {link : α → α → Bool} {xs : List α} {i : Nat} (hz : ∀ j, j < i → goodAt good link xs j = true) (hg : goodAt good link xs i = true) : ∀ j, j < i + 1 → goodAt good link xs j = true := fun j hj => by
  rcases Nat.lt_succ_iff_lt_or_eq.1 hj with hl | rfl
  · exact hz j hl
  · exact hg
theorem p_l9Group : Plain Try.prog 35 := ⟨_, Try.func35, rfl, by decide⟩
theorem s_l9Group (s : Stm) (g : Gr) (hw : g.waits.length < 2000000) : Spec Try.prog 35 [s.av, g.av] (fun r => r = Bo (grGood s.last g)) := by
  refine Spec.of tysOk mixed Try.func35 rfl (by decide) ?_
  simp -implicitDefEqProofs only [go_sem, Try.f35]
  refine LoopW.slotsM [false, false, true, true, false, true, false, false, false, false, false, false, false, false, false, false, false, false, false, false, false, false, false, false, false, false, false, false, false, false, false, false, false, false, false, false, false, false, false, false, false, false, false, false, false, false, false, false, false, false, false, false, false, false, false, false, false, false, false, false, false, false, false, false, false, false, false, false, false, false, false, false, false, false, false, false, false, false, false, false, false, false, false, false, false, false, false] (α := Nat) (fun i => [(5, I i)]) (fun _ => []) (fun i => g.waits.length - i) (fun i => i ≤ g.waits.length ∧ ∀ j, j < i → goodAt (wtGood g.last) wtLink g.waits j = true) 0 (by simp -implicitDefEqProofs only [go_sem, LeTs_undef, LeTs_same, LeTs_nil]; try simp [LeTs]) rfl (by simp) ?_
  rintro i ⟨hi, hz⟩
  simp -implicitDefEqProofs only [go_sem]
  refine BrA_i (fun h => ?_) (fun h => ?_) <;> simp -implicitDefEqProofs only [go_sem]
  · have bad : ∀ (hl : i < g.waits.length), goodAt (wtGood g.last) wtLink g.waits i = false → AV.t (T.bool false) = Bo (grGood s.last g) := fun hl hg => by
      have := allAt_no hl hg
      simp [grGood, grOkM, this]
    have h : i < g.waits.length := by simp at h; omega
    have h0i : (0 : Int) ≤ i := by omega
    have h1i : (i : Int) < g.waits.length := by omega
    have wi : IntKind.i64.wrap ((i : Int) + 1) = ((i + 1 : Nat) : Int) := by rw [wrap64 (by omega) (by omega)]; omega
    rcases Nat.eq_zero_or_pos i with h0 | h0
    · have hp : ((i : Int) > 0) = False := by simp; omega
      have hG := goodAt_0 (wtGood g.last) wtLink g.waits h h0
      simp -implicitDefEqProofs only [go_sem, h, h0i, h1i, row_getD _ _ h, Wt.row]
      refine RegD_of sch_35_5 tysOk (by kernel_rfl) ?_
      simp -implicitDefEqProofs only [go_sem, hp]
      (repeat' (first   | (refine CallW.one (s_l9Id _ _) p_l9Id (by first | (simp -implicitDefEqProofs only [go_sem]; done) | ((conv => lhs; simp -implicitDefEqProofs only [go_sem]); done) | (simp -implicitDefEqProofs only [go_sem]; rfl) | rfl) (by first | trivial | (simp [DeepR, DeepV, DeepVs, DeepC, DeepCs, T.scal]; done)) ?_; try simp -implicitDefEqProofs only [go_sem, hp])   | (refine CallW.one (s_sIdLess _ _ _ _) p_sIdLess (by first | (simp -implicitDefEqProofs only [go_sem]; done) | ((conv => lhs; simp -implicitDefEqProofs only [go_sem]); done) | (simp -implicitDefEqProofs only [go_sem]; rfl) | rfl) (by first | trivial | (simp [DeepR, DeepV, DeepVs, DeepC, DeepCs, T.scal]; done)) ?_; try simp -implicitDefEqProofs only [go_sem, hp])   | (refine CallW.one (s_l4Key _) p_l4Key (by first | (simp -implicitDefEqProofs only [go_sem]; done) | ((conv => lhs; simp -implicitDefEqProofs only [go_sem]); done) | (simp -implicitDefEqProofs only [go_sem]; rfl) | rfl) (by first | trivial | (simp [DeepR, DeepV, DeepVs, DeepC, DeepCs, T.scal]; done)) ?_; try simp -implicitDefEqProofs only [go_sem, hp])   | (refine CallW.one (s_l1In _ _ _) p_l1In (by first | (simp -implicitDefEqProofs only [go_sem]; done) | ((conv => lhs; simp -implicitDefEqProofs only [go_sem]); done) | (simp -implicitDefEqProofs only [go_sem]; rfl) | rfl) (by first | trivial | (simp [DeepR, DeepV, DeepVs, DeepC, DeepCs, T.scal]; done)) ?_; try simp -implicitDefEqProofs only [go_sem, hp])   | (refine BrA_i (fun h => ?_) (fun h => ?_) <;> (try simp only [decide_eq_true_eq, decide_eq_false_iff_not, Bool.not_eq_true', Bool.not_eq_false', gt_iff_lt, ge_iff_le] at h) <;> try simp -implicitDefEqProofs only [go_sem, hp])   | (refine And.intro (a := roomy _ _) (by (unfold roomy; (try simp only [List.length_take, List.length_append, List.length_map, List.length_cons, List.length_nil]); omega)) ?_; try simp -implicitDefEqProofs only [go_sem, hp])))
      all_goals first
        | (refine bad (by assumption) ?_; rw [hG]; clear bad hz hG h0 hp hi hw wi; simp_all [-Int.not_lt, -Int.not_le, -Nat.not_lt, -Nat.not_le, wtGood, ltM, idM]; done)
        | (refine .to [48, 169, 170, 171, 225, 226, 227, 265, 266, 267, 313, 314, 315, 361, 362, 363, 489, 490, 491] (i + 1) rfl (by simp -implicitDefEqProofs only [go_sem, LeTs_undef, LeTs_same, LeTs_nil, wi]) (by simp -implicitDefEqProofs only [go_sem]) (by omega) ⟨by assumption, good_step hz ?_⟩; rw [hG]; clear bad hz hG h0 hp hi hw wi; simp_all [-Int.not_lt, -Int.not_le, -Nat.not_lt, -Nat.not_le, wtGood, ltM, idM])
    · have hp : ((i : Int) > 0) = True := by simp; omega
      have hG := goodAt_s (wtGood g.last) wtLink g.waits h h0
      have hq : i - 1 < g.waits.length := by omega
      have wj : IntKind.i64.wrap ((i : Int) - 1) = ((i - 1 : Nat) : Int) := by rw [wrap64 (by omega) (by omega)]; omega
      have h0j : (0 : Int) ≤ ((i - 1 : Nat) : Int) := by omega
      have h1j : ((i - 1 : Nat) : Int) < g.waits.length := by omega
      simp -implicitDefEqProofs only [go_sem, h, h0i, h1i, row_getD _ _ h, Wt.row]
      refine RegD_of sch_35_5 tysOk (by kernel_rfl) ?_
      simp -implicitDefEqProofs only [go_sem, hp]
      (repeat' (first   | (refine CallW.one (s_l9Id _ _) p_l9Id (by first | (simp -implicitDefEqProofs only [go_sem]; done) | ((conv => lhs; simp -implicitDefEqProofs only [go_sem]); done) | (simp -implicitDefEqProofs only [go_sem]; rfl) | rfl) (by first | trivial | (simp [DeepR, DeepV, DeepVs, DeepC, DeepCs, T.scal]; done)) ?_; try simp -implicitDefEqProofs only [go_sem, hp, wj, h0j, h1j, hq, row_getD _ _ hq, Wt.row])   | (refine CallW.one (s_sIdLess _ _ _ _) p_sIdLess (by first | (simp -implicitDefEqProofs only [go_sem]; done) | ((conv => lhs; simp -implicitDefEqProofs only [go_sem]); done) | (simp -implicitDefEqProofs only [go_sem]; rfl) | rfl) (by first | trivial | (simp [DeepR, DeepV, DeepVs, DeepC, DeepCs, T.scal]; done)) ?_; try simp -implicitDefEqProofs only [go_sem, hp, wj, h0j, h1j, hq, row_getD _ _ hq, Wt.row])   | (refine CallW.one (s_l4Key _) p_l4Key (by first | (simp -implicitDefEqProofs only [go_sem]; done) | ((conv => lhs; simp -implicitDefEqProofs only [go_sem]); done) | (simp -implicitDefEqProofs only [go_sem]; rfl) | rfl) (by first | trivial | (simp [DeepR, DeepV, DeepVs, DeepC, DeepCs, T.scal]; done)) ?_; try simp -implicitDefEqProofs only [go_sem, hp, wj, h0j, h1j, hq, row_getD _ _ hq, Wt.row])   | (refine CallW.one (s_l1In _ _ _) p_l1In (by first | (simp -implicitDefEqProofs only [go_sem]; done) | ((conv => lhs; simp -implicitDefEqProofs only [go_sem]); done) | (simp -implicitDefEqProofs only [go_sem]; rfl) | rfl) (by first | trivial | (simp [DeepR, DeepV, DeepVs, DeepC, DeepCs, T.scal]; done)) ?_; try simp -implicitDefEqProofs only [go_sem, hp, wj, h0j, h1j, hq, row_getD _ _ hq, Wt.row])   | (refine BrA_i (fun h => ?_) (fun h => ?_) <;> (try simp only [decide_eq_true_eq, decide_eq_false_iff_not, Bool.not_eq_true', Bool.not_eq_false', gt_iff_lt, ge_iff_le] at h) <;> try simp -implicitDefEqProofs only [go_sem, hp, wj, h0j, h1j, hq, row_getD _ _ hq, Wt.row])   | (refine And.intro (a := roomy _ _) (by (unfold roomy; (try simp only [List.length_take, List.length_append, List.length_map, List.length_cons, List.length_nil]); omega)) ?_; try simp -implicitDefEqProofs only [go_sem, hp, wj, h0j, h1j, hq, row_getD _ _ hq, Wt.row])))
      all_goals first
        | (refine bad (by assumption) ?_; rw [hG]; clear bad hz hG hp hi hw wi wj h0j h1j; simp_all [-Int.not_lt, -Int.not_le, -Nat.not_lt, -Nat.not_le, wtGood, wtLink, ltM, idM]; done)
        | (refine .to [48, 169, 170, 171, 225, 226, 227, 265, 266, 267, 313, 314, 315, 361, 362, 363, 489, 490, 491] (i + 1) rfl (by simp -implicitDefEqProofs only [go_sem, LeTs_undef, LeTs_same, LeTs_nil, wi]) (by simp -implicitDefEqProofs only [go_sem]) (by omega) ⟨by assumption, good_step hz ?_⟩; rw [hG]; clear bad hz hG hp hi hw wi wj h0j h1j; simp_all [-Int.not_lt, -Int.not_le, -Nat.not_lt, -Nat.not_le, wtGood, wtLink, ltM, idM])
  · have h : i = g.waits.length := by simp at h; omega
    subst h
    have hall : allAt (wtGood g.last) wtLink g.waits = true := (allAt_iff _ _ _).2 hz
    (repeat' (first   | (refine CallW.one (s_l4Key _) p_l4Key (by first | (simp -implicitDefEqProofs only [go_sem]; done) | ((conv => lhs; simp -implicitDefEqProofs only [go_sem]); done) | (simp -implicitDefEqProofs only [go_sem]; rfl) | rfl) (by first | trivial | (simp [DeepR, DeepV, DeepVs, DeepC, DeepCs, T.scal]; done)) ?_; try simp -implicitDefEqProofs only [go_sem])   | (refine CallW.one (s_l9Id _ _) p_l9Id (by first | (simp -implicitDefEqProofs only [go_sem]; done) | ((conv => lhs; simp -implicitDefEqProofs only [go_sem]); done) | (simp -implicitDefEqProofs only [go_sem]; rfl) | rfl) (by first | trivial | (simp [DeepR, DeepV, DeepVs, DeepC, DeepCs, T.scal]; done)) ?_; try simp -implicitDefEqProofs only [go_sem])   | (refine CallW.one (s_sIdLess _ _ _ _) p_sIdLess (by first | (simp -implicitDefEqProofs only [go_sem]; done) | ((conv => lhs; simp -implicitDefEqProofs only [go_sem]); done) | (simp -implicitDefEqProofs only [go_sem]; rfl) | rfl) (by first | trivial | (simp [DeepR, DeepV, DeepVs, DeepC, DeepCs, T.scal]; done)) ?_; try simp -implicitDefEqProofs only [go_sem])   | (refine BrA_i (fun h => ?_) (fun h => ?_) <;> (try simp only [decide_eq_true_eq, decide_eq_false_iff_not, Bool.not_eq_true', Bool.not_eq_false', gt_iff_lt, ge_iff_le] at h) <;> try simp -implicitDefEqProofs only [go_sem])   | (refine And.intro (a := roomy _ _) (by (unfold roomy; (try simp only [List.length_take, List.length_append, List.length_map, List.length_cons, List.length_nil]); omega)) ?_; try simp -implicitDefEqProofs only [go_sem])))
    all_goals (clear hz hi; simp_all [-Int.not_lt, -Int.not_le, -Nat.not_lt, -Nat.not_le, grGood, grOkM, idM, ltM])
    all_goals omega
theorem p_sStreamOk : Plain Try.prog 14 := ⟨_, Try.func14, rfl, by decide⟩
theorem s_sStreamOk (s : Stm) (hs : s.sm) (hw : ∀ g ∈ s.groups, g.waits.length < 2000000) : Spec Try.prog 14 [s.av] (fun r => r = Bo (streamOkM s)) := by
  obtain ⟨hs1, hs2, hs3, hs4⟩ := hs
  refine Spec.of tysOk mixed Try.func14 rfl (by decide) ?_
  simp -implicitDefEqProofs only [go_sem, Try.f14]
  refine LoopW.slotsM [false, true, false, true, false, false, false, false, false, false, false, false, false, false, false, false, false, false, false, false, false, false, false, false, false, false, false, false, false, false, false, false, false, false, false, false, false, false, false, false, false, false, false, false, false, false, false, false, false, false, false, false, false, false, false, false, false, false, false, false, false, false, false, false, false, false, false, false, false, false, false, false, false, false, false, false, false, false, false, false, false, false, false, false, false, false, false, false, false, false, false, false, false, false, false, false, false, false, false, false, false, false, false, false, false, false, false, false] (α := Nat) (fun i => [(3, I i)]) (fun _ => []) (fun i => s.items.length - i) (fun i => i ≤ s.items.length ∧ ∀ j, j < i → goodAt (itGood s.last) itLink s.items j = true) 0 (by simp -implicitDefEqProofs only [go_sem, LeTs_undef, LeTs_same, LeTs_nil]; try simp [LeTs]) rfl (by simp) ?_
  rintro i ⟨hi, hz⟩
  simp -implicitDefEqProofs only [go_sem]
  refine BrA_i (fun h => ?_) (fun h => ?_) <;> simp -implicitDefEqProofs only [go_sem]
  · have bad : ∀ (hl : i < s.items.length), goodAt (itGood s.last) itLink s.items i = false → AV.t (T.bool false) = Bo (streamOkM s) := fun hl hg => by
      have := allAt_no hl hg
      simp [streamOkM, this]
    have hfl : ∀ (hl : i < s.items.length), s.items[i].fields.length < 4611686018427387904 := fun hl => hs3 _ (List.getElem_mem hl)
    have h : i < s.items.length := by simp at h; omega
    have h0i : (0 : Int) ≤ i := by omega
    have h1i : (i : Int) < s.items.length := by omega
    have wi : IntKind.i64.wrap ((i : Int) + 1) = ((i + 1 : Nat) : Int) := by rw [wrap64 (by omega) (by omega)]; omega
    have hlt := h
    rcases Nat.eq_zero_or_pos i with h0 | h0
    · have hp : ((i : Int) > 0) = False := by simp; omega
      have hG := goodAt_0 (itGood s.last) itLink s.items h h0
      simp -implicitDefEqProofs only [go_sem, hp, hlt, h0i, h1i, row_getD _ _ hlt, It.row]
      refine RegD_of sch_14_5 tysOk (by kernel_rfl) ?_
      simp -implicitDefEqProofs only [go_sem, hp, hlt, h0i, h1i, row_getD _ _ hlt, It.row]
      (repeat' (first   | (refine CallW.one (s_l9Id _ _) p_l9Id (by first | (simp -implicitDefEqProofs only [go_sem]; done) | ((conv => lhs; simp -implicitDefEqProofs only [go_sem]); done) | (simp -implicitDefEqProofs only [go_sem]; rfl) | rfl) (by first | trivial | (simp [DeepR, DeepV, DeepVs, DeepC, DeepCs, T.scal]; done)) ?_; try simp -implicitDefEqProofs only [go_sem, hp, hlt, h0i, h1i, row_getD _ _ hlt, It.row])   | (refine CallW.one (s_sIdLess _ _ _ _) p_sIdLess (by first | (simp -implicitDefEqProofs only [go_sem]; done) | ((conv => lhs; simp -implicitDefEqProofs only [go_sem]); done) | (simp -implicitDefEqProofs only [go_sem]; rfl) | rfl) (by first | trivial | (simp [DeepR, DeepV, DeepVs, DeepC, DeepCs, T.scal]; done)) ?_; try simp -implicitDefEqProofs only [go_sem, hp, hlt, h0i, h1i, row_getD _ _ hlt, It.row])   | (refine CallW.one (s_sFieldsOk s.items[i].fields (hfl (by assumption))) p_sFieldsOk (by first | (simp -implicitDefEqProofs only [go_sem]; done) | ((conv => lhs; simp -implicitDefEqProofs only [go_sem]); done) | (simp -implicitDefEqProofs only [go_sem]; rfl) | rfl) (by first | trivial | (simp [DeepR, DeepV, DeepVs, DeepC, DeepCs, T.scal]; done)) ?_; try simp -implicitDefEqProofs only [go_sem, hp, hlt, h0i, h1i, row_getD _ _ hlt, It.row])   | (refine BrA_i (fun h => ?_) (fun h => ?_) <;> (try simp only [decide_eq_true_eq, decide_eq_false_iff_not, Bool.not_eq_true', Bool.not_eq_false', gt_iff_lt, ge_iff_le] at h) <;> try simp -implicitDefEqProofs only [go_sem, hp, hlt, h0i, h1i, row_getD _ _ hlt, It.row])   | (refine And.intro (a := roomy _ _) (by (unfold roomy; (try simp only [List.length_take, List.length_append, List.length_map, List.length_cons, List.length_nil]); omega)) ?_; try simp -implicitDefEqProofs only [go_sem, hp, hlt, h0i, h1i, row_getD _ _ hlt, It.row])))
      all_goals first
        | (refine bad (by assumption) ?_; rw [hG]; clear bad hz hG hp hi wi h0 hfl hs1 hs2 hs3 hs4 hw; simp_all [-Int.not_lt, -Int.not_le, -Nat.not_lt, -Nat.not_le, itGood, ltM, idM, fieldsFullM]; done)
        | (refine .to [32, 161, 162, 163, 217, 218, 219, 257, 258, 259, 433, 434, 435] (i + 1) rfl (by simp -implicitDefEqProofs only [go_sem, LeTs_undef, LeTs_same, LeTs_nil, wi]) (by simp -implicitDefEqProofs only [go_sem]) (by omega) ⟨by assumption, good_step hz ?_⟩; rw [hG]; clear bad hz hG hp hi wi h0 hfl hs1 hs2 hs3 hs4 hw; simp_all [-Int.not_lt, -Int.not_le, -Nat.not_lt, -Nat.not_le, itGood, ltM, idM, fieldsFullM] <;> exact List.length_pos_iff.2 (by assumption))
    · have hp : ((i : Int) > 0) = True := by simp; omega
      have hG := goodAt_s (itGood s.last) itLink s.items h h0
      have hq : i - 1 < s.items.length := by omega
      have wj : IntKind.i64.wrap ((i : Int) - 1) = ((i - 1 : Nat) : Int) := by rw [wrap64 (by omega) (by omega)]; omega
      have h0j : (0 : Int) ≤ ((i - 1 : Nat) : Int) := by omega
      have h1j : ((i - 1 : Nat) : Int) < s.items.length := by omega
      simp -implicitDefEqProofs only [go_sem, hp, hlt, h0i, h1i, row_getD _ _ hlt, It.row, wj, h0j, h1j, hq, row_getD _ _ hq]
      refine RegD_of sch_14_5 tysOk (by kernel_rfl) ?_
      simp -implicitDefEqProofs only [go_sem, hp, hlt, h0i, h1i, row_getD _ _ hlt, It.row, wj, h0j, h1j, hq, row_getD _ _ hq]
      (repeat' (first   | (refine CallW.one (s_l9Id _ _) p_l9Id (by first | (simp -implicitDefEqProofs only [go_sem]; done) | ((conv => lhs; simp -implicitDefEqProofs only [go_sem]); done) | (simp -implicitDefEqProofs only [go_sem]; rfl) | rfl) (by first | trivial | (simp [DeepR, DeepV, DeepVs, DeepC, DeepCs, T.scal]; done)) ?_; try simp -implicitDefEqProofs only [go_sem, hp, hlt, h0i, h1i, row_getD _ _ hlt, It.row, wj, h0j, h1j, hq, row_getD _ _ hq])   | (refine CallW.one (s_sIdLess _ _ _ _) p_sIdLess (by first | (simp -implicitDefEqProofs only [go_sem]; done) | ((conv => lhs; simp -implicitDefEqProofs only [go_sem]); done) | (simp -implicitDefEqProofs only [go_sem]; rfl) | rfl) (by first | trivial | (simp [DeepR, DeepV, DeepVs, DeepC, DeepCs, T.scal]; done)) ?_; try simp -implicitDefEqProofs only [go_sem, hp, hlt, h0i, h1i, row_getD _ _ hlt, It.row, wj, h0j, h1j, hq, row_getD _ _ hq])   | (refine CallW.one (s_sFieldsOk s.items[i].fields (hfl (by assumption))) p_sFieldsOk (by first | (simp -implicitDefEqProofs only [go_sem]; done) | ((conv => lhs; simp -implicitDefEqProofs only [go_sem]); done) | (simp -implicitDefEqProofs only [go_sem]; rfl) | rfl) (by first | trivial | (simp [DeepR, DeepV, DeepVs, DeepC, DeepCs, T.scal]; done)) ?_; try simp -implicitDefEqProofs only [go_sem, hp, hlt, h0i, h1i, row_getD _ _ hlt, It.row, wj, h0j, h1j, hq, row_getD _ _ hq])   | (refine BrA_i (fun h => ?_) (fun h => ?_) <;> (try simp only [decide_eq_true_eq, decide_eq_false_iff_not, Bool.not_eq_true', Bool.not_eq_false', gt_iff_lt, ge_iff_le] at h) <;> try simp -implicitDefEqProofs only [go_sem, hp, hlt, h0i, h1i, row_getD _ _ hlt, It.row, wj, h0j, h1j, hq, row_getD _ _ hq])   | (refine And.intro (a := roomy _ _) (by (unfold roomy; (try simp only [List.length_take, List.length_append, List.length_map, List.length_cons, List.length_nil]); omega)) ?_; try simp -implicitDefEqProofs only [go_sem, hp, hlt, h0i, h1i, row_getD _ _ hlt, It.row, wj, h0j, h1j, hq, row_getD _ _ hq])))
      all_goals first
        | (refine bad (by assumption) ?_; rw [hG]; clear bad hz hG hp hi wi wj h0j h1j hfl hs1 hs2 hs3 hs4 hw; simp_all [-Int.not_lt, -Int.not_le, -Nat.not_lt, -Nat.not_le, itGood, ltM, idM, fieldsFullM, itLink]; done)
        | (refine .to [32, 161, 162, 163, 217, 218, 219, 257, 258, 259, 433, 434, 435] (i + 1) rfl (by simp -implicitDefEqProofs only [go_sem, LeTs_undef, LeTs_same, LeTs_nil, wi]) (by simp -implicitDefEqProofs only [go_sem]) (by omega) ⟨by assumption, good_step hz ?_⟩; rw [hG]; clear bad hz hG hp hi wi wj h0j h1j hfl hs1 hs2 hs3 hs4 hw; simp_all [-Int.not_lt, -Int.not_le, -Nat.not_lt, -Nat.not_le, itGood, ltM, idM, fieldsFullM, itLink] <;> exact List.length_pos_iff.2 (by assumption))
  · have h : i = s.items.length := by simp at h; omega
    subst h
    have hall : allAt (itGood s.last) itLink s.items = true := (allAt_iff _ _ _).2 hz
    clear hz hi
    refine LoopW.slotsM [false, true, false, false, false, true, false, false, false, false, false, false, false, false, false, false, false, false, false, false, false, false, false, false, false, false, false, false, false, false, false, false, false, false, false, false, false, false, false, false, false, false, false, false, false, false, false, false, false, false, false, false, false, false, false, false, false, false, false, false, false, false, false, false, false, false, false, false, false, false, false, false, false, false, false, false, false, false, false, false, false, false, false, false, false, false, false, false, false, false, false, false, false, false, false, false, false, false, false, false, false, false, false, false, false, false, false, false] (α := Nat) (fun i => [(5, I i)]) (fun _ => []) (fun i => s.groups.length - i) (fun i => i ≤ s.groups.length ∧ ∀ j, j < i → goodAt (grGood s.last) grLink s.groups j = true) 0 (by simp -implicitDefEqProofs only [go_sem, LeTs_undef, LeTs_same, LeTs_nil]; try simp [LeTs]) rfl (by simp) ?_
    rintro i ⟨hi, hz⟩
    simp -implicitDefEqProofs only [go_sem]
    refine BrA_i (fun h => ?_) (fun h => ?_) <;> simp -implicitDefEqProofs only [go_sem]
    · have bad : ∀ (hl : i < s.groups.length), goodAt (grGood s.last) grLink s.groups i = false → AV.t (T.bool false) = Bo (streamOkM s) := fun hl hg => by
        have := allAt_no hl hg
        simp [streamOkM, this]
      have hfl : ∀ (hl : i < s.groups.length), s.groups[i].waits.length < 2000000 := fun hl => hw _ (List.getElem_mem hl)
      have h : i < s.groups.length := by simp at h; omega
      have h0i : (0 : Int) ≤ i := by omega
      have h1i : (i : Int) < s.groups.length := by omega
      have wi : IntKind.i64.wrap ((i : Int) + 1) = ((i + 1 : Nat) : Int) := by rw [wrap64 (by omega) (by omega)]; omega
      have hlt := h
      rcases Nat.eq_zero_or_pos i with h0 | h0
      · have hp : ((i : Int) > 0) = False := by simp; omega
        have hG := goodAt_0 (grGood s.last) grLink s.groups h h0
        simp -implicitDefEqProofs only [go_sem, hp, hlt, h0i, h1i, row_getD _ _ hlt, Gr.row]
        refine RegD_of sch_14_10 tysOk (by kernel_rfl) ?_
        simp -implicitDefEqProofs only [go_sem, hp, hlt, h0i, h1i, row_getD _ _ hlt, Gr.row]
        (repeat' (first   | (refine CallW.one (s_l9Group s s.groups[i] (hfl (by assumption))) p_l9Group (by first | (simp -implicitDefEqProofs only [go_sem]; done) | ((conv => lhs; simp -implicitDefEqProofs only [go_sem]); done) | (simp -implicitDefEqProofs only [go_sem]; rfl) | rfl) (by first | trivial | (simp [DeepR, DeepV, DeepVs, DeepC, DeepCs, T.scal]; done)) ?_; try simp -implicitDefEqProofs only [go_sem, hp, hlt, h0i, h1i, row_getD _ _ hlt, Gr.row])   | (refine BrA_i (fun h => ?_) (fun h => ?_) <;> (try simp only [decide_eq_true_eq, decide_eq_false_iff_not, Bool.not_eq_true', Bool.not_eq_false', gt_iff_lt, ge_iff_le] at h) <;> try simp -implicitDefEqProofs only [go_sem, hp, hlt, h0i, h1i, row_getD _ _ hlt, Gr.row])   | (refine And.intro (a := roomy _ _) (by (unfold roomy; (try simp only [List.length_take, List.length_append, List.length_map, List.length_cons, List.length_nil]); omega)) ?_; try simp -implicitDefEqProofs only [go_sem, hp, hlt, h0i, h1i, row_getD _ _ hlt, Gr.row])))
        all_goals first
          | (refine bad (by assumption) ?_; rw [hG]; clear bad hz hG hp hi wi h0 hfl hs1 hs2 hs3 hs4 hw hall; simp_all [-Int.not_lt, -Int.not_le, -Nat.not_lt, -Nat.not_le, id]; done)
          | (refine .to [569, 570, 571] (i + 1) rfl (by simp -implicitDefEqProofs only [go_sem, LeTs_undef, LeTs_same, LeTs_nil, wi]) (by simp -implicitDefEqProofs only [go_sem]) (by omega) ⟨by assumption, good_step hz ?_⟩; rw [hG]; clear bad hz hG hp hi wi h0 hfl hs1 hs2 hs3 hs4 hw hall; simp_all [-Int.not_lt, -Int.not_le, -Nat.not_lt, -Nat.not_le, id])
      · have hp : ((i : Int) > 0) = True := by simp; omega
        have hG := goodAt_s (grGood s.last) grLink s.groups h h0
        have hq : i - 1 < s.groups.length := by omega
        have wj : IntKind.i64.wrap ((i : Int) - 1) = ((i - 1 : Nat) : Int) := by rw [wrap64 (by omega) (by omega)]; omega
        have h0j : (0 : Int) ≤ ((i - 1 : Nat) : Int) := by omega
        have h1j : ((i - 1 : Nat) : Int) < s.groups.length := by omega
        simp -implicitDefEqProofs only [go_sem, hp, hlt, h0i, h1i, row_getD _ _ hlt, Gr.row, wj, h0j, h1j, hq, row_getD _ _ hq]
        refine RegD_of sch_14_10 tysOk (by kernel_rfl) ?_
        simp -implicitDefEqProofs only [go_sem, hp, hlt, h0i, h1i, row_getD _ _ hlt, Gr.row, wj, h0j, h1j, hq, row_getD _ _ hq]
        (repeat' (first   | (refine CallW.one (s_l9Group s s.groups[i] (hfl (by assumption))) p_l9Group (by first | (simp -implicitDefEqProofs only [go_sem]; done) | ((conv => lhs; simp -implicitDefEqProofs only [go_sem]); done) | (simp -implicitDefEqProofs only [go_sem]; rfl) | rfl) (by first | trivial | (simp [DeepR, DeepV, DeepVs, DeepC, DeepCs, T.scal]; done)) ?_; try simp -implicitDefEqProofs only [go_sem, hp, hlt, h0i, h1i, row_getD _ _ hlt, Gr.row, wj, h0j, h1j, hq, row_getD _ _ hq])   | (refine BrA_i (fun h => ?_) (fun h => ?_) <;> (try simp only [decide_eq_true_eq, decide_eq_false_iff_not, Bool.not_eq_true', Bool.not_eq_false', gt_iff_lt, ge_iff_le] at h) <;> try simp -implicitDefEqProofs only [go_sem, hp, hlt, h0i, h1i, row_getD _ _ hlt, Gr.row, wj, h0j, h1j, hq, row_getD _ _ hq])   | (refine And.intro (a := roomy _ _) (by (unfold roomy; (try simp only [List.length_take, List.length_append, List.length_map, List.length_cons, List.length_nil]); omega)) ?_; try simp -implicitDefEqProofs only [go_sem, hp, hlt, h0i, h1i, row_getD _ _ hlt, Gr.row, wj, h0j, h1j, hq, row_getD _ _ hq])))
        all_goals first
          | (refine bad (by assumption) ?_; rw [hG]; clear bad hz hG hp hi wi wj h0j h1j hfl hs1 hs2 hs3 hs4 hw hall; simp_all [-Int.not_lt, -Int.not_le, -Nat.not_lt, -Nat.not_le, grLink]; done)
          | (refine .to [569, 570, 571] (i + 1) rfl (by simp -implicitDefEqProofs only [go_sem, LeTs_undef, LeTs_same, LeTs_nil, wi]) (by simp -implicitDefEqProofs only [go_sem]) (by omega) ⟨by assumption, good_step hz ?_⟩; rw [hG]; clear bad hz hG hp hi wi wj h0j h1j hfl hs1 hs2 hs3 hs4 hw hall; simp_all [-Int.not_lt, -Int.not_le, -Nat.not_lt, -Nat.not_le, grLink])
    · have h : i = s.groups.length := by simp at h; omega
      subst h
      have hall2 : allAt (grGood s.last) grLink s.groups = true := (allAt_iff _ _ _).2 hz
      (repeat' (first   | (refine CallW.one (s_l9Id _ _) p_l9Id (by first | (simp -implicitDefEqProofs only [go_sem]; done) | ((conv => lhs; simp -implicitDefEqProofs only [go_sem]); done) | (simp -implicitDefEqProofs only [go_sem]; rfl) | rfl) (by first | trivial | (simp [DeepR, DeepV, DeepVs, DeepC, DeepCs, T.scal]; done)) ?_; try simp -implicitDefEqProofs only [go_sem])   | (refine BrA_i (fun h => ?_) (fun h => ?_) <;> (try simp only [decide_eq_true_eq, decide_eq_false_iff_not, Bool.not_eq_true', Bool.not_eq_false', gt_iff_lt, ge_iff_le] at h) <;> try simp -implicitDefEqProofs only [go_sem])   | (refine And.intro (a := roomy _ _) (by (unfold roomy; (try simp only [List.length_take, List.length_append, List.length_map, List.length_cons, List.length_nil]); omega)) ?_; try simp -implicitDefEqProofs only [go_sem])))
      all_goals (clear hz hi hs1 hs2 hs3 hs4 hw; simp_all [-Int.not_lt, -Int.not_le, -Nat.not_lt, -Nat.not_le, streamOkM, idM])
      all_goals first
        | omega
        | (have e1 : s.items.length ≤ 16 := by omega
           simp [e1] <;> omega)
end Go.Proofs.Ytofiljboaegekac.Am
namespace Go.Proofs.Ytofiljboaegekac.Am
open Go
set_option maxRecDepth 100000
set_option linter.unusedSimpArgs false
set_option linter.unusedVariables false
def Idt.row (x : Idt) : List T := [.int .i64 x.t, .int .i64 x.n]
def lG {α : Type} (G : α → Prop) (xs : List α) : Prop := xs.length ≤ 140737488351232 ∧ ∀ x ∈ xs, G x
def Pr.G (x : Pr) : Prop := x.k.size ≤ 140737488351232 ∧ x.v.size ≤ 140737488351232
def It.G (x : It) : Prop := lG Pr.G x.fields
def Wt.G (x : Wt) : Prop := x.who.size ≤ 140737488351232
def Gr.G (x : Gr) : Prop := x.name.size ≤ 140737488351232 ∧ lG Wt.G x.waits
def Stm.G (x : Stm) : Prop := lG It.G x.items ∧ lG Gr.G x.groups
theorem p_szPair : Plain Try.prog 71 := ⟨_, Try.func71, rfl, by decide⟩
theorem s_szPair (x : Pr) (n : Int) (h0 : 0 ≤ n) (h1 : n ≤ 1048576) (hs : x.G) : Spec Try.prog 71 [x.av, I n] (fun r => r = I (cutM n x.w)) := by
  have hk : x.w = x.k.size + x.v.size := rfl
  obtain ⟨q0, q1⟩ := hs
  refine Spec.of tysOk mixed Try.func71 rfl (by decide) ?_
  simp -implicitDefEqProofs only [go_sem, Try.f71]
  have w0 : IntKind.i64.wrap (n - ((x.k.size : Nat) : Int)) = n - ((x.k.size : Nat) : Int) := wrap64 (by omega) (by omega)
  simp -implicitDefEqProofs only [go_sem, w0]
  refine BrA_i (fun g0 => ?_) (fun g0 => ?_) <;> simp -implicitDefEqProofs only [go_sem]
  · have : n < x.w := by simp at g0; omega
    simp [cutM, this]
  have g0 : 0 ≤ n - ((x.k.size : Nat) : Int) := by simp at g0; omega
  have w1 : IntKind.i64.wrap (n - ((x.k.size : Nat) : Int) - ((x.v.size : Nat) : Int)) = n - ((x.k.size : Nat) : Int) - ((x.v.size : Nat) : Int) := wrap64 (by omega) (by omega)
  simp -implicitDefEqProofs only [go_sem, w1]
  refine BrA_i (fun g1 => ?_) (fun g1 => ?_) <;> simp -implicitDefEqProofs only [go_sem]
  · have : n < x.w := by simp at g1; omega
    simp [cutM, this]
  have g1 : 0 ≤ n - ((x.k.size : Nat) : Int) - ((x.v.size : Nat) : Int) := by simp at g1; omega
  have : ¬ n < x.w := by omega
  simp only [cutM, this, if_false]
  congr 2
  all_goals omega
theorem p_szPairS : Plain Try.prog 55 := ⟨_, Try.func55, rfl, by decide⟩
theorem s_szPairS (xs : List Pr) (n : Int) (h0 : 0 ≤ n) (h1 : n ≤ 1048576) (hs : lG Pr.G xs) : Spec Try.prog 55 [.t (.list false 2 (xs.map Pr.row)), I n] (fun r => r = I (cutM n (wAll Pr.w xs))) := by
  have hk : wAll Pr.w xs = xs.length + wSum Pr.w xs := rfl
  obtain ⟨hs, hsG⟩ := hs
  refine Spec.of tysOk mixed Try.func55 rfl (by decide) ?_
  have w1 : IntKind.i64.wrap (n - (xs.length : Int)) = n - xs.length := wrap64 (by omega) (by omega)
  simp -implicitDefEqProofs only [go_sem, Try.f55, w1]
  refine BrA_i (fun h2 => ?_) (fun h2 => ?_) <;> simp -implicitDefEqProofs only [go_sem]
  · simp at h2
    have : n < wAll Pr.w xs := by omega
    simp [cutM, this]
  · simp at h2
    refine LoopW.slots (α := Nat) (fun i => [(5, I i), (1, I (n - xs.length - wSum Pr.w (xs.take i)))]) (fun _ => []) (fun i => xs.length - i) (fun i => i ≤ xs.length ∧ 0 ≤ n - xs.length - wSum Pr.w (xs.take i)) 0 (by simp -implicitDefEqProofs only [go_sem]; simp [wSum]) rfl (by simp [wSum]; omega) ?_
    rintro i ⟨hi, hz⟩
    simp -implicitDefEqProofs only [go_sem]
    refine BrA_i (fun h => ?_) (fun h => ?_)
    · have h : i < xs.length := by simp at h; omega
      have hw1 : IntKind.i64.wrap ((i : Int) + 1) = ((i + 1 : Nat) : Int) := by rw [wrap64 (by omega) (by omega)]; omega
      have e1 := wSum_take Pr.w xs h
      have e2 := wSum_le Pr.w xs (i + 1)
      simp -implicitDefEqProofs only [go_sem, row_getD _ _ h, Pr.row]
      refine ⟨⟨by omega, by omega⟩, ?_⟩
      refine .one (s_szPair xs[i] _ hz (by omega) (hsG _ (List.getElem_mem h))) p_szPair (by simp -implicitDefEqProofs only [go_sem]) trivial ?_
      simp -implicitDefEqProofs only [go_sem]
      refine BrA_i (fun h3 => ?_) (fun h3 => ?_) <;> simp -implicitDefEqProofs only [go_sem]
      · have h3 : n - xs.length - wSum Pr.w (xs.take i) < xs[i].w := (cutM_lt _ _).1 (by simpa using h3)
        have : n < wAll Pr.w xs := by omega
        simp [cutM, this]
      · have h3 : ¬ n - xs.length - wSum Pr.w (xs.take i) < xs[i].w := fun hh => by simp [(cutM_lt _ _).2 hh] at h3
        refine .to [] (i + 1) rfl ?_ ?_ (by omega) ⟨h, by omega⟩ <;> (try simp -implicitDefEqProofs only [go_sem, LeTs_undef, LeTs_same, LeTs_nil, hw1, cutM_ge h3, e1])
        refine LeTs_cons _ _ _ _ ?_ ?_
        · congr 2; omega
        · simp -implicitDefEqProofs only [go_sem, LeTs_undef, LeTs_same, LeTs_nil]
    · simp -implicitDefEqProofs only [go_sem]
      have h : i = xs.length := by simp at h; omega
      subst h
      rw [List.take_length] at hz ⊢
      have : ¬ n < wAll Pr.w xs := by omega
      simp only [cutM, this, if_false]
      congr 2
      omega
theorem p_szItem : Plain Try.prog 30 := ⟨_, Try.func30, rfl, by decide⟩
theorem s_szItem (x : It) (n : Int) (h0 : 0 ≤ n) (h1 : n ≤ 1048576) (hs : x.G) : Spec Try.prog 30 [x.av, I n] (fun r => r = I (cutM n x.w)) := by
  have hk : x.w = wAll Pr.w x.fields := rfl
  have q0 := hs
  refine Spec.of tysOk mixed Try.func30 rfl (by decide) ?_
  simp -implicitDefEqProofs only [go_sem, Try.f30]
  refine .one (s_szPairS x.fields (n) (by omega) (by omega) q0) p_szPairS (by simp -implicitDefEqProofs only [go_sem]) trivial ?_
  simp -implicitDefEqProofs only [go_sem]
  refine BrA_i (fun g0 => ?_) (fun g0 => ?_) <;> simp -implicitDefEqProofs only [go_sem]
  · have g0 := (cutM_lt _ _).1 (by simpa using g0)
    have : n < x.w := by omega
    simp [cutM, this]
  have g0 : ¬ n < ((wAll Pr.w x.fields : Nat) : Int) := fun hh => by simp [(cutM_lt _ _).2 hh] at g0
  simp -implicitDefEqProofs only [cutM_ge g0]
  have : ¬ n < x.w := by omega
  simp only [cutM, this, if_false]
  congr 2
  all_goals omega
theorem p_szItemS : Plain Try.prog 12 := ⟨_, Try.func12, rfl, by decide⟩
theorem s_szItemS (xs : List It) (n : Int) (h0 : 0 ≤ n) (h1 : n ≤ 1048576) (hs : lG It.G xs) : Spec Try.prog 12 [.t (.list false 3 (xs.map It.row)), I n] (fun r => r = I (cutM n (wAll It.w xs))) := by
  have hk : wAll It.w xs = xs.length + wSum It.w xs := rfl
  obtain ⟨hs, hsG⟩ := hs
  refine Spec.of tysOk mixed Try.func12 rfl (by decide) ?_
  have w1 : IntKind.i64.wrap (n - (xs.length : Int)) = n - xs.length := wrap64 (by omega) (by omega)
  simp -implicitDefEqProofs only [go_sem, Try.f12, w1]
  refine BrA_i (fun h2 => ?_) (fun h2 => ?_) <;> simp -implicitDefEqProofs only [go_sem]
  · simp at h2
    have : n < wAll It.w xs := by omega
    simp [cutM, this]
  · simp at h2
    refine LoopW.slots (α := Nat) (fun i => [(5, I i), (1, I (n - xs.length - wSum It.w (xs.take i)))]) (fun _ => []) (fun i => xs.length - i) (fun i => i ≤ xs.length ∧ 0 ≤ n - xs.length - wSum It.w (xs.take i)) 0 (by simp -implicitDefEqProofs only [go_sem]; simp [wSum]) rfl (by simp [wSum]; omega) ?_
    rintro i ⟨hi, hz⟩
    simp -implicitDefEqProofs only [go_sem]
    refine BrA_i (fun h => ?_) (fun h => ?_)
    · have h : i < xs.length := by simp at h; omega
      have hw1 : IntKind.i64.wrap ((i : Int) + 1) = ((i + 1 : Nat) : Int) := by rw [wrap64 (by omega) (by omega)]; omega
      have e1 := wSum_take It.w xs h
      have e2 := wSum_le It.w xs (i + 1)
      simp -implicitDefEqProofs only [go_sem, row_getD _ _ h, It.row]
      refine ⟨⟨by omega, by omega⟩, ?_⟩
      refine .one (s_szItem xs[i] _ hz (by omega) (hsG _ (List.getElem_mem h))) p_szItem (by simp -implicitDefEqProofs only [go_sem]) trivial ?_
      simp -implicitDefEqProofs only [go_sem]
      refine BrA_i (fun h3 => ?_) (fun h3 => ?_) <;> simp -implicitDefEqProofs only [go_sem]
      · have h3 : n - xs.length - wSum It.w (xs.take i) < xs[i].w := (cutM_lt _ _).1 (by simpa using h3)
        have : n < wAll It.w xs := by omega
        simp [cutM, this]
      · have h3 : ¬ n - xs.length - wSum It.w (xs.take i) < xs[i].w := fun hh => by simp [(cutM_lt _ _).2 hh] at h3
        refine .to [] (i + 1) rfl ?_ ?_ (by omega) ⟨h, by omega⟩ <;> (try simp -implicitDefEqProofs only [go_sem, LeTs_undef, LeTs_same, LeTs_nil, hw1, cutM_ge h3, e1])
        refine LeTs_cons _ _ _ _ ?_ ?_
        · congr 2; omega
        · simp -implicitDefEqProofs only [go_sem, LeTs_undef, LeTs_same, LeTs_nil]
    · simp -implicitDefEqProofs only [go_sem]
      have h : i = xs.length := by simp at h; omega
      subst h
      rw [List.take_length] at hz ⊢
      have : ¬ n < wAll It.w xs := by omega
      simp only [cutM, this, if_false]
      congr 2
      omega
theorem p_szWait : Plain Try.prog 72 := ⟨_, Try.func72, rfl, by decide⟩
theorem s_szWait (x : Wt) (n : Int) (h0 : 0 ≤ n) (h1 : n ≤ 1048576) (hs : x.G) : Spec Try.prog 72 [x.av, I n] (fun r => r = I (cutM n x.w)) := by
  have hk : x.w = x.who.size := rfl
  have q0 : x.who.size ≤ 140737488351232 := hs
  refine Spec.of tysOk mixed Try.func72 rfl (by decide) ?_
  simp -implicitDefEqProofs only [go_sem, Try.f72]
  have w0 : IntKind.i64.wrap (n - ((x.who.size : Nat) : Int)) = n - ((x.who.size : Nat) : Int) := wrap64 (by omega) (by omega)
  simp -implicitDefEqProofs only [go_sem, w0]
  refine BrA_i (fun g0 => ?_) (fun g0 => ?_) <;> simp -implicitDefEqProofs only [go_sem]
  · have : n < x.w := by simp at g0; omega
    simp [cutM, this]
  have g0 : 0 ≤ n - ((x.who.size : Nat) : Int) := by simp at g0; omega
  have : ¬ n < x.w := by omega
  simp only [cutM, this, if_false]
  congr 2
  all_goals omega
theorem p_szWaitS : Plain Try.prog 56 := ⟨_, Try.func56, rfl, by decide⟩
theorem s_szWaitS (xs : List Wt) (n : Int) (h0 : 0 ≤ n) (h1 : n ≤ 1048576) (hs : lG Wt.G xs) : Spec Try.prog 56 [.t (.list false 5 (xs.map Wt.row)), I n] (fun r => r = I (cutM n (wAll Wt.w xs))) := by
  have hk : wAll Wt.w xs = xs.length + wSum Wt.w xs := rfl
  obtain ⟨hs, hsG⟩ := hs
  refine Spec.of tysOk mixed Try.func56 rfl (by decide) ?_
  have w1 : IntKind.i64.wrap (n - (xs.length : Int)) = n - xs.length := wrap64 (by omega) (by omega)
  simp -implicitDefEqProofs only [go_sem, Try.f56, w1]
  refine BrA_i (fun h2 => ?_) (fun h2 => ?_) <;> simp -implicitDefEqProofs only [go_sem]
  · simp at h2
    have : n < wAll Wt.w xs := by omega
    simp [cutM, this]
  · simp at h2
    refine LoopW.slots (α := Nat) (fun i => [(5, I i), (1, I (n - xs.length - wSum Wt.w (xs.take i)))]) (fun _ => []) (fun i => xs.length - i) (fun i => i ≤ xs.length ∧ 0 ≤ n - xs.length - wSum Wt.w (xs.take i)) 0 (by simp -implicitDefEqProofs only [go_sem]; simp [wSum]) rfl (by simp [wSum]; omega) ?_
    rintro i ⟨hi, hz⟩
    simp -implicitDefEqProofs only [go_sem]
    refine BrA_i (fun h => ?_) (fun h => ?_)
    · have h : i < xs.length := by simp at h; omega
      have hw1 : IntKind.i64.wrap ((i : Int) + 1) = ((i + 1 : Nat) : Int) := by rw [wrap64 (by omega) (by omega)]; omega
      have e1 := wSum_take Wt.w xs h
      have e2 := wSum_le Wt.w xs (i + 1)
      simp -implicitDefEqProofs only [go_sem, row_getD _ _ h, Wt.row]
      refine ⟨⟨by omega, by omega⟩, ?_⟩
      refine .one (s_szWait xs[i] _ hz (by omega) (hsG _ (List.getElem_mem h))) p_szWait (by simp -implicitDefEqProofs only [go_sem]) trivial ?_
      simp -implicitDefEqProofs only [go_sem]
      refine BrA_i (fun h3 => ?_) (fun h3 => ?_) <;> simp -implicitDefEqProofs only [go_sem]
      · have h3 : n - xs.length - wSum Wt.w (xs.take i) < xs[i].w := (cutM_lt _ _).1 (by simpa using h3)
        have : n < wAll Wt.w xs := by omega
        simp [cutM, this]
      · have h3 : ¬ n - xs.length - wSum Wt.w (xs.take i) < xs[i].w := fun hh => by simp [(cutM_lt _ _).2 hh] at h3
        refine .to [] (i + 1) rfl ?_ ?_ (by omega) ⟨h, by omega⟩ <;> (try simp -implicitDefEqProofs only [go_sem, LeTs_undef, LeTs_same, LeTs_nil, hw1, cutM_ge h3, e1])
        refine LeTs_cons _ _ _ _ ?_ ?_
        · congr 2; omega
        · simp -implicitDefEqProofs only [go_sem, LeTs_undef, LeTs_same, LeTs_nil]
    · simp -implicitDefEqProofs only [go_sem]
      have h : i = xs.length := by simp at h; omega
      subst h
      rw [List.take_length] at hz ⊢
      have : ¬ n < wAll Wt.w xs := by omega
      simp only [cutM, this, if_false]
      congr 2
      omega
theorem p_szGroup : Plain Try.prog 31 := ⟨_, Try.func31, rfl, by decide⟩
theorem s_szGroup (x : Gr) (n : Int) (h0 : 0 ≤ n) (h1 : n ≤ 1048576) (hs : x.G) : Spec Try.prog 31 [x.av, I n] (fun r => r = I (cutM n x.w)) := by
  have hk : x.w = x.name.size + wAll Wt.w x.waits := rfl
  obtain ⟨q0, q1⟩ := hs
  refine Spec.of tysOk mixed Try.func31 rfl (by decide) ?_
  simp -implicitDefEqProofs only [go_sem, Try.f31]
  have w0 : IntKind.i64.wrap (n - ((x.name.size : Nat) : Int)) = n - ((x.name.size : Nat) : Int) := wrap64 (by omega) (by omega)
  simp -implicitDefEqProofs only [go_sem, w0]
  refine BrA_i (fun g0 => ?_) (fun g0 => ?_) <;> simp -implicitDefEqProofs only [go_sem]
  · have : n < x.w := by simp at g0; omega
    simp [cutM, this]
  have g0 : 0 ≤ n - ((x.name.size : Nat) : Int) := by simp at g0; omega
  refine .one (s_szWaitS x.waits (n - ((x.name.size : Nat) : Int)) (by omega) (by omega) q1) p_szWaitS (by simp -implicitDefEqProofs only [go_sem]) trivial ?_
  simp -implicitDefEqProofs only [go_sem]
  refine BrA_i (fun g1 => ?_) (fun g1 => ?_) <;> simp -implicitDefEqProofs only [go_sem]
  · have g1 := (cutM_lt _ _).1 (by simpa using g1)
    have : n < x.w := by omega
    simp [cutM, this]
  have g1 : ¬ n - ((x.name.size : Nat) : Int) < ((wAll Wt.w x.waits : Nat) : Int) := fun hh => by simp [(cutM_lt _ _).2 hh] at g1
  simp -implicitDefEqProofs only [cutM_ge g1]
  have : ¬ n < x.w := by omega
  simp only [cutM, this, if_false]
  congr 2
  all_goals omega
theorem p_szGroupS : Plain Try.prog 13 := ⟨_, Try.func13, rfl, by decide⟩
theorem s_szGroupS (xs : List Gr) (n : Int) (h0 : 0 ≤ n) (h1 : n ≤ 1048576) (hs : lG Gr.G xs) : Spec Try.prog 13 [.t (.list false 4 (xs.map Gr.row)), I n] (fun r => r = I (cutM n (wAll Gr.w xs))) := by
  have hk : wAll Gr.w xs = xs.length + wSum Gr.w xs := rfl
  obtain ⟨hs, hsG⟩ := hs
  refine Spec.of tysOk mixed Try.func13 rfl (by decide) ?_
  have w1 : IntKind.i64.wrap (n - (xs.length : Int)) = n - xs.length := wrap64 (by omega) (by omega)
  simp -implicitDefEqProofs only [go_sem, Try.f13, w1]
  refine BrA_i (fun h2 => ?_) (fun h2 => ?_) <;> simp -implicitDefEqProofs only [go_sem]
  · simp at h2
    have : n < wAll Gr.w xs := by omega
    simp [cutM, this]
  · simp at h2
    refine LoopW.slots (α := Nat) (fun i => [(5, I i), (1, I (n - xs.length - wSum Gr.w (xs.take i)))]) (fun _ => []) (fun i => xs.length - i) (fun i => i ≤ xs.length ∧ 0 ≤ n - xs.length - wSum Gr.w (xs.take i)) 0 (by simp -implicitDefEqProofs only [go_sem]; simp [wSum]) rfl (by simp [wSum]; omega) ?_
    rintro i ⟨hi, hz⟩
    simp -implicitDefEqProofs only [go_sem]
    refine BrA_i (fun h => ?_) (fun h => ?_)
    · have h : i < xs.length := by simp at h; omega
      have hw1 : IntKind.i64.wrap ((i : Int) + 1) = ((i + 1 : Nat) : Int) := by rw [wrap64 (by omega) (by omega)]; omega
      have e1 := wSum_take Gr.w xs h
      have e2 := wSum_le Gr.w xs (i + 1)
      simp -implicitDefEqProofs only [go_sem, row_getD _ _ h, Gr.row]
      refine ⟨⟨by omega, by omega⟩, ?_⟩
      refine .one (s_szGroup xs[i] _ hz (by omega) (hsG _ (List.getElem_mem h))) p_szGroup (by simp -implicitDefEqProofs only [go_sem]) trivial ?_
      simp -implicitDefEqProofs only [go_sem]
      refine BrA_i (fun h3 => ?_) (fun h3 => ?_) <;> simp -implicitDefEqProofs only [go_sem]
      · have h3 : n - xs.length - wSum Gr.w (xs.take i) < xs[i].w := (cutM_lt _ _).1 (by simpa using h3)
        have : n < wAll Gr.w xs := by omega
        simp [cutM, this]
      · have h3 : ¬ n - xs.length - wSum Gr.w (xs.take i) < xs[i].w := fun hh => by simp [(cutM_lt _ _).2 hh] at h3
        refine .to [] (i + 1) rfl ?_ ?_ (by omega) ⟨h, by omega⟩ <;> (try simp -implicitDefEqProofs only [go_sem, LeTs_undef, LeTs_same, LeTs_nil, hw1, cutM_ge h3, e1])
        refine LeTs_cons _ _ _ _ ?_ ?_
        · congr 2; omega
        · simp -implicitDefEqProofs only [go_sem, LeTs_undef, LeTs_same, LeTs_nil]
    · simp -implicitDefEqProofs only [go_sem]
      have h : i = xs.length := by simp at h; omega
      subst h
      rw [List.take_length] at hz ⊢
      have : ¬ n < wAll Gr.w xs := by omega
      simp only [cutM, this, if_false]
      congr 2
      omega
theorem p_szStream : Plain Try.prog 4 := ⟨_, Try.func4, rfl, by decide⟩
theorem s_szStream (x : Stm) (n : Int) (h0 : 0 ≤ n) (h1 : n ≤ 1048576) (hs : x.G) : Spec Try.prog 4 [x.av, I n] (fun r => r = I (cutM n x.w)) := by
  have hk : x.w = wAll It.w x.items + wAll Gr.w x.groups := rfl
  obtain ⟨q0, q1⟩ := hs
  refine Spec.of tysOk mixed Try.func4 rfl (by decide) ?_
  simp -implicitDefEqProofs only [go_sem, Try.f4]
  refine .one (s_szItemS x.items (n) (by omega) (by omega) q0) p_szItemS (by simp -implicitDefEqProofs only [go_sem]) trivial ?_
  simp -implicitDefEqProofs only [go_sem]
  refine BrA_i (fun g0 => ?_) (fun g0 => ?_) <;> simp -implicitDefEqProofs only [go_sem]
  · have g0 := (cutM_lt _ _).1 (by simpa using g0)
    have : n < x.w := by omega
    simp [cutM, this]
  have g0 : ¬ n < ((wAll It.w x.items : Nat) : Int) := fun hh => by simp [(cutM_lt _ _).2 hh] at g0
  simp -implicitDefEqProofs only [cutM_ge g0]
  refine .one (s_szGroupS x.groups (n - ((wAll It.w x.items : Nat) : Int)) (by omega) (by omega) q1) p_szGroupS (by simp -implicitDefEqProofs only [go_sem]) trivial ?_
  simp -implicitDefEqProofs only [go_sem]
  refine BrA_i (fun g1 => ?_) (fun g1 => ?_) <;> simp -implicitDefEqProofs only [go_sem]
  · have g1 := (cutM_lt _ _).1 (by simpa using g1)
    have : n < x.w := by omega
    simp [cutM, this]
  have g1 : ¬ n - ((wAll It.w x.items : Nat) : Int) < ((wAll Gr.w x.groups : Nat) : Int) := fun hh => by simp [(cutM_lt _ _).2 hh] at g1
  simp -implicitDefEqProofs only [cutM_ge g1]
  have : ¬ n < x.w := by omega
  simp only [cutM, this, if_false]
  congr 2
  all_goals omega
end Go.Proofs.Ytofiljboaegekac.Am
namespace Go.Proofs.Ytofiljboaegekac.Am
open Go
set_option maxRecDepth 100000
set_option linter.unusedSimpArgs false
set_option linter.unusedVariables false
theorem p_toPair : Plain Try.prog 73 := ⟨_, Try.func73, rfl, by decide⟩
theorem s_toPair (x : Pr) : Spec Try.prog 73 [x.av] (fun r => r = x.av) := by
  refine Spec.of tysOk mixed Try.func73 rfl (by decide) ?_
  simp -implicitDefEqProofs only [go_sem, Try.f73]
theorem p_toPairS : Plain Try.prog 59 := ⟨_, Try.func59, rfl, by decide⟩
theorem s_toPairS (xs : List Pr) (hx : xs.length ≤ 1048576) : Spec Try.prog 59 [.t (.list false 2 (xs.map Pr.row))] (fun r => r = .own (.list true 2 (xs.map Pr.row))) := by
  refine Spec.of tysOk mixed Try.func59 rfl (by decide) ?_
  simp -implicitDefEqProofs only [go_sem, Try.f59]
  refine ⟨⟨by omega, by unfold roomy; omega⟩, ?_⟩
  refine LoopW.slots (α := Nat) (fun i => [(4, I i)]) (fun i => [(56, .rows 2 (fillR Pr.row [T.str ⟨#[]⟩, T.str ⟨#[]⟩] xs i))]) (fun i => xs.length - i) (fun i => i ≤ xs.length) 0 rfl (by simp -implicitDefEqProofs only [go_sem, fill_0]) (by omega) ?_
  intro i hi
  simp -implicitDefEqProofs only [go_sem]
  refine BrA_i (fun h => ?_) (fun h => ?_)
  · have h : i < xs.length := by simp at h; omega
    have hw1 : IntKind.i64.wrap ((i : Int) + 1) = ((i + 1 : Nat) : Int) := by rw [wrap64 (by omega) (by omega)]; omega
    simp -implicitDefEqProofs only [go_sem, row_getD _ _ h, Pr.row]
    refine ⟨⟨by omega, by omega⟩, ?_⟩
    refine .onep (s_toPair xs[i]) p_toPair (by simp -implicitDefEqProofs only [go_sem]) rfl ?_
    simp -implicitDefEqProofs only [go_sem, fill_len _ _ _ hi, fill_getD _ _ _ h]
    have e := fill_set Pr.row [T.str ⟨#[]⟩, T.str ⟨#[]⟩] xs h
    simp only [Pr.row] at e
    refine ⟨⟨by omega, by omega⟩, h, .to [] (i + 1) rfl ?_ ?_ (by omega) h⟩ <;> simp -implicitDefEqProofs only [go_sem, LeTs_undef, LeTs_same, LeTs_nil, hw1, e]
  · simp -implicitDefEqProofs only [go_sem]
    have h : i = xs.length := by simp at h; omega
    subst h
    rw [fill_all]
    try exact ⟨by decide, rfl⟩
theorem p_toId : Plain Try.prog 7 := ⟨_, Try.func7, rfl, by decide⟩
theorem s_toId (x : Idt) : Spec Try.prog 7 [x.av] (fun r => r = x.av) := by
  refine Spec.of tysOk mixed Try.func7 rfl (by decide) ?_
  simp -implicitDefEqProofs only [go_sem, Try.f7]
theorem p_toItem : Plain Try.prog 37 := ⟨_, Try.func37, rfl, by decide⟩
theorem s_toItem (x : It) (hs : x.fields.length ≤ 1048576) : Spec Try.prog 37 [x.av] (fun r => r = .agg [I x.id.t, I x.id.n, .own (.list true 2 (x.fields.map Pr.row))]) := by
  refine Spec.of tysOk mixed Try.func37 rfl (by decide) ?_
  simp -implicitDefEqProofs only [go_sem, Try.f37]
  refine .onep (s_toId x.id) p_toId (by simp -implicitDefEqProofs only [go_sem]) rfl ?_
  simp -implicitDefEqProofs only [go_sem]
  refine .onep (s_toPairS x.fields hs) p_toPairS (by simp -implicitDefEqProofs only [go_sem]) rfl ?_
  simp -implicitDefEqProofs only [go_sem]
  try decide
theorem p_toItemS : Plain Try.prog 16 := ⟨_, Try.func16, rfl, by decide⟩
theorem s_toItemS (xs : List It) (hx : xs.length ≤ 1048576) (hs : ∀ x ∈ xs, x.fields.length ≤ 1048576) : Spec Try.prog 16 [.t (.list false 3 (xs.map It.row))] (fun r => r = .own (.list true 3 (xs.map It.rowO))) := by
  refine Spec.of tysOk mixed Try.func16 rfl (by decide) ?_
  simp -implicitDefEqProofs only [go_sem, Try.f16]
  refine ⟨⟨by omega, by unfold roomy; omega⟩, ?_⟩
  refine LoopW.slots (α := Nat) (fun i => [(4, I i)]) (fun i => [(56, .rows 3 (fillR It.rowO [T.int .i64 0, T.int .i64 0, T.list true 2 []] xs i))]) (fun i => xs.length - i) (fun i => i ≤ xs.length) 0 rfl (by simp -implicitDefEqProofs only [go_sem, fill_0]) (by omega) ?_
  intro i hi
  simp -implicitDefEqProofs only [go_sem]
  refine BrA_i (fun h => ?_) (fun h => ?_)
  · have h : i < xs.length := by simp at h; omega
    have hw1 : IntKind.i64.wrap ((i : Int) + 1) = ((i + 1 : Nat) : Int) := by rw [wrap64 (by omega) (by omega)]; omega
    simp -implicitDefEqProofs only [go_sem, row_getD _ _ h, It.row]
    refine ⟨⟨by omega, by omega⟩, ?_⟩
    refine .onep (s_toItem xs[i] (hs _ (List.getElem_mem _))) p_toItem (by simp -implicitDefEqProofs only [go_sem]) rfl ?_
    simp -implicitDefEqProofs only [go_sem, fill_len _ _ _ hi, fill_getD _ _ _ h]
    have e := fill_set It.rowO [T.int .i64 0, T.int .i64 0, T.list true 2 []] xs h
    simp only [It.rowO] at e
    refine ⟨⟨by omega, by omega⟩, h, .to [] (i + 1) rfl ?_ ?_ (by omega) h⟩ <;> simp -implicitDefEqProofs only [go_sem, LeTs_undef, LeTs_same, LeTs_nil, hw1, e]
  · simp -implicitDefEqProofs only [go_sem]
    have h : i = xs.length := by simp at h; omega
    subst h
    rw [fill_all]
    try exact ⟨by decide, rfl⟩
theorem p_toWait : Plain Try.prog 74 := ⟨_, Try.func74, rfl, by decide⟩
theorem s_toWait (x : Wt) : Spec Try.prog 74 [x.av] (fun r => r = x.av) := by
  refine Spec.of tysOk mixed Try.func74 rfl (by decide) ?_
  simp -implicitDefEqProofs only [go_sem, Try.f74]
  refine .onep (s_toId x.id) p_toId (by simp -implicitDefEqProofs only [go_sem]) rfl ?_
  simp -implicitDefEqProofs only [go_sem]
  try decide
theorem p_toWaitS : Plain Try.prog 60 := ⟨_, Try.func60, rfl, by decide⟩
theorem s_toWaitS (xs : List Wt) (hx : xs.length ≤ 1048576) : Spec Try.prog 60 [.t (.list false 5 (xs.map Wt.row))] (fun r => r = .own (.list true 5 (xs.map Wt.row))) := by
  refine Spec.of tysOk mixed Try.func60 rfl (by decide) ?_
  simp -implicitDefEqProofs only [go_sem, Try.f60]
  refine ⟨⟨by omega, by unfold roomy; omega⟩, ?_⟩
  refine LoopW.slots (α := Nat) (fun i => [(4, I i)]) (fun i => [(56, .rows 5 (fillR Wt.row [T.int .i64 0, T.int .i64 0, T.str ⟨#[]⟩, T.int .i64 0, T.int .i64 0] xs i))]) (fun i => xs.length - i) (fun i => i ≤ xs.length) 0 rfl (by simp -implicitDefEqProofs only [go_sem, fill_0]) (by omega) ?_
  intro i hi
  simp -implicitDefEqProofs only [go_sem]
  refine BrA_i (fun h => ?_) (fun h => ?_)
  · have h : i < xs.length := by simp at h; omega
    have hw1 : IntKind.i64.wrap ((i : Int) + 1) = ((i + 1 : Nat) : Int) := by rw [wrap64 (by omega) (by omega)]; omega
    simp -implicitDefEqProofs only [go_sem, row_getD _ _ h, Wt.row]
    refine ⟨⟨by omega, by omega⟩, ?_⟩
    refine .onep (s_toWait xs[i]) p_toWait (by simp -implicitDefEqProofs only [go_sem]) rfl ?_
    simp -implicitDefEqProofs only [go_sem, fill_len _ _ _ hi, fill_getD _ _ _ h]
    have e := fill_set Wt.row [T.int .i64 0, T.int .i64 0, T.str ⟨#[]⟩, T.int .i64 0, T.int .i64 0] xs h
    simp only [Wt.row] at e
    refine ⟨⟨by omega, by omega⟩, h, .to [] (i + 1) rfl ?_ ?_ (by omega) h⟩ <;> simp -implicitDefEqProofs only [go_sem, LeTs_undef, LeTs_same, LeTs_nil, hw1, e]
  · simp -implicitDefEqProofs only [go_sem]
    have h : i = xs.length := by simp at h; omega
    subst h
    rw [fill_all]
    try exact ⟨by decide, rfl⟩
theorem p_toGroup : Plain Try.prog 38 := ⟨_, Try.func38, rfl, by decide⟩
theorem s_toGroup (x : Gr) (hs : x.waits.length ≤ 1048576) : Spec Try.prog 38 [x.av] (fun r => r = .agg [.t (.str x.name), I x.last.t, I x.last.n, .own (.list true 5 (x.waits.map Wt.row))]) := by
  refine Spec.of tysOk mixed Try.func38 rfl (by decide) ?_
  simp -implicitDefEqProofs only [go_sem, Try.f38]
  refine .onep (s_toId x.last) p_toId (by simp -implicitDefEqProofs only [go_sem]) rfl ?_
  simp -implicitDefEqProofs only [go_sem]
  refine .onep (s_toWaitS x.waits hs) p_toWaitS (by simp -implicitDefEqProofs only [go_sem]) rfl ?_
  simp -implicitDefEqProofs only [go_sem]
  try decide
theorem p_toGroupS : Plain Try.prog 17 := ⟨_, Try.func17, rfl, by decide⟩
theorem s_toGroupS (xs : List Gr) (hx : xs.length ≤ 1048576) (hs : ∀ x ∈ xs, x.waits.length ≤ 1048576) : Spec Try.prog 17 [.t (.list false 4 (xs.map Gr.row))] (fun r => r = .own (.list true 4 (xs.map Gr.rowO))) := by
  refine Spec.of tysOk mixed Try.func17 rfl (by decide) ?_
  simp -implicitDefEqProofs only [go_sem, Try.f17]
  refine ⟨⟨by omega, by unfold roomy; omega⟩, ?_⟩
  refine LoopW.slots (α := Nat) (fun i => [(4, I i)]) (fun i => [(56, .rows 4 (fillR Gr.rowO [T.str ⟨#[]⟩, T.int .i64 0, T.int .i64 0, T.list true 5 []] xs i))]) (fun i => xs.length - i) (fun i => i ≤ xs.length) 0 rfl (by simp -implicitDefEqProofs only [go_sem, fill_0]) (by omega) ?_
  intro i hi
  simp -implicitDefEqProofs only [go_sem]
  refine BrA_i (fun h => ?_) (fun h => ?_)
  · have h : i < xs.length := by simp at h; omega
    have hw1 : IntKind.i64.wrap ((i : Int) + 1) = ((i + 1 : Nat) : Int) := by rw [wrap64 (by omega) (by omega)]; omega
    simp -implicitDefEqProofs only [go_sem, row_getD _ _ h, Gr.row]
    refine ⟨⟨by omega, by omega⟩, ?_⟩
    refine .onep (s_toGroup xs[i] (hs _ (List.getElem_mem _))) p_toGroup (by simp -implicitDefEqProofs only [go_sem]) rfl ?_
    simp -implicitDefEqProofs only [go_sem, fill_len _ _ _ hi, fill_getD _ _ _ h]
    have e := fill_set Gr.rowO [T.str ⟨#[]⟩, T.int .i64 0, T.int .i64 0, T.list true 5 []] xs h
    simp only [Gr.rowO] at e
    refine ⟨⟨by omega, by omega⟩, h, .to [] (i + 1) rfl ?_ ?_ (by omega) h⟩ <;> simp -implicitDefEqProofs only [go_sem, LeTs_undef, LeTs_same, LeTs_nil, hw1, e]
  · simp -implicitDefEqProofs only [go_sem]
    have h : i = xs.length := by simp at h; omega
    subst h
    rw [fill_all]
    try exact ⟨by decide, rfl⟩
theorem p_toStream : Plain Try.prog 6 := ⟨_, Try.func6, rfl, by decide⟩
theorem s_toStream (x : Stm) (h1 : x.items.length ≤ 1048576) (h2 : ∀ y ∈ x.items, y.fields.length ≤ 1048576) (h3 : x.groups.length ≤ 1048576) (h4 : ∀ y ∈ x.groups, y.waits.length ≤ 1048576) : Spec Try.prog 6 [x.av] (fun r => r = .agg [I x.last.t, I x.last.n, .own (.list true 3 (x.items.map It.rowO)), .own (.list true 4 (x.groups.map Gr.rowO))]) := by
  refine Spec.of tysOk mixed Try.func6 rfl (by decide) ?_
  simp -implicitDefEqProofs only [go_sem, Try.f6]
  refine .onep (s_toId x.last) p_toId (by simp -implicitDefEqProofs only [go_sem]) rfl ?_
  simp -implicitDefEqProofs only [go_sem]
  refine .onep (s_toItemS x.items h1 h2) p_toItemS (by simp -implicitDefEqProofs only [go_sem]) rfl ?_
  simp -implicitDefEqProofs only [go_sem]
  refine .onep (s_toGroupS x.groups h3 h4) p_toGroupS (by simp -implicitDefEqProofs only [go_sem]) rfl ?_
  simp -implicitDefEqProofs only [go_sem]
  try decide
end Go.Proofs.Ytofiljboaegekac.Am
namespace Go.Proofs.Ytofiljboaegekac.Am
open Go
set_option maxRecDepth 100000
set_option linter.unusedSimpArgs false
set_option linter.unusedVariables false
theorem p_eqPair : Plain Try.prog 77 := ⟨_, Try.func77, rfl, by decide⟩
theorem s_eqPair (x y : Pr) : Spec Try.prog 77 [x.av, y.av] (fun r => r = Bo (decide (x = y))) := by
  have ext := Pr.ext_iff (x := x) (y := y)
  refine Spec.of tysOk mixed Try.func77 rfl (by decide) ?_
  simp -implicitDefEqProofs only [go_sem, Try.f77]
  refine BrA_i (fun h0 => ?_) (fun h0 => ?_) <;> simp -implicitDefEqProofs only [go_sem]
  · skip
    refine BrA_i (fun h1 => ?_) (fun h1 => ?_) <;> simp -implicitDefEqProofs only [go_sem]
    · simp only [decide_eq_true_eq] at h0 h1; simp [ext, *]
    · simp only [decide_eq_false_iff_not] at h1; simp [ext, h1]
  · simp only [decide_eq_false_iff_not] at h0; simp [ext, h0]
theorem p_eqPairS : Plain Try.prog 69 := ⟨_, Try.func69, rfl, by decide⟩
theorem s_eqPairS (xs ys : List Pr) (hx : xs.length < 4611686018427387904) : Spec Try.prog 69 [.t (.list false 2 (xs.map Pr.row)), .t (.list false 2 (ys.map Pr.row))] (fun r => r = Bo (decide (xs = ys))) := by
  refine Spec.of tysOk mixed Try.func69 rfl (by decide) ?_
  simp -implicitDefEqProofs only [go_sem, Try.f69]
  refine BrA_i (fun h => ?_) (fun h => ?_) <;> simp -implicitDefEqProofs only [go_sem]
  · have hl : xs.length = ys.length := by simp at h; omega
    refine LoopW.slots (α := Nat) (fun i => [(5, I i)]) (fun _ => []) (fun i => xs.length - i) (fun i => i ≤ xs.length ∧ ∀ j (h : j < xs.length), j < i → xs[j] = ys[j]) 0 rfl rfl (by simp) ?_
    rintro i ⟨hi, hz⟩
    simp -implicitDefEqProofs only [go_sem]
    refine BrA_i (fun h => ?_) (fun h => ?_)
    · have h : i < xs.length := by simp at h; omega
      have h' : i < ys.length := by omega
      have hw1 : IntKind.i64.wrap ((i : Int) + 1) = ((i + 1 : Nat) : Int) := by rw [wrap64 (by omega) (by omega)]; omega
      simp -implicitDefEqProofs only [go_sem]
      refine RegD_of sch_69_6 tysOk (by kernel_rfl) ?_
      simp -implicitDefEqProofs only [go_sem, row_getD _ _ h, row_getD _ _ h', Pr.row]
      refine ⟨⟨by omega, by omega⟩, ⟨by omega, by omega⟩, ?_⟩
      refine .one (s_eqPair xs[i] ys[i]) p_eqPair (by simp -implicitDefEqProofs only [go_sem]) trivial ?_
      simp -implicitDefEqProofs only [go_sem]
      refine BrA_i (fun h1 => ?_) (fun h1 => ?_) <;> simp -implicitDefEqProofs only [go_sem]
      · refine .to [] (i + 1) rfl ?_ ?_ (by omega) ⟨h, fun j hj hl => ?_⟩ <;> (try simp -implicitDefEqProofs only [go_sem, LeTs_undef, LeTs_same, LeTs_nil, hw1])
        rcases Nat.lt_succ_iff_lt_or_eq.1 hl with hl | rfl
        · exact hz j hj hl
        · simpa using h1
      · have : xs ≠ ys := fun e => by subst e; simp at h1
        simp [this]
    · simp -implicitDefEqProofs only [go_sem]
      have : xs = ys := List.ext_getElem hl fun j h1 h2 => hz j h1 (by simp at h; omega)
      simp [this]
  · have : xs ≠ ys := fun e => by subst e; simp at h
    simp [this]
theorem p_eqId : Plain Try.prog 23 := ⟨_, Try.func23, rfl, by decide⟩
theorem s_eqId (x y : Idt) : Spec Try.prog 23 [x.av, y.av] (fun r => r = Bo (decide (x = y))) := by
  have ext := Idt.ext_iff (x := x) (y := y)
  refine Spec.of tysOk mixed Try.func23 rfl (by decide) ?_
  simp -implicitDefEqProofs only [go_sem, Try.f23]
  refine BrA_i (fun h0 => ?_) (fun h0 => ?_) <;> simp -implicitDefEqProofs only [go_sem]
  · skip
    refine BrA_i (fun h1 => ?_) (fun h1 => ?_) <;> simp -implicitDefEqProofs only [go_sem]
    · simp only [decide_eq_true_eq] at h0 h1; simp [ext, *]
    · simp only [decide_eq_false_iff_not] at h1; simp [ext, h1]
  · simp only [decide_eq_false_iff_not] at h0; simp [ext, h0]
theorem p_eqItem : Plain Try.prog 48 := ⟨_, Try.func48, rfl, by decide⟩
theorem s_eqItem (x y : It) (hs : x.sm) : Spec Try.prog 48 [x.av, y.av] (fun r => r = Bo (decide (x = y))) := by
  have ext := It.ext_iff (x := x) (y := y)
  refine Spec.of tysOk mixed Try.func48 rfl (by decide) ?_
  simp -implicitDefEqProofs only [go_sem, Try.f48]
  refine .one (s_eqId x.id y.id) p_eqId (by simp -implicitDefEqProofs only [go_sem]) trivial ?_
  simp -implicitDefEqProofs only [go_sem]
  refine BrA_i (fun h0 => ?_) (fun h0 => ?_) <;> simp -implicitDefEqProofs only [go_sem]
  · skip
    refine .one (s_eqPairS x.fields y.fields hs) p_eqPairS (by simp -implicitDefEqProofs only [go_sem]) trivial ?_
    simp -implicitDefEqProofs only [go_sem]
    refine BrA_i (fun h1 => ?_) (fun h1 => ?_) <;> simp -implicitDefEqProofs only [go_sem]
    · simp only [decide_eq_true_eq] at h0 h1; simp [ext, *]
    · simp only [decide_eq_false_iff_not] at h1; simp [ext, h1]
  · simp only [decide_eq_false_iff_not] at h0; simp [ext, h0]
theorem p_eqItemS : Plain Try.prog 24 := ⟨_, Try.func24, rfl, by decide⟩
theorem s_eqItemS (xs ys : List It) (hx : xs.length < 4611686018427387904) (hs : ∀ x ∈ xs, x.sm) : Spec Try.prog 24 [.t (.list false 3 (xs.map It.row)), .t (.list false 3 (ys.map It.row))] (fun r => r = Bo (decide (xs = ys))) := by
  refine Spec.of tysOk mixed Try.func24 rfl (by decide) ?_
  simp -implicitDefEqProofs only [go_sem, Try.f24]
  refine BrA_i (fun h => ?_) (fun h => ?_) <;> simp -implicitDefEqProofs only [go_sem]
  · have hl : xs.length = ys.length := by simp at h; omega
    refine LoopW.slots (α := Nat) (fun i => [(5, I i)]) (fun _ => []) (fun i => xs.length - i) (fun i => i ≤ xs.length ∧ ∀ j (h : j < xs.length), j < i → xs[j] = ys[j]) 0 rfl rfl (by simp) ?_
    rintro i ⟨hi, hz⟩
    simp -implicitDefEqProofs only [go_sem]
    refine BrA_i (fun h => ?_) (fun h => ?_)
    · have h : i < xs.length := by simp at h; omega
      have h' : i < ys.length := by omega
      have hw1 : IntKind.i64.wrap ((i : Int) + 1) = ((i + 1 : Nat) : Int) := by rw [wrap64 (by omega) (by omega)]; omega
      simp -implicitDefEqProofs only [go_sem]
      refine RegD_of sch_24_6 tysOk (by kernel_rfl) ?_
      simp -implicitDefEqProofs only [go_sem, row_getD _ _ h, row_getD _ _ h', It.row]
      refine ⟨⟨by omega, by omega⟩, ⟨by omega, by omega⟩, ?_⟩
      refine .one (s_eqItem xs[i] ys[i] (hs _ (List.getElem_mem _))) p_eqItem (by simp -implicitDefEqProofs only [go_sem]) trivial ?_
      simp -implicitDefEqProofs only [go_sem]
      refine BrA_i (fun h1 => ?_) (fun h1 => ?_) <;> simp -implicitDefEqProofs only [go_sem]
      · refine .to [] (i + 1) rfl ?_ ?_ (by omega) ⟨h, fun j hj hl => ?_⟩ <;> (try simp -implicitDefEqProofs only [go_sem, LeTs_undef, LeTs_same, LeTs_nil, hw1])
        rcases Nat.lt_succ_iff_lt_or_eq.1 hl with hl | rfl
        · exact hz j hj hl
        · simpa using h1
      · have : xs ≠ ys := fun e => by subst e; simp at h1
        simp [this]
    · simp -implicitDefEqProofs only [go_sem]
      have : xs = ys := List.ext_getElem hl fun j h1 h2 => hz j h1 (by simp at h; omega)
      simp [this]
  · have : xs ≠ ys := fun e => by subst e; simp at h
    simp [this]
theorem p_eqWait : Plain Try.prog 78 := ⟨_, Try.func78, rfl, by decide⟩
theorem s_eqWait (x y : Wt) : Spec Try.prog 78 [x.av, y.av] (fun r => r = Bo (decide (x = y))) := by
  have ext := Wt.ext_iff (x := x) (y := y)
  refine Spec.of tysOk mixed Try.func78 rfl (by decide) ?_
  simp -implicitDefEqProofs only [go_sem, Try.f78]
  refine .one (s_eqId x.id y.id) p_eqId (by simp -implicitDefEqProofs only [go_sem]) trivial ?_
  simp -implicitDefEqProofs only [go_sem]
  refine BrA_i (fun h0 => ?_) (fun h0 => ?_) <;> simp -implicitDefEqProofs only [go_sem]
  · skip
    refine BrA_i (fun h1 => ?_) (fun h1 => ?_) <;> simp -implicitDefEqProofs only [go_sem]
    · skip
      refine BrA_i (fun h2 => ?_) (fun h2 => ?_) <;> simp -implicitDefEqProofs only [go_sem]
      · skip
        refine BrA_i (fun h3 => ?_) (fun h3 => ?_) <;> simp -implicitDefEqProofs only [go_sem]
        · simp only [decide_eq_true_eq] at h0 h1 h2 h3; simp [ext, *]
        · simp only [decide_eq_false_iff_not] at h3; simp [ext, h3]
      · simp only [decide_eq_false_iff_not] at h2; simp [ext, h2]
    · simp only [decide_eq_false_iff_not] at h1; simp [ext, h1]
  · simp only [decide_eq_false_iff_not] at h0; simp [ext, h0]
theorem p_eqWaitS : Plain Try.prog 70 := ⟨_, Try.func70, rfl, by decide⟩
theorem s_eqWaitS (xs ys : List Wt) (hx : xs.length < 4611686018427387904) : Spec Try.prog 70 [.t (.list false 5 (xs.map Wt.row)), .t (.list false 5 (ys.map Wt.row))] (fun r => r = Bo (decide (xs = ys))) := by
  refine Spec.of tysOk mixed Try.func70 rfl (by decide) ?_
  simp -implicitDefEqProofs only [go_sem, Try.f70]
  refine BrA_i (fun h => ?_) (fun h => ?_) <;> simp -implicitDefEqProofs only [go_sem]
  · have hl : xs.length = ys.length := by simp at h; omega
    refine LoopW.slots (α := Nat) (fun i => [(5, I i)]) (fun _ => []) (fun i => xs.length - i) (fun i => i ≤ xs.length ∧ ∀ j (h : j < xs.length), j < i → xs[j] = ys[j]) 0 rfl rfl (by simp) ?_
    rintro i ⟨hi, hz⟩
    simp -implicitDefEqProofs only [go_sem]
    refine BrA_i (fun h => ?_) (fun h => ?_)
    · have h : i < xs.length := by simp at h; omega
      have h' : i < ys.length := by omega
      have hw1 : IntKind.i64.wrap ((i : Int) + 1) = ((i + 1 : Nat) : Int) := by rw [wrap64 (by omega) (by omega)]; omega
      simp -implicitDefEqProofs only [go_sem]
      refine RegD_of sch_70_6 tysOk (by kernel_rfl) ?_
      simp -implicitDefEqProofs only [go_sem, row_getD _ _ h, row_getD _ _ h', Wt.row]
      refine ⟨⟨by omega, by omega⟩, ⟨by omega, by omega⟩, ?_⟩
      refine .one (s_eqWait xs[i] ys[i]) p_eqWait (by simp -implicitDefEqProofs only [go_sem]) trivial ?_
      simp -implicitDefEqProofs only [go_sem]
      refine BrA_i (fun h1 => ?_) (fun h1 => ?_) <;> simp -implicitDefEqProofs only [go_sem]
      · refine .to [] (i + 1) rfl ?_ ?_ (by omega) ⟨h, fun j hj hl => ?_⟩ <;> (try simp -implicitDefEqProofs only [go_sem, LeTs_undef, LeTs_same, LeTs_nil, hw1])
        rcases Nat.lt_succ_iff_lt_or_eq.1 hl with hl | rfl
        · exact hz j hj hl
        · simpa using h1
      · have : xs ≠ ys := fun e => by subst e; simp at h1
        simp [this]
    · simp -implicitDefEqProofs only [go_sem]
      have : xs = ys := List.ext_getElem hl fun j h1 h2 => hz j h1 (by simp at h; omega)
      simp [this]
  · have : xs ≠ ys := fun e => by subst e; simp at h
    simp [this]
theorem p_eqGroup : Plain Try.prog 49 := ⟨_, Try.func49, rfl, by decide⟩
theorem s_eqGroup (x y : Gr) (hs : x.sm) : Spec Try.prog 49 [x.av, y.av] (fun r => r = Bo (decide (x = y))) := by
  have ext := Gr.ext_iff (x := x) (y := y)
  refine Spec.of tysOk mixed Try.func49 rfl (by decide) ?_
  simp -implicitDefEqProofs only [go_sem, Try.f49]
  refine BrA_i (fun h0 => ?_) (fun h0 => ?_) <;> simp -implicitDefEqProofs only [go_sem]
  · skip
    refine .one (s_eqId x.last y.last) p_eqId (by simp -implicitDefEqProofs only [go_sem]) trivial ?_
    simp -implicitDefEqProofs only [go_sem]
    refine BrA_i (fun h1 => ?_) (fun h1 => ?_) <;> simp -implicitDefEqProofs only [go_sem]
    · skip
      refine .one (s_eqWaitS x.waits y.waits hs) p_eqWaitS (by simp -implicitDefEqProofs only [go_sem]) trivial ?_
      simp -implicitDefEqProofs only [go_sem]
      refine BrA_i (fun h2 => ?_) (fun h2 => ?_) <;> simp -implicitDefEqProofs only [go_sem]
      · simp only [decide_eq_true_eq] at h0 h1 h2; simp [ext, *]
      · simp only [decide_eq_false_iff_not] at h2; simp [ext, h2]
    · simp only [decide_eq_false_iff_not] at h1; simp [ext, h1]
  · simp only [decide_eq_false_iff_not] at h0; simp [ext, h0]
theorem p_eqGroupS : Plain Try.prog 25 := ⟨_, Try.func25, rfl, by decide⟩
theorem s_eqGroupS (xs ys : List Gr) (hx : xs.length < 4611686018427387904) (hs : ∀ x ∈ xs, x.sm) : Spec Try.prog 25 [.t (.list false 4 (xs.map Gr.row)), .t (.list false 4 (ys.map Gr.row))] (fun r => r = Bo (decide (xs = ys))) := by
  refine Spec.of tysOk mixed Try.func25 rfl (by decide) ?_
  simp -implicitDefEqProofs only [go_sem, Try.f25]
  refine BrA_i (fun h => ?_) (fun h => ?_) <;> simp -implicitDefEqProofs only [go_sem]
  · have hl : xs.length = ys.length := by simp at h; omega
    refine LoopW.slots (α := Nat) (fun i => [(5, I i)]) (fun _ => []) (fun i => xs.length - i) (fun i => i ≤ xs.length ∧ ∀ j (h : j < xs.length), j < i → xs[j] = ys[j]) 0 rfl rfl (by simp) ?_
    rintro i ⟨hi, hz⟩
    simp -implicitDefEqProofs only [go_sem]
    refine BrA_i (fun h => ?_) (fun h => ?_)
    · have h : i < xs.length := by simp at h; omega
      have h' : i < ys.length := by omega
      have hw1 : IntKind.i64.wrap ((i : Int) + 1) = ((i + 1 : Nat) : Int) := by rw [wrap64 (by omega) (by omega)]; omega
      simp -implicitDefEqProofs only [go_sem]
      refine RegD_of sch_25_6 tysOk (by kernel_rfl) ?_
      simp -implicitDefEqProofs only [go_sem, row_getD _ _ h, row_getD _ _ h', Gr.row]
      refine ⟨⟨by omega, by omega⟩, ⟨by omega, by omega⟩, ?_⟩
      refine .one (s_eqGroup xs[i] ys[i] (hs _ (List.getElem_mem _))) p_eqGroup (by simp -implicitDefEqProofs only [go_sem]) trivial ?_
      simp -implicitDefEqProofs only [go_sem]
      refine BrA_i (fun h1 => ?_) (fun h1 => ?_) <;> simp -implicitDefEqProofs only [go_sem]
      · refine .to [] (i + 1) rfl ?_ ?_ (by omega) ⟨h, fun j hj hl => ?_⟩ <;> (try simp -implicitDefEqProofs only [go_sem, LeTs_undef, LeTs_same, LeTs_nil, hw1])
        rcases Nat.lt_succ_iff_lt_or_eq.1 hl with hl | rfl
        · exact hz j hj hl
        · simpa using h1
      · have : xs ≠ ys := fun e => by subst e; simp at h1
        simp [this]
    · simp -implicitDefEqProofs only [go_sem]
      have : xs = ys := List.ext_getElem hl fun j h1 h2 => hz j h1 (by simp at h; omega)
      simp [this]
  · have : xs ≠ ys := fun e => by subst e; simp at h
    simp [this]
theorem p_eqStream : Plain Try.prog 9 := ⟨_, Try.func9, rfl, by decide⟩
theorem s_eqStream (x y : Stm) (hs : x.sm) : Spec Try.prog 9 [x.av, y.av] (fun r => r = Bo (decide (x = y))) := by
  have ext := Stm.ext_iff (x := x) (y := y)
  refine Spec.of tysOk mixed Try.func9 rfl (by decide) ?_
  simp -implicitDefEqProofs only [go_sem, Try.f9]
  refine .one (s_eqId x.last y.last) p_eqId (by simp -implicitDefEqProofs only [go_sem]) trivial ?_
  simp -implicitDefEqProofs only [go_sem]
  refine BrA_i (fun h0 => ?_) (fun h0 => ?_) <;> simp -implicitDefEqProofs only [go_sem]
  · skip
    refine .one (s_eqItemS x.items y.items hs.1 hs.2.2.1) p_eqItemS (by simp -implicitDefEqProofs only [go_sem]) trivial ?_
    simp -implicitDefEqProofs only [go_sem]
    refine BrA_i (fun h1 => ?_) (fun h1 => ?_) <;> simp -implicitDefEqProofs only [go_sem]
    · skip
      refine .one (s_eqGroupS x.groups y.groups hs.2.1 hs.2.2.2) p_eqGroupS (by simp -implicitDefEqProofs only [go_sem]) trivial ?_
      simp -implicitDefEqProofs only [go_sem]
      refine BrA_i (fun h2 => ?_) (fun h2 => ?_) <;> simp -implicitDefEqProofs only [go_sem]
      · simp only [decide_eq_true_eq] at h0 h1 h2; simp [ext, *]
      · simp only [decide_eq_false_iff_not] at h2; simp [ext, h2]
    · simp only [decide_eq_false_iff_not] at h1; simp [ext, h1]
  · simp only [decide_eq_false_iff_not] at h0; simp [ext, h0]
end Go.Proofs.Ytofiljboaegekac.Am
namespace Go.Proofs.Ytofiljboaegekac.Am
open Go
set_option maxRecDepth 100000
set_option linter.unusedSimpArgs false
set_option linter.unusedVariables false
def Stm.mw (s : Stm) : Nat := wSum It.mw s.items + wSum Gr.mw s.groups
def Stm.m (s : Stm) (k : Int) : Stm := ⟨s.last, mkAll It.m It.mw s.items k, mkAll Gr.m Gr.mw s.groups (k + (wSum It.mw s.items : Nat))⟩
theorem Stm.m_last (s : Stm) (k : Int) : (s.m k).last = s.last := rfl
attribute [go_sem] Stm.m_last
theorem wSum_map_le {α : Type} (f g : α → Nat) (a b : Nat) (xs : List α) (h : ∀ x ∈ xs, f x ≤ a + b * g x) : wSum f xs ≤ a * xs.length + b * wSum g xs := by
  induction xs with
  | nil => simp [wSum]
  | cons x xs ih =>
    have h1 := h x (by simp)
    have h2 := ih (fun y hy => h y (by simp [hy]))
    simp only [wSum_cons, List.length_cons, Nat.mul_add, Nat.mul_one]
    omega
theorem Stm.mw_le (s : Stm) : s.mw ≤ 5 * s.w := by
  have h1 : wSum It.mw s.items ≤ 2 * s.items.length + 2 * wSum It.w s.items := wSum_map_le _ _ _ _ _ fun x _ => by
    have := wSum_map_le Pr.mw Pr.w 2 0 x.fields (fun x _ => by unfold Pr.mw; omega)
    simp only [It.mw, It.w, wAll]; omega
  have h2 : wSum Gr.mw s.groups ≤ 3 * s.groups.length + 5 * wSum Gr.w s.groups := wSum_map_le _ _ _ _ _ fun x _ => by
    have := wSum_map_le Wt.mw Wt.w 5 0 x.waits (fun x _ => by unfold Wt.mw; omega)
    simp only [Gr.mw, Gr.w, wAll]; omega
  simp only [Stm.mw, Stm.w, wAll]
  omega
theorem Stm.md_w {s : Stm} (h : s.w ≤ 1048576) : s.md := by
  simp only [Stm.w, wAll] at h
  refine ⟨by omega, by omega, fun i hi => ?_, fun g hg => ?_⟩
  · have := wSum_mem It.w hi
    simp only [It.w, wAll] at this; omega
  · have := wSum_mem Gr.w hg
    simp only [Gr.w, wAll] at this; omega
theorem p_markStream : Plain Try.prog 10 := ⟨_, Try.func10, rfl, by decide⟩
theorem s_markStream (s : Stm) (k : Int) (hk : 0 ≤ k) (hb : k + (s.mw : Nat) < 10000000000000000) : SpecO Try.prog 10 [.agg [I s.last.t, I s.last.n, .refw 9000, .refw 9001], I k] [(9000, .rows 3 (s.items.map It.rowO)), (9001, .rows 4 (s.groups.map Gr.rowO))]
    (fun r h => r = I (k + (s.mw : Nat)) ∧ h = [(9000, .rows 3 ((s.m k).items.map It.rowO)), (9001, .rows 4 ((s.m k).groups.map Gr.rowO))]) := by
  have hk1 : s.mw = wSum It.mw s.items + wSum Gr.mw s.groups := rfl
  have l1 := wSum_len (w := It.mw) (fun _ => by unfold It.mw; omega) s.items
  have l2 := wSum_len (w := Gr.mw) (fun _ => by unfold Gr.mw; omega) s.groups
  refine SpecO.of tysOk mixed Try.func10 rfl (by decide) ?_
  simp -implicitDefEqProofs only [go_sem, Try.f10]
  refine CallW.o [(9000, 9000)] (s_markItemS s.items k hk (by omega) (by omega)) p_markItemS o26 rfl (by conv => lhs; simp -implicitDefEqProofs only [go_sem]) (by simp -implicitDefEqProofs only [go_sem]) ?_
  rintro _ _ ⟨rfl, rfl⟩
  simp -implicitDefEqProofs only [go_sem]
  refine CallW.o [(9000, 9001)] (s_markGroupS s.groups (k + (wSum It.mw s.items : Nat)) (by omega) (by omega) (by omega)) p_markGroupS o27 rfl (by conv => lhs; simp -implicitDefEqProofs only [go_sem]) (by simp -implicitDefEqProofs only [go_sem]) ?_
  rintro _ _ ⟨rfl, rfl⟩
  simp -implicitDefEqProofs only [go_sem, mkAll_len]
  refine ⟨?_, rfl⟩
  rw [hk1]; congr 2; omega
theorem It.mk_rowsO (l : List It) : (l.map It.rowO).map (List.map (T.mk false)) = l.map It.row := by
  rw [List.map_map]; exact List.map_congr_left fun x _ => by simp only [Function.comp, It.rowO, It.row, List.map_cons, List.map_nil, T.mk_list, T.mk_int, Pr.mk_rows]
theorem Gr.mk_rowsO (l : List Gr) : (l.map Gr.rowO).map (List.map (T.mk false)) = l.map Gr.row := by
  rw [List.map_map]; exact List.map_congr_left fun x _ => by simp only [Function.comp, Gr.rowO, Gr.row, List.map_cons, List.map_nil, T.mk_list, T.mk_int, T.mk_str, Wt.mk_rows]
attribute [go_sem] It.mk_rowsO Gr.mk_rowsO
theorem deep_rows {α : Type} (row : α → List T) (h : ∀ x, ∀ t ∈ row x, Deep t) (n : Nat) (l : List α) : Deep (.list true n (l.map row)) :=
  .list _ _ fun r hr x hx => by
    obtain ⟨y, _, rfl⟩ := List.mem_map.1 hr
    exact h y x hx
theorem deep_prs (l : List Pr) : Deep (.list true 2 (l.map Pr.row)) := deep_rows _ (fun x t ht => by simp only [Pr.row, List.mem_cons, List.not_mem_nil, or_false] at ht; rcases ht with rfl | rfl <;> exact .sc _ trivial) _ _
theorem deep_wts (l : List Wt) : Deep (.list true 5 (l.map Wt.row)) := deep_rows _ (fun x t ht => by simp only [Wt.row, List.mem_cons, List.not_mem_nil, or_false] at ht; rcases ht with rfl | rfl | rfl | rfl | rfl <;> exact .sc _ trivial) _ _
theorem deep_its (l : List It) : Deep (.list true 3 (l.map It.rowO)) := deep_rows _ (fun x t ht => by simp only [It.rowO, List.mem_cons, List.not_mem_nil, or_false] at ht; rcases ht with rfl | rfl | rfl <;> first | exact .sc _ trivial | exact deep_prs _) _ _
theorem deep_grs (l : List Gr) : Deep (.list true 4 (l.map Gr.rowO)) := deep_rows _ (fun x t ht => by simp only [Gr.rowO, List.mem_cons, List.not_mem_nil, or_false] at ht; rcases ht with rfl | rfl | rfl | rfl <;> first | exact .sc _ trivial | exact deep_wts _) _ _
theorem deep_avO (s : Stm) : DeepR s.avO := ⟨trivial, trivial, deep_its _, deep_grs _, trivial⟩
end Go.Proofs.Ytofiljboaegekac.Am
namespace Go.Proofs.Ytofiljboaegekac.Am
open Go
set_option linter.unusedSimpArgs false
set_option linter.unusedVariables false
theorem bl_irrefl : ∀ x : List UInt8, Op.bytesLess x x = false
  | [] => rfl
  | a :: x => by simp [Op.bytesLess, bl_irrefl x]
theorem bl_trans : ∀ {x y z : List UInt8}, Op.bytesLess x y = true → Op.bytesLess y z = true → Op.bytesLess x z = true
  | _, [], _, h, _ => by simp [Op.bytesLess] at h
  | _, _ :: _, [], _, h => by simp [Op.bytesLess] at h
  | [], _ :: _, _ :: _, _, _ => rfl
  | a :: x, b :: y, c :: z, h, h' => by
    simp only [Op.bytesLess, Bool.or_eq_true, Bool.and_eq_true, decide_eq_true_eq, beq_iff_eq] at h h' ⊢
    rcases h with h | ⟨rfl, h⟩
    · rcases h' with h' | ⟨rfl, h'⟩
      · exact .inl (UInt8.lt_trans h h')
      · exact .inl h
    · rcases h' with h' | ⟨rfl, h'⟩
      · exact .inl h'
      · exact .inr ⟨rfl, bl_trans h h'⟩
theorem bl_total : ∀ {x y : List UInt8}, x ≠ y → Op.bytesLess x y = false → Op.bytesLess y x = true
  | [], [], h, _ => absurd rfl h
  | [], _ :: _, _, h => by simp [Op.bytesLess] at h
  | _ :: _, [], _, _ => rfl
  | a :: x, b :: y, h, h' => by
    simp only [Op.bytesLess, Bool.or_eq_false_iff, Bool.and_eq_false_iff, decide_eq_false_iff_not, beq_eq_false_iff_ne, ne_eq] at h'
    simp only [Op.bytesLess, Bool.or_eq_true, Bool.and_eq_true, decide_eq_true_eq, beq_iff_eq]
    obtain ⟨h1, h2⟩ := h'
    by_cases e : a = b
    · subst e
      refine .inr ⟨rfl, bl_total (fun e => h (by rw [e])) (by simpa using h2)⟩
    · have hne : a.toNat ≠ b.toNat := fun h => e (UInt8.toNat_inj.1 h)
      have h3 : a.toNat < b.toNat ∨ b.toNat < a.toNat := by omega
      rcases h3 with h3 | h3
      · exact absurd (UInt8.lt_iff_toNat_lt.2 h3) h1
      · exact .inl (UInt8.lt_iff_toNat_lt.2 h3)
theorem bytesLt_irrefl (a : ByteArray) : bytesLt a a = false := bl_irrefl _
theorem bytesLt_trans {a b c : ByteArray} (h : bytesLt a b = true) (h' : bytesLt b c = true) : bytesLt a c = true := bl_trans h h'
theorem bytesLt_total {a b : ByteArray} (h : a ≠ b) (h' : bytesLt a b = false) : bytesLt b a = true := by
  refine bl_total (fun e => h ?_) h'
  have := bytesEq_iff a b
  unfold bytesEq at this
  rw [e] at this
  simpa using this
theorem allAt_cons {α : Type} (good : α → Bool) (link : α → α → Bool) (x y : α) (l : List α) : allAt good link (x :: y :: l) = (good x && link x y && allAt good link (y :: l)) := by
  simp only [allAt, List.all_cons, List.tail_cons, List.zip_cons_cons]
  cases good x <;> cases link x y <;> simp
end Go.Proofs.Ytofiljboaegekac.Am
namespace Go.Proofs.Ytofiljboaegekac.Am
open Go
set_option maxRecDepth 100000
set_option maxHeartbeats 1000000
set_option linter.unusedSimpArgs false
set_option linter.unusedVariables false
theorem It.mkO_rows (l : List It) : (l.map It.rowO).map (List.map (T.mk false)) = l.map It.row := by
  rw [List.map_map]
  exact List.map_congr_left fun x _ => by simp only [Function.comp, It.rowO, It.row, List.map_cons, List.map_nil, T.mk_list, T.mk_int, Pr.mk_rows]
theorem Gr.mkO_rows (l : List Gr) : (l.map Gr.rowO).map (List.map (T.mk false)) = l.map Gr.row := by
  rw [List.map_map]
  exact List.map_congr_left fun x _ => by simp only [Function.comp, Gr.rowO, Gr.row, List.map_cons, List.map_nil, T.mk_list, T.mk_int, T.mk_str, Wt.mk_rows]
attribute [go_sem] It.mkO_rows Gr.mkO_rows
def gAtM : List Gr → ByteArray → Nat
  | [], _ => 0
  | x :: l, f => if bytesLt x.name f = true then gAtM l f + 1 else 0
theorem gAtM_le : ∀ (l : List Gr) (f : ByteArray), gAtM l f ≤ l.length
  | [], _ => Nat.le_refl _
  | x :: l, f => by
    have := gAtM_le l f
    simp only [gAtM, List.length_cons]; split <;> omega
theorem gAtM_of {l : List Gr} {f : ByteArray} : ∀ {i : Nat}, i ≤ l.length → (∀ j (h : j < l.length), j < i → bytesLt l[j].name f = true) → (∀ h : i < l.length, bytesLt l[i].name f = false) → gAtM l f = i := by
  induction l with
  | nil => intro i hi _ _; simp at hi; simp [gAtM, hi]
  | cons x l ih =>
    intro i hi hj hs
    cases i with
    | zero =>
      have := hs (by simp)
      simp only [List.getElem_cons_zero] at this
      simp [gAtM, this]
    | succ i =>
      have h0 := hj 0 (by simp) (by omega)
      simp only [List.getElem_cons_zero] at h0
      simp only [gAtM, h0, if_true]
      rw [ih (i := i) (by simpa using hi) (fun j h hji => by have := hj (j + 1) (by simpa using h) (by omega); rwa [List.getElem_cons_succ] at this) (fun h => by have := hs (by simpa using h); rwa [List.getElem_cons_succ] at this)]
def insG (gs : List Gr) (g : Gr) : List Gr := gs.take (gAtM gs g.name) ++ g :: gs.drop (gAtM gs g.name)
theorem insG_len (gs : List Gr) (g : Gr) : (insG gs g).length = gs.length + 1 := by
  have := gAtM_le gs g.name
  simp only [insG, List.length_append, List.length_take, List.length_cons, List.length_drop]; omega
theorem insG_mem {gs : List Gr} {g x : Gr} (h : x ∈ insG gs g) : x = g ∨ x ∈ gs := by
  unfold insG at h
  rcases List.mem_append.1 h with h | h
  · exact .inr (List.mem_of_mem_take h)
  · rcases List.mem_cons.1 h with h | h
    · exact .inl h
    · exact .inr (List.mem_of_mem_drop h)
abbrev newS (s : Stm) (name : ByteArray) (fr : Idt) : Stm := ⟨s.last, s.items, insG s.groups ⟨name, fr, []⟩⟩
def newM (s : Stm) (name : ByteArray) (fr : Idt) : Stm × Bool :=
  if streamOkM s = true then (if streamOkM (newS s name fr) = true then (newS s name fr, true) else (s, false)) else (.z, false)
abbrev newR (x : Stm × Bool) : AV := .tup [x.1.avO, Bo x.2]
theorem deep_newR (x : Stm × Bool) : DeepR (newR x) := ⟨deep_avO x.1, trivial, trivial⟩
def newG (gs : List Gr) (g : Gr) : List (List T) := (gs.take (gAtM gs g.name)).map Gr.row ++ [g.rowO] ++ (gs.drop (gAtM gs g.name)).map Gr.row
theorem newG_mk (gs : List Gr) (g : Gr) : (newG gs g).map (List.map (T.mk false)) = (insG gs g).map Gr.row := by
  unfold newG insG
  rw [List.map_append, List.map_append, Gr.mk_rows, Gr.mk_rows, List.map_append, List.map_cons, List.append_assoc]
  have := Gr.mkO_rows [g]
  simp only [List.map_cons, List.map_nil] at this
  rw [List.map_cons, List.map_nil, this]; rfl
attribute [go_sem] newG_mk
abbrev newRS (s : Stm) (name : ByteArray) (fr : Idt) : AV := .tup [.agg [I s.last.t, I s.last.n, .own (.list true 3 (s.items.map It.rowO)), .own (.list true 4 (newG s.groups ⟨name, fr, []⟩))], Bo true]
theorem shared_Gr (l : List Gr) : sharedRows (l.map Gr.rowO) = l.map Gr.row := by
  unfold sharedRows
  rw [List.map_map]; exact List.map_congr_left fun x _ => rfl
theorem p_sGroupNew : Plain Try.prog 5 := ⟨_, Try.func5, rfl, by decide⟩
theorem s_sGroupNew (s : Stm) (name : ByteArray) (fr : Idt) (hs : s.md) (hw : ∀ g ∈ s.groups, g.waits.length < 2000000) : Spec Try.prog 5 [s.av, .t (.str name), fr.av] (fun r => r = newR (newM s name fr) ∨ (r = newRS s name fr ∧ newM s name fr = (newS s name fr, true))) := by
  have hsm := hs.sm.1
  have hs2 := hs.2.1
  have hlN := insG_len s.groups ⟨name, fr, []⟩
  have hsmN : (newS s name fr).sm := ⟨hsm.1, by show (insG _ _).length < _; omega, hsm.2.2.1, fun g hg => (insG_mem hg).elim (fun e => by subst e; show (0 : Nat) < _; omega) (hsm.2.2.2 g)⟩
  have hwN : ∀ g ∈ (newS s name fr).groups, g.waits.length < 2000000 := fun g hg => (insG_mem hg).elim (fun e => by subst e; show (0 : Nat) < _; omega) (hw g)
  refine Spec.of tysOk mixed Try.func5 rfl (by decide) ?_
  simp -implicitDefEqProofs only [go_sem, Try.f5]
  refine CallW.one (s_sStreamOk s hsm hw) p_sStreamOk (by first | (simp -implicitDefEqProofs only [go_sem]; done) | ((conv => lhs; simp -implicitDefEqProofs only [go_sem]); done) | (simp -implicitDefEqProofs only [go_sem]; rfl) | rfl) (by first | trivial | (simp [DeepR, DeepV, DeepVs, DeepC, DeepCs, T.scal]; done)) ?_
  simp -implicitDefEqProofs only [go_sem]
  cases hok : streamOkM s
  · simp -implicitDefEqProofs only [go_sem]
    left; simp [newM, hok]
  simp -implicitDefEqProofs only [go_sem]
  refine CallW.onep (s_l9Copy s hs) p_l9Copy (by first | (simp -implicitDefEqProofs only [go_sem]; done) | ((conv => lhs; simp -implicitDefEqProofs only [go_sem]); done) | (simp -implicitDefEqProofs only [go_sem]; rfl) | rfl) rfl ?_
  simp -implicitDefEqProofs only [go_sem]
  refine LoopW.slotsM [false, true, false, true, false, true, true, false, true, true, false, false, false, false, false, false, false, false, false, false, false, false, false, false, false, false, false, false, false, false, false, false, false, false, false, false, false, false, false, false, false, false, false, false, false, false, false, false, false, false, false, false, false, false, false, false] (α := Nat) (fun i => [(9, I i)]) (fun i => []) (fun i => s.groups.length - i) (fun i => i ≤ s.groups.length ∧ ∀ j (h : j < s.groups.length), j < i → bytesLt s.groups[j].name name = true) 0 (by simp -implicitDefEqProofs only [go_sem, LeTs_undef, LeTs_same, LeTs_nil]; try simp [LeTs]) rfl ⟨by omega, fun _ _ h => by omega⟩ ?_
  rintro i ⟨hi, hj⟩
  simp -implicitDefEqProofs only [go_sem]
  have last : gAtM s.groups name = i → True := fun _ => trivial
  refine BrA_i (fun h => ?_) (fun h => ?_) <;> simp -implicitDefEqProofs only [go_sem]
  · skip
    have h : i < s.groups.length := by simp at h; omega
    have h0i : (0 : Int) ≤ i := by omega
    have h1i : (i : Int) < s.groups.length := by omega
    have wi : IntKind.i64.wrap ((i : Int) + 1) = ((i + 1 : Nat) : Int) := by rw [wrap64 (by omega) (by omega)]; omega
    have hr := row_getD Gr.rowO s.groups h
    simp only [Gr.rowO] at hr
    simp -implicitDefEqProofs only [go_sem, h, h0i, h1i, hr, wi]
    refine BrA_i (fun h2 => ?_) (fun h2 => ?_) <;> simp -implicitDefEqProofs only [go_sem, h, h0i, h1i, hr, wi]
    · refine .to [] (i + 1) rfl ?_ ?_ (by omega) ⟨by omega, fun j hj2 hj3 => by
        by_cases hji : j < i
        · exact hj j hj2 hji
        · obtain rfl : j = i := by omega
          exact h2⟩ <;> simp -implicitDefEqProofs only [go_sem, LeTs_undef, LeTs_same, LeTs_nil, wi]
    · have e1 := gAtM_of hi hj (fun _ => h2)
      clear h2 hr wi h1i h0i hj last
      subst e1
      clear hi
      have hg := gAtM_le s.groups name
      have a0 : (0 : Int) ≤ (gAtM s.groups name : Nat) := by omega
      have a1 : ((gAtM s.groups name : Nat) : Int) ≤ s.groups.length := by omega
      have e1 : sharedRows (List.take (gAtM s.groups name - Int.toNat 0) (List.drop (Int.toNat 0) (List.map Gr.rowO s.groups))) = (s.groups.take (gAtM s.groups name)).map Gr.row := by
        rw [show Int.toNat 0 = 0 from rfl, Nat.sub_zero, List.drop_zero, ← List.map_take, shared_Gr]
      have e1' : sharedRows (List.take (gAtM s.groups name - Int.toNat 0) (List.drop 0 (List.drop (Int.toNat 0) (List.map Gr.rowO s.groups)))) = (s.groups.take (gAtM s.groups name)).map Gr.row := by
        rw [show Int.toNat 0 = 0 from rfl, Nat.sub_zero, List.drop_zero, List.drop_zero, ← List.map_take, shared_Gr]
      have e2 : sharedRows (List.take (s.groups.length - gAtM s.groups name) (List.drop (gAtM s.groups name) (List.map Gr.rowO s.groups))) = (s.groups.drop (gAtM s.groups name)).map Gr.row := by
        rw [← List.map_drop, List.take_of_length_le (by simp), shared_Gr]
      have e3 : (s.groups.take (gAtM s.groups name)).map Gr.row ++ [[T.str name, T.int .i64 fr.t, T.int .i64 fr.n, T.list true 5 []]] ++ (s.groups.drop (gAtM s.groups name)).map Gr.row = newG s.groups ⟨name, fr, []⟩ := rfl
      refine RegD_to sch_5_7 ?sx tysOk (by kernel_rfl) ?ga ?gb
      case ga =>
        simp -implicitDefEqProofs only [go_sem, a0, a1]
        simp only [e1, e1', e2, e3]
        repeat' (first
          | exact rfl
          | (refine And.intro (a := roomy _ _) (by unfold roomy; simp only [List.length_map, List.length_take, List.length_append, List.length_cons, List.length_nil, List.length_drop]; omega) ?_)
          | (refine And.intro (a := (_ : Int) ≤ _) (by omega) ?_)
          | refine ⟨?_, ?_⟩)
      simp -implicitDefEqProofs only [go_sem]
      refine CallW.one (s_sStreamOk (newS s name fr) hsmN hwN) p_sStreamOk (by first | (simp -implicitDefEqProofs only [go_sem]; done) | ((conv => lhs; simp -implicitDefEqProofs only [go_sem]); done) | (simp -implicitDefEqProofs only [go_sem]; rfl) | rfl) (by first | trivial | (simp [DeepR, DeepV, DeepVs, DeepC, DeepCs, T.scal]; done)) ?_
      simp -implicitDefEqProofs only [go_sem]
      cases hok2 : streamOkM (newS s name fr)
      · simp -implicitDefEqProofs only [go_sem]
        refine CallW.onep (s_l9Copy s hs) p_l9Copy (by first | (simp -implicitDefEqProofs only [go_sem]; done) | ((conv => lhs; simp -implicitDefEqProofs only [go_sem]); done) | (simp -implicitDefEqProofs only [go_sem]; rfl) | rfl) rfl ?_
        simp -implicitDefEqProofs only [go_sem]
        left; simp [newM, hok, hok2]
      · simp -implicitDefEqProofs only [go_sem]
        right; simp [newM, hok, hok2]
  · have h : i = s.groups.length := by simp at h; omega
    have e1 := gAtM_of hi hj (fun h => by omega)
    clear h hj last
    subst e1
    clear hi
    have hg := gAtM_le s.groups name
    have a0 : (0 : Int) ≤ (gAtM s.groups name : Nat) := by omega
    have a1 : ((gAtM s.groups name : Nat) : Int) ≤ s.groups.length := by omega
    have e1 : sharedRows (List.take (gAtM s.groups name - Int.toNat 0) (List.drop (Int.toNat 0) (List.map Gr.rowO s.groups))) = (s.groups.take (gAtM s.groups name)).map Gr.row := by
      rw [show Int.toNat 0 = 0 from rfl, Nat.sub_zero, List.drop_zero, ← List.map_take, shared_Gr]
    have e1' : sharedRows (List.take (gAtM s.groups name - Int.toNat 0) (List.drop 0 (List.drop (Int.toNat 0) (List.map Gr.rowO s.groups)))) = (s.groups.take (gAtM s.groups name)).map Gr.row := by
      rw [show Int.toNat 0 = 0 from rfl, Nat.sub_zero, List.drop_zero, List.drop_zero, ← List.map_take, shared_Gr]
    have e2 : sharedRows (List.take (s.groups.length - gAtM s.groups name) (List.drop (gAtM s.groups name) (List.map Gr.rowO s.groups))) = (s.groups.drop (gAtM s.groups name)).map Gr.row := by
      rw [← List.map_drop, List.take_of_length_le (by simp), shared_Gr]
    have e3 : (s.groups.take (gAtM s.groups name)).map Gr.row ++ [[T.str name, T.int .i64 fr.t, T.int .i64 fr.n, T.list true 5 []]] ++ (s.groups.drop (gAtM s.groups name)).map Gr.row = newG s.groups ⟨name, fr, []⟩ := rfl
    refine RegD_to sch_5_7 ?sx2 tysOk (by kernel_rfl) ?ga2 ?gb2
    case ga2 =>
      simp -implicitDefEqProofs only [go_sem, a0, a1]
      simp only [e1, e1', e2, e3]
      repeat' (first
        | exact rfl
        | (refine And.intro (a := roomy _ _) (by unfold roomy; simp only [List.length_map, List.length_take, List.length_append, List.length_cons, List.length_nil, List.length_drop]; omega) ?_)
        | (refine And.intro (a := (_ : Int) ≤ _) (by omega) ?_)
        | refine ⟨?_, ?_⟩)
    simp -implicitDefEqProofs only [go_sem]
    refine CallW.one (s_sStreamOk (newS s name fr) hsmN hwN) p_sStreamOk (by first | (simp -implicitDefEqProofs only [go_sem]; done) | ((conv => lhs; simp -implicitDefEqProofs only [go_sem]); done) | (simp -implicitDefEqProofs only [go_sem]; rfl) | rfl) (by first | trivial | (simp [DeepR, DeepV, DeepVs, DeepC, DeepCs, T.scal]; done)) ?_
    simp -implicitDefEqProofs only [go_sem]
    cases hok2 : streamOkM (newS s name fr)
    · simp -implicitDefEqProofs only [go_sem]
      refine CallW.onep (s_l9Copy s hs) p_l9Copy (by first | (simp -implicitDefEqProofs only [go_sem]; done) | ((conv => lhs; simp -implicitDefEqProofs only [go_sem]); done) | (simp -implicitDefEqProofs only [go_sem]; rfl) | rfl) rfl ?_
      simp -implicitDefEqProofs only [go_sem]
      left; simp [newM, hok, hok2]
    · simp -implicitDefEqProofs only [go_sem]
      right; simp [newM, hok, hok2]
end Go.Proofs.Ytofiljboaegekac.Am
namespace Go.Proofs.Ytofiljboaegekac.Am
open Go
set_option linter.unusedVariables false
def mkC : AV → AV
  | .t x => .t (x.mk false)
  | x => x
def mkCs : List AV → List AV
  | [] => []
  | x :: l => mkC x :: mkCs l
def mkV : AV → AV
  | .agg cs => .agg (mkCs cs)
  | x => mkC x
def mkVs : List AV → List AV
  | [] => []
  | x :: l => mkV x :: mkVs l
def mkR : AV → AV
  | .tup l => .tup (mkVs l)
  | x => mkV x
theorem ResC.mk {c : Cx} {col : Col} {i j : Nat} {x : AV} {v : Value} (h : ResC c col i j x v) : ResC c col i j (mkC x) v := by
  cases x <;> first | exact Rd.mk false h | exact h
theorem ResCs.mk {c : Cx} {col : Col} {i : Nat} : ∀ {xs : List AV} {vs : List Value} {j : Nat}, ResCs c col i j xs vs → ResCs c col i j (mkCs xs) vs
  | [], [], _, _ => trivial
  | x :: xs, v :: vs, j, h => ⟨ResC.mk h.1, ResCs.mk h.2⟩
  | [], _ :: _, _, h => h.elim
  | _ :: _, [], _, h => h.elim
theorem ResV.mk {c : Cx} {col : Col} {i : Nat} {x : AV} {v : Value} (h : ResV c col i x v) : ResV c col i (mkV x) v := by
  cases x with
  | agg cs => obtain ⟨vs, e, h⟩ := h; exact ⟨vs, e, ResCs.mk h⟩
  | t y => exact ResC.mk (c := c) (col := col) (i := i) (j := 0) (x := .t y) h
  | _ => exact h
theorem ResVs.mk {c : Cx} {col : Col} : ∀ {xs : List AV} {vs : List Value} {i : Nat}, ResVs c col i xs vs → ResVs c col i (mkVs xs) vs
  | [], [], _, _ => trivial
  | x :: xs, v :: vs, i, h => ⟨ResV.mk h.1, ResVs.mk h.2⟩
  | [], _ :: _, _, h => h.elim
  | _ :: _, [], _, h => h.elim
theorem ResR.mk {c : Cx} {col : Col} {r : AV} {v : Value} (h : ResR c col r v) : ResR c col (mkR r) v := by
  cases r with
  | tup xs => obtain ⟨vs, e, h⟩ := h; exact ⟨vs, e, ResVs.mk h⟩
  | agg cs => exact ResV.mk (c := c) (col := col) (i := 0) (x := .agg cs) h
  | t y => exact ResV.mk (c := c) (col := col) (i := 0) (x := .t y) h
  | _ => exact h
theorem Spec.mkR {P : Program} {f : FuncId} {args : List AV} {Q : AV → Prop} (h : Spec P f args Q) : Spec P f args (fun r => ∃ r0, Q r0 ∧ r = Am.mkR r0) := fun w D vs hD hv => (h w D vs hD hv).mono fun e w' ⟨v, r, he, hq, hs, col, hc, hr⟩ =>
  ⟨v, Am.mkR r, he, ⟨r, hq, rfl⟩, hs, col, hc, hr.mk⟩
theorem LeS.freeze {s s' : St} {k : Nat} (h : s.freeze k = some s') : LeS s s' := fun B a w ⟨ρ, col, hs⟩ => by
  obtain ⟨sz, rs, hk, hn, hp, rfl⟩ := freeze_some h
  exact ⟨_, _, (hs.freeze hk hn hp).1⟩
theorem LeS.freezes : ∀ {ks : List Nat} {s s' : St}, s.freezes ks = some s' → LeS s s'
  | [], s, s', h => by simp [St.freezes] at h; subst h; exact LeS.refl _
  | k :: ks, s, s', h => by
    simp only [St.freezes, Option.bind_eq_some_iff] at h
    obtain ⟨s1, h1, h2⟩ := h
    exact (LeS.freeze h1).trans (LeS.freezes h2)
theorem LeS.rfz {s s' : St} {k : Nat} (h : s.rfz k = some s') : LeS s s' := fun B a w ⟨ρ, col, hs⟩ => by
  obtain ⟨sz, rs, hk, hn, hp, rfl⟩ := rfz_some h
  exact ⟨_, _, (hs.rfz hk hn hp).1⟩
theorem LoopW.fz {body : (Exit → St → Prop) → St → Prop} {K : Exit → St → Prop} {s s0 : St} (ks : List Nat) (h : s.freezes ks = some s0) (hl : LoopW body K s0) : LoopW body K s := hl.le (LeS.freezes h)
attribute [go_sem] mkC mkCs mkV mkVs mkR
end Go.Proofs.Ytofiljboaegekac.Am
namespace Go.Proofs.Ytofiljboaegekac.Am
open Go
set_option linter.unusedVariables false
set_option linter.unusedSimpArgs false
section
variable {α : Type} {lt : α → α → Bool}
def insB (lt : α → α → Bool) (x : α) : List α → List α
  | [] => [x]
  | y :: l => if lt x y = true then y :: insB lt x l else x :: y :: l
def insR (lt : α → α → Bool) (acc : List α) (x : α) : List α := (insB lt x acc.reverse).reverse
def sortR (lt : α → α → Bool) (l : List α) : List α := l.foldl (insR lt) []
theorem insB_len (x : α) (l : List α) : (insB lt x l).length = l.length + 1 := by
  induction l with
  | nil => rfl
  | cons y l ih => simp only [insB]; split <;> simp [ih]
theorem insR_len (acc : List α) (x : α) : (insR lt acc x).length = acc.length + 1 := by simp [insR, insB_len]
theorem foldR_len (l acc : List α) : (l.foldl (insR lt) acc).length = acc.length + l.length := by
  induction l generalizing acc with
  | nil => rfl
  | cons x l ih => rw [List.foldl_cons, ih, insR_len, List.length_cons]; omega
theorem sortR_len (l : List α) : (sortR lt l).length = l.length := by simp [sortR, foldR_len]
theorem insB_pass (x : α) (q r : List α) (h : ∀ y ∈ q, lt x y = true) : insB lt x (q ++ r) = q ++ insB lt x r := by
  induction q with
  | nil => rfl
  | cons y q ih => rw [List.cons_append, insB, if_pos (h y (by simp)), ih (fun z hz => h z (by simp [hz])), List.cons_append]
def Mid (lt : α → α → Bool) (acc : List α) (x : α) (rest D : List α) (j : Nat) : Prop :=
  ∃ p q, acc = p ++ q ∧ j = p.length ∧ D = p ++ x :: q ++ rest ∧ ∀ y ∈ q, lt x y = true
theorem Mid.start (acc : List α) (x : α) (rest : List α) : Mid lt acc x rest (acc ++ x :: rest) acc.length :=
  ⟨acc, [], by simp, rfl, by simp, fun y h => by cases h⟩
theorem Mid.len {acc rest D : List α} {x : α} {j : Nat} (h : Mid lt acc x rest D j) : D.length = acc.length + 1 + rest.length ∧ j ≤ acc.length := by
  obtain ⟨p, q, rfl, rfl, rfl, _⟩ := h
  simp; omega
theorem Mid.step {acc rest D : List α} {x : α} {j : Nat} (h : Mid lt acc x rest D (j + 1)) (h1 : j + 1 < D.length) (hl : lt D[j + 1] D[j] = true) : Mid lt acc x rest ((D.set (j + 1) D[j]).set j D[j + 1]) j := by
  obtain ⟨p, q, h2, h3, h4, h5⟩ := h
  rcases List.eq_nil_or_concat p with rfl | ⟨p', y, rfl⟩
  · simp at h3
  · simp at h3
    subst h3 h4
    have e : p'.concat y ++ x :: q ++ rest = p' ++ y :: x :: (q ++ rest) := by simp
    have g0 : (p'.concat y ++ x :: q ++ rest)[p'.length]'(by simp) = y := by simp [List.getElem_append]
    have g1 : (p'.concat y ++ x :: q ++ rest)[p'.length + 1]'h1 = x := by simp [List.getElem_append]
    rw [g0, g1] at hl ⊢
    refine ⟨p', y :: q, by rw [h2]; simp, rfl, ?_, fun z hz => ?_⟩
    · rw [e, List.set_append_right _ _ (by omega), List.set_append_right _ _ (by omega)]
      simp
    · rcases List.mem_cons.1 hz with rfl | hz
      · exact hl
      · exact h5 z hz
theorem insR_at {p q : List α} {x : α} (h5 : ∀ y ∈ q, lt x y = true) (h6 : ∀ y ∈ p.getLast?, lt x y = false) : insR lt (p ++ q) x = p ++ x :: q := by
  unfold insR
  rw [List.reverse_append, insB_pass _ _ _ (fun y hy => h5 y (by simpa using hy))]
  rcases List.eq_nil_or_concat p with rfl | ⟨p', y, rfl⟩
  · simp [insB]
  · have h7 := h6 y (by simp)
    have e : (p'.concat y).reverse = y :: p'.reverse := by simp
    rw [e, insB, if_neg (by simp [h7])]
    simp
theorem Mid.end {acc rest D : List α} {x : α} {j : Nat} (h : Mid lt acc x rest D j) (hl : ∀ i (h1 : i + 1 < D.length), j = i + 1 → lt D[i + 1] D[i] = false) : D = insR lt acc x ++ rest := by
  obtain ⟨p, q, h2, h3, h4, h5⟩ := h
  subst h2 h3
  have : insR lt (p ++ q) x = p ++ x :: q := by
    refine insR_at h5 fun y hy => ?_
    rcases List.eq_nil_or_concat p with rfl | ⟨p', y', rfl⟩
    · simp at hy
    · simp at hy
      subst hy
      have h6 := hl p'.length (by rw [h4]; simp) (by simp)
      subst h4
      have g0 : (p'.concat y' ++ x :: q ++ rest)[p'.length]'(by simp) = y' := by simp [List.getElem_append]
      have g1 : (p'.concat y' ++ x :: q ++ rest)[p'.length + 1]'(by simp) = x := by simp [List.getElem_append]
      rwa [g0, g1] at h6
  rw [this, h4]
theorem sortR_take (l : List α) {i : Nat} (h : i < l.length) : sortR lt (l.take (i + 1)) = insR lt (sortR lt (l.take i)) l[i] := by
  rw [List.take_succ_eq_append_getElem h, sortR, List.foldl_append]
  rfl
theorem sortR_one (l : List α) : sortR lt (l.take 1) ++ l.drop 1 = l := by
  cases l with
  | nil => rfl
  | cons x l => simp [sortR, insR, insB]
theorem sortR_up (l : List α) (h : ∀ i (hi : i + 1 < l.length), lt l[i + 1] l[i] = false) : sortR lt l = l := by
  have : ∀ i, i ≤ l.length → sortR lt (l.take i) = l.take i := by
    intro i
    induction i with
    | zero => intro _; simp [sortR]
    | succ i ih =>
      intro hi
      rw [sortR_take l (by omega), ih (by omega)]
      have hm : Mid lt (l.take i) l[i] [] (l.take i ++ [l[i]]) i := by
        have := Mid.start (lt := lt) (l.take i) l[i] []
        rwa [List.length_take, Nat.min_eq_left (by omega)] at this
      have e := hm.end fun k h1 hk => by
        subst hk
        have := h k (by omega)
        simpa [List.getElem_append, List.getElem_take] using this
      rw [List.append_nil] at e
      rw [← e, List.take_succ_eq_append_getElem (by omega)]
  have := this l.length (Nat.le_refl _)
  rwa [List.take_length] at this
end
end Go.Proofs.Ytofiljboaegekac.Am
namespace Go.Proofs.Ytofiljboaegekac.Am
open Go
set_option linter.unusedVariables false
set_option linter.unusedSimpArgs false
def ltG (a b : Gr) : Bool := bytesLt a.name b.name
theorem allAt_split {α : Type} (good : α → Bool) (link : α → α → Bool) (p : List α) (x y : α) (q : List α) (h : allAt good link (p ++ x :: y :: q) = true) : link x y = true := by
  induction p with
  | nil => rw [List.nil_append, allAt_cons] at h; simp [Bool.and_eq_true] at h; exact h.1.2
  | cons z p ih =>
    cases p with
    | nil => rw [List.cons_append, List.nil_append, allAt_cons, allAt_cons] at h; simp [Bool.and_eq_true] at h; exact h.2.1.2
    | cons z2 p => rw [List.cons_append, List.cons_append, allAt_cons] at h; simp only [Bool.and_eq_true] at h; exact ih h.2
theorem allAt_tail {α : Type} (good : α → Bool) (link : α → α → Bool) (x : α) (q : List α) (h : allAt good link (x :: q) = true) : allAt good link q = true := by
  cases q with
  | nil => rfl
  | cons y q => rw [allAt_cons] at h; simp only [Bool.and_eq_true] at h; exact h.2
theorem gr_lt_tail (last : Idt) (x : Gr) (q : List Gr) (h : allAt (grGood last) grLink (x :: q) = true) : ∀ y ∈ q, bytesLt x.name y.name = true := by
  induction q generalizing x with
  | nil => intro y hy; cases hy
  | cons z q ih =>
    rw [allAt_cons] at h; simp only [Bool.and_eq_true] at h
    intro y hy
    have h1 : bytesLt x.name z.name = true := h.1.2
    rcases List.mem_cons.1 hy with rfl | hy
    · exact h1
    · exact bytesLt_trans h1 (ih z h.2 y hy)
theorem gr_up (last : Idt) (l : List Gr) (h : allAt (grGood last) grLink l = true) : ∀ i (hi : i + 1 < l.length), ltG l[i + 1] l[i] = false := by
  intro i hi
  have e : l = l.take i ++ l[i] :: l[i + 1] :: l.drop (i + 2) := by
    rw [← List.drop_eq_getElem_cons, ← List.drop_eq_getElem_cons, List.take_append_drop]
  rw [e] at h
  have h1 := allAt_split _ _ _ _ _ _ h
  have h2 : bytesLt l[i].name l[i + 1].name = true := h1
  cases h3 : ltG l[i + 1] l[i]
  · rfl
  · have := bytesLt_trans h2 h3
    rw [bytesLt_irrefl] at this; cases this
theorem gAtM_spec (gs : List Gr) (f : ByteArray) : (∀ y ∈ gs.take (gAtM gs f), bytesLt y.name f = true) ∧ (∀ y ∈ (gs.drop (gAtM gs f)).head?, bytesLt y.name f = false) := by
  induction gs with
  | nil => simp [gAtM]
  | cons x l ih =>
    unfold gAtM
    cases hx : bytesLt x.name f
    · simp [hx]
    · simp only [if_true, List.take_succ_cons, List.drop_succ_cons]
      refine ⟨fun y hy => ?_, ih.2⟩
      rcases List.mem_cons.1 hy with rfl | hy
      · exact hx
      · exact ih.1 y hy
theorem ins_same (last : Idt) (gs : List Gr) (g : Gr) (h : allAt (grGood last) grLink gs = true) : sortR ltG (gs ++ [g]) = insG gs g ∨ (allAt (grGood last) grLink (sortR ltG (gs ++ [g])) = false ∧ allAt (grGood last) grLink (insG gs g) = false) := by
  have e0 : sortR ltG (gs ++ [g]) = insR ltG gs g := by
    have e1 := sortR_up gs (gr_up last gs h)
    unfold sortR at e1 ⊢
    rw [List.foldl_append, e1]; rfl
  rw [e0]
  obtain ⟨h1, h2⟩ := gAtM_spec gs g.name
  have hsp := List.take_append_drop (gAtM gs g.name) gs
  unfold insG
  generalize hp : gs.take (gAtM gs g.name) = p at *
  generalize hq : gs.drop (gAtM gs g.name) = q at *
  have hlast : ∀ y ∈ p.getLast?, ltG g y = false := fun y hy => by
    have := h1 y (List.mem_of_getLast? hy)
    cases h3 : ltG g y
    · rfl
    · have := bytesLt_trans this h3
      rw [bytesLt_irrefl] at this; cases this
  have hq0 : allAt (grGood last) grLink q = true := by
    rw [← hsp] at h
    clear e0 hp h1 hlast hsp
    induction p with
    | nil => exact h
    | cons z p ih => exact ih (allAt_tail _ _ _ _ h)
  cases q with
  | nil =>
    left
    have := insR_at (lt := ltG) (p := p) (q := []) (x := g) (fun y hy => by cases hy) hlast
    rw [hsp] at this
    exact this
  | cons y q =>
    have hy := h2 y (by simp)
    by_cases he : y.name = g.name
    · right
      constructor
      · have e1 : gs = (p ++ [y]) ++ q := by rw [← hsp]; simp
        have e2 := insR_at (lt := ltG) (p := p ++ [y]) (q := q) (x := g) (fun z hz => by
          have := gr_lt_tail last y q hq0 z hz
          show bytesLt g.name z.name = true
          rw [← he]; exact this) (fun z hz => by
          simp at hz
          subst hz
          show bytesLt g.name y.name = false
          rw [he, bytesLt_irrefl])
        rw [e1, e2]
        cases h4 : allAt (grGood last) grLink (p ++ [y] ++ g :: q)
        · rfl
        · rw [List.append_assoc] at h4
          have h5 : bytesLt y.name g.name = true := allAt_split _ _ p y g q h4
          rw [hy] at h5; cases h5
      · cases h4 : allAt (grGood last) grLink (p ++ g :: y :: q)
        · rfl
        · have h5 : bytesLt g.name y.name = true := allAt_split _ _ p g y q h4
          rw [he, bytesLt_irrefl] at h5; cases h5
    · left
      have h5 : bytesLt g.name y.name = true := bytesLt_total he hy
      have := insR_at (lt := ltG) (p := p) (q := y :: q) (x := g) (fun z hz => by
        rcases List.mem_cons.1 hz with rfl | hz
        · exact h5
        · exact bytesLt_trans h5 (gr_lt_tail last y q hq0 z hz)) hlast
      rw [hsp] at this
      exact this
abbrev newI (s : Stm) (name : ByteArray) (fr : Idt) : Stm := ⟨s.last, s.items, sortR ltG (s.groups ++ [⟨name, fr, []⟩])⟩
theorem newM_sort (s : Stm) (name : ByteArray) (fr : Idt) (h : streamOkM s = true) : newM s name fr = (if streamOkM (newI s name fr) = true then (newI s name fr, true) else (s, false)) := by
  have hg : allAt (grGood s.last) grLink s.groups = true := by
    simp only [streamOkM, Bool.and_eq_true] at h; exact h.2
  unfold newM
  rw [if_pos h]
  rcases ins_same s.last s.groups ⟨name, fr, []⟩ hg with e | ⟨e1, e2⟩
  · have : newI s name fr = newS s name fr := by unfold newI newS; rw [e]
    rw [this]
  · have n1 : streamOkM (newI s name fr) = false := by simp [streamOkM, e1]
    have n2 : streamOkM (newS s name fr) = false := by simp [streamOkM, e2]
    rw [n1, n2]; rfl
end Go.Proofs.Ytofiljboaegekac.Am
namespace Go.Proofs.Ytofiljboaegekac.Am
open Go
set_option maxRecDepth 100000
set_option maxHeartbeats 1000000
set_option linter.unusedSimpArgs false
set_option linter.unusedVariables false
theorem set_getD_ne {l : List (List T)} {i k : Nat} (h : i ≠ k) (r : List T) : (l.set k r).getD i [] = l.getD i [] := by
  rw [List.getD_eq_getElem?_getD, List.getD_eq_getElem?_getD, List.getElem?_set_ne (Ne.symm h)]
def cmpS (a b : ByteArray) : Int := if bytesLt a b = true then -1 else if a = b then 0 else 1
theorem cmpS_lt (a b : ByteArray) : decide (cmpS a b < 0) = bytesLt a b := by
  unfold cmpS
  cases h : bytesLt a b
  · by_cases e : a = b <;> simp [e]
  · simp
theorem p_isNaNS : Plain Try.prog 47 := ⟨_, Try.func47, rfl, by decide⟩
theorem s_isNaNS (n : ByteArray) : Spec Try.prog 47 [.t (.str n)] (fun r => r = Bo false) := by
  refine Spec.of tysOk mixed Try.func47 rfl (by decide) ?_
  simp -implicitDefEqProofs only [go_sem, Try.f47]
theorem p_compareS : Plain Try.prog 22 := ⟨_, Try.func22, rfl, by decide⟩
theorem s_compareS (a b : ByteArray) : Spec Try.prog 22 [.t (.str a), .t (.str b)] (fun r => r = I (cmpS a b)) := by
  refine Spec.of tysOk mixed Try.func22 rfl (by decide) ?_
  simp -implicitDefEqProofs only [go_sem, Try.f22]
  refine .one (s_isNaNS _) p_isNaNS rfl trivial ?_
  simp -implicitDefEqProofs only [go_sem]
  refine .one (s_isNaNS _) p_isNaNS rfl trivial ?_
  simp -implicitDefEqProofs only [go_sem]
  refine BrA_i (fun h => ?_) (fun h => ?_)
  · simp -implicitDefEqProofs only [go_sem]; simp [cmpS, h]
  · simp -implicitDefEqProofs only [go_sem]
    refine BrA_i (fun h2 => ?_) (fun h2 => ?_) <;> simp -implicitDefEqProofs only [go_sem] <;> simp_all [cmpS]
theorem p_grFn : Plain Try.prog 21 := ⟨_, Try.func21, rfl, by decide⟩
theorem s_grFn (x y : Gr) : Spec Try.prog 21 [x.av, y.av] (fun r => r = I (cmpS x.name y.name)) := by
  refine Spec.of tysOk mixed Try.func21 rfl (by decide) ?_
  simp -implicitDefEqProofs only [go_sem, Try.f21]
  refine CallW.one (s_compareS x.name y.name) p_compareS (by first | (simp -implicitDefEqProofs only [go_sem]; done) | ((conv => lhs; simp -implicitDefEqProofs only [go_sem]); done) | (simp -implicitDefEqProofs only [go_sem]; rfl) | rfl) (by first | trivial | (simp [DeepR, DeepV, DeepVs, DeepC, DeepCs, T.scal]; done)) ?_
  simp -implicitDefEqProofs only [go_sem]
theorem p_insGr : Plain Try.prog 67 := ⟨_, Try.func67, rfl, by decide⟩
theorem s_insGr (gs : List Gr) (hs : gs.length < 1000) : SpecO Try.prog 67 [.refw 9000, I 0, I gs.length, .fn 21 []] [(9000, .rows 4 (gs.map Gr.row))] (fun r h => r = .tup [] ∧ h = [(9000, .rows 4 ((sortR ltG gs).map Gr.row))]) := by
  refine SpecO.of tysOk mixed Try.func67 rfl (by decide) ?_
  have w0 : IntKind.i64.wrap (0 + 1) = ((1 : Nat) : Int) := by rw [wrap64 (by omega) (by omega)]; omega
  simp -implicitDefEqProofs only [go_sem, Try.f67, w0]
  refine LoopW.slotsM [true, true, true, true, false, false, false, false, true, false, false, false, false, false, false, false, false, false, false, false, false, false, false, false, false, false, false, false, false, false, false, false, false, false, false, false, false, false, false, false, false, false, false, false, false, false, false, false, false, false, false, false, false] (α := Nat) (fun i => [(8, I i)]) (fun i => [(9000, .rows 4 ((sortR ltG (gs.take i) ++ gs.drop i).map Gr.row))]) (fun i => gs.length - i) (fun i => 1 ≤ i ∧ (i ≤ gs.length ∨ i = 1)) 1 (by simp -implicitDefEqProofs only [go_sem, LeTs_undef, LeTs_same, LeTs_nil]; try simp [LeTs]) (by simp -implicitDefEqProofs only [go_sem, sortR_one]) ⟨by omega, .inr rfl⟩ ?_
  rintro i ⟨hi1, hi2⟩
  simp -implicitDefEqProofs only [go_sem]
  refine BrA_i (fun h => ?_) (fun h => ?_) <;> simp -implicitDefEqProofs only [go_sem]
  · skip
    have h : i < gs.length := by simp at h; omega
    have h0i : (0 : Int) ≤ i := by omega
    have h1i : (i : Int) < gs.length := by omega
    have wi : IntKind.i64.wrap ((i : Int) + 1) = ((i + 1 : Nat) : Int) := by rw [wrap64 (by omega) (by omega)]; omega
    have hDl : (sortR ltG (gs.take i)).length = i := by rw [sortR_len, List.length_take]; omega
    have hD0 : Mid ltG (sortR ltG (gs.take i)) gs[i] (gs.drop (i + 1)) (sortR ltG (gs.take i) ++ gs.drop i) i := by
      have := Mid.start (lt := ltG) (sortR ltG (gs.take i)) gs[i] (gs.drop (i + 1))
      rw [hDl] at this
      rwa [List.drop_eq_getElem_cons h]
    refine LoopW.slotsM [true, true, true, true, false, false, false, false, true, true, false, false, false, false, false, false, false, false, false, false, false, false, false, false, false, false, false, false, false, false, false, false, false, false, false, false, false, false, false, false, false, false, false, false, false, false, false, false, false, false, false, false, false] (α := List Gr × Nat) (fun x => [(9, I x.2)]) (fun x => [(9000, .rows 4 (x.1.map Gr.row))]) (fun x => x.2) (fun x => Mid ltG (sortR ltG (gs.take i)) gs[i] (gs.drop (i + 1)) x.1 x.2) (sortR ltG (gs.take i) ++ gs.drop i, i) (by simp -implicitDefEqProofs only [go_sem, LeTs_undef, LeTs_same, LeTs_nil]; try simp [LeTs]) (by simp -implicitDefEqProofs only [go_sem]) hD0 ?_
    rintro ⟨D, j⟩ hD
    simp only at hD
    have hl := hD.len
    rw [hDl, List.length_drop] at hl
    clear hD0
    simp -implicitDefEqProofs only [go_sem]
    cases j with
    | zero =>
      have e0 : decide (((0 : Nat) : Int) > 0) = false := by simp
      refine RegD_to sch_67_4 ?sx tysOk (by kernel_rfl) ?ga ?gb
      case ga => simp -implicitDefEqProofs only [go_sem, e0]; exact rfl
      simp -implicitDefEqProofs only [go_sem]
      have e := hD.end fun k h1 hk => by omega
      subst e
      refine .to [257, 258, 259] (i + 1) rfl ?_ ?_ (by omega) ⟨by omega, .inl (by omega)⟩
      · simp -implicitDefEqProofs only [go_sem, LeTs_undef, LeTs_same, LeTs_nil, wi]
      · simp -implicitDefEqProofs only [go_sem, sortR_take gs h]
    | succ j =>
      have hj1 : j + 1 < D.length := by omega
      have hj0 : j < D.length := by omega
      have e0 : decide (((j + 1 : Nat) : Int) > 0) = true := by simp
      have i1 : (0 : Int) ≤ ((j + 1 : Nat) : Int) := by omega
      have i2 : ((j + 1 : Nat) : Int) < D.length := by omega
      have i3 : (0 : Int) ≤ (j : Int) := by omega
      have i4 : (j : Int) < D.length := by omega
      have wj : IntKind.i64.wrap (((j + 1 : Nat) : Int) - 1) = (j : Int) := by rw [wrap64 (by omega) (by omega)]; omega
      have r1 := row_getD Gr.row D hj1
      have r0 := row_getD Gr.row D hj0
      obtain ⟨x1, hx1⟩ : ∃ x, x = D[j + 1] := ⟨_, rfl⟩
      obtain ⟨x0, hx0⟩ : ∃ x, x = D[j] := ⟨_, rfl⟩
      rw [← hx1] at r1
      rw [← hx0] at r0
      simp only [Gr.row] at r1 r0
      refine RegD_to sch_67_4 ?sx1 tysOk (by kernel_rfl) ?ga1 ?gb1
      case ga1 =>
        simp -implicitDefEqProofs only [go_sem, e0, i1, i2, i3, i4, wj, r0, r1]
        refine ⟨hj1, hj0, ?_⟩
        refine CallW.one (s_grFn x1 x0) p_grFn (by first | (simp -implicitDefEqProofs only [go_sem]; done) | ((conv => lhs; simp -implicitDefEqProofs only [go_sem]); done) | (simp -implicitDefEqProofs only [go_sem]; rfl) | rfl) (by first | trivial | (simp [DeepR, DeepV, DeepVs, DeepC, DeepCs, T.scal]; done)) ?_
        simp -implicitDefEqProofs only [go_sem, cmpS_lt]
        exact rfl
      simp -implicitDefEqProofs only [go_sem]
      refine BrA_i (fun h2 => ?_) (fun h2 => ?_) <;> simp -implicitDefEqProofs only [go_sem]
      · have r01 := fun r => (set_getD_ne (l := List.map Gr.row D) (i := j) (k := j + 1) (by omega) r).trans r0
        refine RegD_to sch_67_6 ?sx2 tysOk (by kernel_rfl) ?ga2 ?gb2
        case ga2 =>
          simp -implicitDefEqProofs only [go_sem, i1, i2, i3, i4, wj, r0, r1, r01]
          refine ⟨hj0, hj1, hj1, hj0, ?_⟩
          exact rfl
        simp -implicitDefEqProofs only [go_sem, wj]
        refine .to [257, 258, 259] ((D.set (j + 1) D[j]).set j D[j + 1], j) rfl ?_ ?_ (by simp) (hD.step hj1 (by rw [← hx1, ← hx0]; exact h2))
        · simp -implicitDefEqProofs only [go_sem, LeTs_undef, LeTs_same, LeTs_nil]
        · simp -implicitDefEqProofs only [go_sem, List.map_set, ← hx0, ← hx1, Gr.row]
      · have e := hD.end fun k h1 hk => by
          obtain rfl : k = j := by omega
          rw [← hx1, ← hx0]; exact h2
        clear r0 r1 hx0 hx1
        subst e
        refine .to [257, 258, 259] (i + 1) rfl ?_ ?_ (by omega) ⟨by omega, .inl (by omega)⟩
        · simp -implicitDefEqProofs only [go_sem, LeTs_undef, LeTs_same, LeTs_nil, wi]
        · simp -implicitDefEqProofs only [go_sem, sortR_take gs h]
  · have h : gs.length ≤ i := by simp at h; omega
    rw [List.take_of_length_le h, List.drop_eq_nil_of_le h, List.append_nil]
    exact ⟨(sortR_len gs).symm, rfl⟩
theorem p_stableGr : Plain Try.prog 46 := ⟨_, Try.func46, rfl, by decide⟩
theorem s_stableGr (gs : List Gr) (hs : gs.length < 20) : SpecO Try.prog 46 [.refw 9000, I gs.length, .fn 21 []] [(9000, .rows 4 (gs.map Gr.row))] (fun r h => r = .tup [] ∧ h = [(9000, .rows 4 ((sortR ltG gs).map Gr.row))]) := by
  refine SpecO.of tysOk mixed Try.func46 rfl (by decide) ?_
  have hl : (sortR ltG gs).length = gs.length := sortR_len gs
  have e0 : decide ((20 : Int) ≤ gs.length) = false := by simp; omega
  have e1 : decide ((20 : Int) < gs.length) = false := by simp; omega
  simp -implicitDefEqProofs only [go_sem, Try.f46]
  refine LoopW.slotsM [true, true, true, false, false, false, true, true, true, false, false, false, false, false, false, false, false, false, false, false, false, false, false, false, false, false, false, false, false, false, false, false, false, false, false, false, false, false, false, false, false, false, false, false, false, false, false, false, false, false, false, false, false, false, false, false, false, false, false, false, false, false, false] (α := Nat) (fun _ => []) (fun _ => []) (fun _ => 0) (fun _ => True) 0 (by simp -implicitDefEqProofs only [go_sem, LeTs_undef, LeTs_same, LeTs_nil]; try simp [LeTs]) rfl trivial ?_
  rintro _ _
  simp -implicitDefEqProofs only [go_sem, e0]
  refine CallW.o [(9000, 9000)] (s_insGr gs (by omega)) p_insGr o67 rfl (by (conv => lhs; simp -implicitDefEqProofs only [go_sem]) <;> rfl) (by (simp -implicitDefEqProofs only [go_sem]) <;> rfl) ?_
  rintro _ _ ⟨rfl, rfl⟩
  simp -implicitDefEqProofs only [go_sem]
  refine LoopW.slotsM [true, true, true, false, false, false, true, false, false, false, false, false, false, false, false, false, false, false, false, false, false, false, false, false, false, false, false, false, false, false, false, false, false, false, false, false, false, false, false, false, false, false, false, false, false, false, false, false, false, false, false, false, false, false, false, false, false, false, false, false, false, false, false] (α := Nat) (fun _ => []) (fun _ => []) (fun _ => 0) (fun _ => True) 0 (by simp -implicitDefEqProofs only [go_sem, LeTs_undef, LeTs_same, LeTs_nil]; try simp [LeTs]) rfl trivial ?_
  rintro _ _
  simp -implicitDefEqProofs only [go_sem, e1, hl]
theorem p_SortGr : Plain Try.prog 20 := ⟨_, Try.func20, rfl, by decide⟩
theorem s_SortGr (gs : List Gr) (hs : gs.length < 20) : SpecO Try.prog 20 [.refw 9000, .fn 21 []] [(9000, .rows 4 (gs.map Gr.row))] (fun r h => r = .tup [] ∧ h = [(9000, .rows 4 ((sortR ltG gs).map Gr.row))]) := by
  refine SpecO.of tysOk mixed Try.func20 rfl (by decide) ?_
  have hl : (sortR ltG gs).length = gs.length := sortR_len gs
  simp -implicitDefEqProofs only [go_sem, Try.f20]
  refine CallW.o [(9000, 9000)] (s_stableGr gs hs) p_stableGr o46 rfl (by (conv => lhs; simp -implicitDefEqProofs only [go_sem]) <;> rfl) (by (simp -implicitDefEqProofs only [go_sem]) <;> rfl) ?_
  rintro _ _ ⟨rfl, rfl⟩
  simp -implicitDefEqProofs only [go_sem, hl]
end Go.Proofs.Ytofiljboaegekac.Am
namespace Go.Proofs.Ytofiljboaegekac.Am
open Go
set_option maxRecDepth 100000
set_option maxHeartbeats 1000000
set_option linter.unusedSimpArgs false
set_option linter.unusedVariables false
theorem newI_rows (gs : List Gr) (name : ByteArray) (fr : Idt) : sharedRows (gs.map Gr.rowO ++ [[T.str name, T.int .i64 fr.t, T.int .i64 fr.n, T.list true 5 []]]) = (gs ++ [(⟨name, fr, []⟩ : Gr)]).map Gr.row := by
  have := shared_Gr gs
  unfold sharedRows at this ⊢
  rw [List.map_append, this, List.map_append]; rfl
theorem insB_mem {α : Type} {lt : α → α → Bool} (x y : α) (l : List α) : y ∈ insB lt x l → y = x ∨ y ∈ l := by
  induction l with
  | nil => intro h; simpa [insB] using h
  | cons z l ih =>
    simp only [insB]
    split
    · intro h
      rcases List.mem_cons.1 h with rfl | h
      · exact .inr (by simp)
      · exact (ih h).imp id (List.mem_cons_of_mem _)
    · intro h; exact List.mem_cons.1 h
theorem sortR_mem {α : Type} {lt : α → α → Bool} (y : α) (l : List α) (h : y ∈ sortR lt l) : y ∈ l := by
  have : ∀ (l acc : List α), y ∈ l.foldl (insR lt) acc → y ∈ acc ∨ y ∈ l := by
    intro l
    induction l with
    | nil => intro acc h; exact .inl h
    | cons x l ih =>
      intro acc h
      rcases ih _ h with h | h
      · have h := List.mem_reverse.1 h
        rcases insB_mem _ _ _ h with rfl | h
        · exact .inr (by simp)
        · exact .inl (by simpa using h)
      · exact .inr (List.mem_cons_of_mem _ h)
  rcases this l [] h with h | h
  · cases h
  · exact h
theorem newI_md {s : Stm} (hs : s.md) (hl : s.groups.length ≤ 3) (name : ByteArray) (fr : Idt) : (newI s name fr).md := by
  refine ⟨hs.1, ?_, hs.2.2.1, fun g hg => ?_⟩
  · show (sortR ltG (s.groups ++ [⟨name, fr, []⟩])).length ≤ _
    rw [sortR_len]; simp; omega
  · rcases List.mem_append.1 (sortR_mem _ _ hg) with h | h
    · exact hs.2.2.2 g h
    · simp at h; subst h; simp
theorem newI_w {s : Stm} (hw : ∀ g ∈ s.groups, g.waits.length < 2000000) (name : ByteArray) (fr : Idt) : ∀ g ∈ (newI s name fr).groups, g.waits.length < 2000000 := fun g hg => by
  rcases List.mem_append.1 (sortR_mem _ _ hg) with h | h
  · exact hw g h
  · simp at h; subst h; simp
theorem p_GroupNew : Plain Try.prog 8 := ⟨_, Try.func8, rfl, by decide⟩
theorem s_GroupNew (s : Stm) (name : ByteArray) (fr : Idt) (hs : s.md) (hw : ∀ g ∈ s.groups, g.waits.length < 2000000) : Spec Try.prog 8 [s.av, .t (.str name), fr.av] (fun r => r = newR (newM s name fr)) := by
  have hsm := hs.sm.1
  have hs2 := hs.2.1
  refine Spec.of tysOk mixed Try.func8 rfl (by decide) ?_
  simp -implicitDefEqProofs only [go_sem, Try.f8]
  refine CallW.one (s_StreamOk s hsm hw) p_StreamOk (by first | (simp -implicitDefEqProofs only [go_sem]; done) | ((conv => lhs; simp -implicitDefEqProofs only [go_sem]); done) | (simp -implicitDefEqProofs only [go_sem]; rfl) | rfl) (by first | trivial | (simp [DeepR, DeepV, DeepVs, DeepC, DeepCs, T.scal]; done)) ?_
  simp -implicitDefEqProofs only [go_sem]
  cases hok : streamOkM s
  · simp -implicitDefEqProofs only [go_sem]
    simp [newM, hok]
  have hln := streamOkM_len hok
  simp -implicitDefEqProofs only [go_sem]
  refine CallW.onep (s_cloneStream s hs) p_cloneStream (by first | (simp -implicitDefEqProofs only [go_sem]; done) | ((conv => lhs; simp -implicitDefEqProofs only [go_sem]); done) | (simp -implicitDefEqProofs only [go_sem]; rfl) | rfl) rfl ?_
  simp -implicitDefEqProofs only [go_sem]
  refine ⟨by unfold roomy; omega, ?_⟩
  refine CallW.fz [100114] (by (conv => lhs; simp -implicitDefEqProofs only [go_sem]) <;> rfl) ?_
  simp -implicitDefEqProofs only [go_sem, newI_rows]
  refine CallW.o [(9000, 114)] (s_SortGr (s.groups ++ [⟨name, fr, []⟩]) (by simp; omega)) p_SortGr o20 rfl (by (conv => lhs; simp -implicitDefEqProofs only [go_sem]) <;> rfl) (by (simp -implicitDefEqProofs only [go_sem]) <;> rfl) ?_
  rintro _ _ ⟨rfl, rfl⟩
  simp -implicitDefEqProofs only [go_sem]
  have hmN := newI_md hs hln.2 name fr
  refine CallW.one (s_StreamOk (newI s name fr) hmN.sm.1 (newI_w hw name fr)) p_StreamOk (by first | (simp -implicitDefEqProofs only [go_sem]; done) | ((conv => lhs; simp -implicitDefEqProofs only [go_sem]); done) | (simp -implicitDefEqProofs only [go_sem]; rfl) | rfl) (by first | trivial | (simp [DeepR, DeepV, DeepVs, DeepC, DeepCs, T.scal]; done)) ?_
  simp -implicitDefEqProofs only [go_sem]
  rw [newM_sort s name fr hok]
  cases hok2 : streamOkM (newI s name fr)
  · simp -implicitDefEqProofs only [go_sem]
    refine CallW.onep (s_cloneStream s hs) p_cloneStream (by first | (simp -implicitDefEqProofs only [go_sem]; done) | ((conv => lhs; simp -implicitDefEqProofs only [go_sem]); done) | (simp -implicitDefEqProofs only [go_sem]; rfl) | rfl) rfl ?_
    simp -implicitDefEqProofs only [go_sem]
  · simp -implicitDefEqProofs only [go_sem]
    refine CallW.one (s_cloneStream (newI s name fr) hmN) p_cloneStream (by first | (simp -implicitDefEqProofs only [go_sem]; done) | ((conv => lhs; simp -implicitDefEqProofs only [go_sem]); done) | (simp -implicitDefEqProofs only [go_sem]; rfl) | rfl) (deep_avO _) ?_
    simp -implicitDefEqProofs only [go_sem]
end Go.Proofs.Ytofiljboaegekac.Am
namespace Go.Proofs.Ytofiljboaegekac.Am
open Go
set_option maxRecDepth 100000
set_option linter.unusedSimpArgs false
set_option linter.unusedVariables false
theorem p_heldGroupS : Plain Try.prog 29 := ⟨_, Try.func29, rfl, by decide⟩
theorem s_heldGroupS (xs : List Gr) (k : Int) (hk : 0 ≤ k) (hb : k + (wSum Gr.mw xs : Nat) < 10000000000000000) (hx : xs.length < 10000000000000000) : Spec Try.prog 29 [.t (.list false 4 ((mkAll Gr.m Gr.mw xs k).map Gr.row)), I k]
    (fun r => r = I (k + (wSum Gr.mw xs : Nat))) := by
  refine Spec.of tysOk mixed Try.func29 rfl (by decide) ?_
  simp -implicitDefEqProofs only [go_sem, Try.f29, mkAll_len]
  refine LoopW.slotsL (α := Nat) (fun i => [(5, I i), (1, I (k + (wSum Gr.mw (xs.take i) : Nat)))]) (fun i => []) (fun i => xs.length - i) (fun i => i ≤ xs.length) 0 ?_ rfl (by omega) ?_
  · simp -implicitDefEqProofs only [go_sem, LeTs_undef, LeTs_same, LeTs_nil]
    simp [LeTs, wSum]
  intro i hi
  have hw := wSum_le Gr.mw xs i
  simp -implicitDefEqProofs only [go_sem, mkAll_len]
  refine BrA_i (fun h => ?_) (fun h => ?_) <;> simp -implicitDefEqProofs only [go_sem]
  · have h : i < xs.length := by simp at h; omega
    have hw1 := wSum_take Gr.mw xs h
    have hw2 := wSum_le Gr.mw xs (i + 1)
    obtain ⟨K, hK⟩ : ∃ K : Int, K = k + (wSum Gr.mw (xs.take i) : Nat) := ⟨_, rfl⟩
    have hK1 : k + (wSum Gr.mw (xs.take (i + 1)) : Nat) = K + (Gr.mw xs[i] : Nat) := by rw [hw1, hK]; omega
    rw [← hK]
    have hmw : Gr.mw xs[i] = 3 + wSum Wt.mw xs[i].waits := rfl
    have h0i : (0 : Int) ≤ i := by omega
    have h1i : (i : Int) < xs.length := by omega
    have hn : ((mkAll Gr.m Gr.mw xs k).map Gr.row).getD i [] = [.str (mt (K)), .int .i64 (K + 1), .int .i64 (K + 2), .list false 5 ((mkAll Wt.m Wt.mw xs[i].waits (K + 3)).map Wt.row)] := by rw [mkAll_getD _ _ _ _ _ h, ← hK]; rfl
    have wi : IntKind.i64.wrap ((i : Int) + 1) = ((i + 1 : Nat) : Int) := by rw [wrap64 (by omega) (by omega)]; omega
    have w0 : IntKind.i64.wrap (K + 1) = K + 1 := by rw [wrap64 (by omega) (by omega)]
    have w1 : IntKind.i64.wrap (K + 1 + 1) = K + 2 := by rw [wrap64 (by omega) (by omega)]; omega
    have w2 : IntKind.i64.wrap (K + 2 + 1) = K + 3 := by rw [wrap64 (by omega) (by omega)]; omega
    have z3 : wSum Wt.mw xs[i].waits ≤ Gr.mw xs[i] := by rw [hmw]; omega
    simp -implicitDefEqProofs only [go_sem, mkAll_len, h0i, h1i, h, hn, wi, w0, w1, w2]
    (first | refine RegD_of sch_29_4 tysOk (by decide +kernel) ?_)
    simp -implicitDefEqProofs only [go_sem, mkAll_len, h0i, h1i, h, hn, wi, w0, w1, w2]
    refine .one (s_markText _ (by omega)) p_markText rfl trivial ?_
    simp -implicitDefEqProofs only [go_sem, mkAll_len, h0i, h1i, h, hn, wi, w0, w1, w2]
    refine .one (s_heldWaitS xs[i].waits (K + 3) (by omega) (by omega) (by have := wSum_len (w := Wt.mw) (fun _ => by unfold Wt.mw; omega) xs[i].waits; omega)) p_heldWaitS (by simp -implicitDefEqProofs only [go_sem]) trivial ?_
    simp -implicitDefEqProofs only [go_sem, mkAll_len, h0i, h1i, h, hn, wi, w0, w1, w2]
    refine BrA_i (fun h => ?_) (fun h => ?_)
    · exfalso; simp at h; omega
    simp -implicitDefEqProofs only [go_sem, mkAll_len, h0i, h1i, h, hn, wi, w0, w1, w2]
    refine .to [] (i + 1) rfl ?_ rfl (by omega) (by omega)
    · simp -implicitDefEqProofs only [go_sem, LeTs_undef, LeTs_same, LeTs_nil, hK1, hmw]
      try simp [LeTs]
      try omega
  · have h : i = xs.length := by simp at h; omega
    subst h
    simp -implicitDefEqProofs only [go_sem, List.take_length, mkAll_len]
end Go.Proofs.Ytofiljboaegekac.Am
namespace Go.Proofs.Ytofiljboaegekac.Am
open Go
set_option maxRecDepth 100000
set_option linter.unusedSimpArgs false
set_option linter.unusedVariables false
theorem p_heldStream : Plain Try.prog 11 := ⟨_, Try.func11, rfl, by decide⟩
theorem s_heldStream (s : Stm) (k : Int) (hk : 0 ≤ k) (hb : k + (s.mw : Nat) < 10000000000000000) : Spec Try.prog 11 [(s.m k).av, I k] (fun r => r = I (k + (s.mw : Nat))) := by
  have hk1 : s.mw = wSum It.mw s.items + wSum Gr.mw s.groups := rfl
  have l1 := wSum_len (w := It.mw) (fun _ => by unfold It.mw; omega) s.items
  have l2 := wSum_len (w := Gr.mw) (fun _ => by unfold Gr.mw; omega) s.groups
  refine Spec.of tysOk mixed Try.func11 rfl (by decide) ?_
  have n1 : ¬ (k + (wSum It.mw s.items : Nat) : Int) < 0 := by omega
  have n2 : ¬ (k + (wSum It.mw s.items : Nat) + (wSum Gr.mw s.groups : Nat) : Int) < 0 := by omega
  simp -implicitDefEqProofs only [go_sem, Try.f11, Stm.m]
  refine CallW.one (s_heldItemS s.items k hk (by omega) (by omega)) p_heldItemS (by first | (simp -implicitDefEqProofs only [go_sem]; done) | ((conv => lhs; simp -implicitDefEqProofs only [go_sem]); done) | (simp -implicitDefEqProofs only [go_sem]; rfl) | rfl) (by first | trivial | (simp [DeepR, DeepV, DeepVs, DeepC, DeepCs, T.scal]; done)) ?_
  simp -implicitDefEqProofs only [go_sem, n1, n2, decide_false, decide_true]
  refine CallW.one (s_heldGroupS s.groups (k + (wSum It.mw s.items : Nat)) (by omega) (by omega) (by omega)) p_heldGroupS (by first | (simp -implicitDefEqProofs only [go_sem]; done) | ((conv => lhs; simp -implicitDefEqProofs only [go_sem]); done) | (simp -implicitDefEqProofs only [go_sem]; rfl) | rfl) (by first | trivial | (simp [DeepR, DeepV, DeepVs, DeepC, DeepCs, T.scal]; done)) ?_
  simp -implicitDefEqProofs only [go_sem, n1, n2, decide_false, decide_true]
  rw [hk1]; congr 2; omega
end Go.Proofs.Ytofiljboaegekac.Am
namespace Go.Proofs.Ytofiljboaegekac.Am
open Go
set_option maxRecDepth 100000
set_option maxHeartbeats 1000000
set_option linter.unusedSimpArgs false
set_option linter.unusedVariables false
theorem Stm.mw_mdN {s : Stm} (h : s.md) : s.mw ≤ 100000000000000 := by
  obtain ⟨h1, h2, h3, h4⟩ := h
  have e1 : wSum It.mw s.items ≤ 2097154 * s.items.length + 0 * wSum It.mw s.items := wSum_map_le _ _ _ _ _ fun x hx => by
    have := wSum_map_le Pr.mw Pr.w 2 0 x.fields (fun x _ => by unfold Pr.mw; omega)
    have := h3 x hx
    simp only [It.mw]; omega
  have e2 : wSum Gr.mw s.groups ≤ 5242883 * s.groups.length + 0 * wSum Gr.mw s.groups := wSum_map_le _ _ _ _ _ fun x hx => by
    have := wSum_map_le Wt.mw Wt.w 5 0 x.waits (fun x _ => by unfold Wt.mw; omega)
    have := h4 x hx
    simp only [Gr.mw]; omega
  simp only [Stm.mw]
  omega
theorem newM_md {s : Stm} (hs : s.md) (name : ByteArray) (fr : Idt) : (newM s name fr).1.md := by
  unfold newM
  split
  · rename_i hok
    have hl := streamOkM_len hok
    split
    · refine ⟨hs.1, ?_, hs.2.2.1, fun g hg => ?_⟩
      · show (insG s.groups _).length ≤ _
        rw [insG_len]; omega
      · rcases insG_mem hg with h | h
        · subst h; simp
        · exact hs.2.2.2 g h
    · exact hs
  · exact ⟨Nat.zero_le _, Nat.zero_le _, fun i hi => (by cases hi), fun g hg => (by cases hg)⟩
theorem newR_share (s : Stm) (name : ByteArray) (fr : Idt) (r : AV) (h : r = newR (newM s name fr) ∨ (r = newRS s name fr ∧ newM s name fr = (newS s name fr, true))) : shareR r = .tup [(newM s name fr).1.av, Bo (newM s name fr).2] := by
  rcases h with rfl | ⟨rfl, hN⟩
  · simp only [newR, shareR, shareVs, shareV, shareCs, shareC, T.mk_list, It.mkO_rows, Gr.mkO_rows]
  · rw [hN]
    simp only [newRS, shareR, shareVs, shareV, shareCs, shareC, T.mk_list, It.mkO_rows, newG_mk]
theorem s_FnExactGroupNew (s : Stm) (name : ByteArray) (fr : Idt) (hs : s.G) : Spec Try.prog 3 [s.av, .t (.str name), fr.av] (fun r => r = Bo true) := by
  refine Spec.of tysOk mixed Try.func3 rfl (by decide) ?_
  simp -implicitDefEqProofs only [go_sem, Try.f3]
  refine BrA_i (fun h1 => ?_) (fun h1 => ?_) <;> simp -implicitDefEqProofs only [go_sem]
  refine CallW.one (s_szStream s 1048576 (by omega) (by omega) hs) p_szStream (by first | (simp -implicitDefEqProofs only [go_sem]; done) | ((conv => lhs; simp -implicitDefEqProofs only [go_sem]); done) | (simp -implicitDefEqProofs only [go_sem]; rfl) | rfl) (by first | trivial | (simp [DeepR, DeepV, DeepVs, DeepC, DeepCs, T.scal]; done)) ?_
  simp -implicitDefEqProofs only [go_sem]
  refine BrA_i (fun h1 => ?_) (fun h1 => ?_) <;> simp -implicitDefEqProofs only [go_sem]
  have h1 : s.w ≤ 1048576 := by
    have : ¬ (1048576 : Int) < s.w := fun hh => by simp [(cutM_lt _ _).2 hh] at h1
    omega
  have hm : s.md := Stm.md_w h1
  have hw : ∀ g ∈ s.groups, g.waits.length < 2000000 := fun g hg => by have := hm.2.2.2 g hg; omega
  have hx := newM_md hm name fr
  have hxs : (newM s name fr).1.sm := hx.sm.1
  have hss : s.sm := hm.sm.1
  have hxm := Stm.mw_mdN hx
  have hsm := s.mw_le
  have n1 : ¬ (1 + (s.mw : Nat) : Int) < 0 := by omega
  have n2 : ¬ (1 + ((newM s name fr).1.mw : Nat) : Int) < 0 := by omega
  refine RegD_to sch_3_7 ?sx7 tysOk (by kernel_rfl) ?ga7 ?gb7
  case ga7 =>
    simp -implicitDefEqProofs only [go_sem]
    repeat' (first
      | (with_reducible refine And.intro ?_ ?_)
      | (refine CallW.onep (s_toStream s hm.1 hm.2.2.1 hm.2.1 hm.2.2.2) p_toStream (by first | (simp -implicitDefEqProofs only [go_sem]; done) | ((conv => lhs; simp -implicitDefEqProofs only [go_sem]); done) | (simp -implicitDefEqProofs only [go_sem]; rfl) | rfl) rfl ?_; simp -implicitDefEqProofs only [go_sem])
      | (refine CallW.onep (s_toId fr) p_toId (by first | (simp -implicitDefEqProofs only [go_sem]; done) | ((conv => lhs; simp -implicitDefEqProofs only [go_sem]); done) | (simp -implicitDefEqProofs only [go_sem]; rfl) | rfl) rfl ?_; simp -implicitDefEqProofs only [go_sem])
      | (refine CallW.fz [225, 226] (by conv => lhs; simp -implicitDefEqProofs only [go_sem]) ?_; refine CallW.ps (s_sGroupNew s name fr hm hw) p_sGroupNew (by first | (simp -implicitDefEqProofs only [go_sem]; done) | ((conv => lhs; simp -implicitDefEqProofs only [go_sem]); done) | (simp -implicitDefEqProofs only [go_sem]; rfl) | rfl) rfl ?_; intro r hr; rw [newR_share s name fr r hr]; clear hr r; simp -implicitDefEqProofs only [go_sem])
      | exact rfl)
  simp -implicitDefEqProofs only [go_sem]
  refine CallW.onep (s_toStream s hm.1 hm.2.2.1 hm.2.1 hm.2.2.2) p_toStream (by first | (simp -implicitDefEqProofs only [go_sem]; done) | ((conv => lhs; simp -implicitDefEqProofs only [go_sem]); done) | (simp -implicitDefEqProofs only [go_sem]; rfl) | rfl) rfl ?_
  simp -implicitDefEqProofs only [go_sem]
  refine RegD_to sch_3_9 ?sx9 tysOk (by kernel_rfl) ?ga9 ?gb9
  case ga9 =>
    simp -implicitDefEqProofs only [go_sem]
    repeat' (first
      | (with_reducible refine And.intro ?_ ?_)
      | (refine CallW.onep (s_toId fr) p_toId (by first | (simp -implicitDefEqProofs only [go_sem]; done) | ((conv => lhs; simp -implicitDefEqProofs only [go_sem]); done) | (simp -implicitDefEqProofs only [go_sem]; rfl) | rfl) rfl ?_; simp -implicitDefEqProofs only [go_sem])
      | (refine CallW.one (s_GroupNew s name fr hm hw) p_GroupNew (by first | (simp -implicitDefEqProofs only [go_sem]; done) | ((conv => lhs; simp -implicitDefEqProofs only [go_sem]); done) | (simp -implicitDefEqProofs only [go_sem]; rfl) | rfl) (deep_newR _) ?_; simp -implicitDefEqProofs only [go_sem])
      | exact rfl)
  simp -implicitDefEqProofs only [go_sem]
  refine CallW.one (s_eqStream (newM s name fr).1 (newM s name fr).1 hxs) p_eqStream (by first | (simp -implicitDefEqProofs only [go_sem]; done) | ((conv => lhs; simp -implicitDefEqProofs only [go_sem]); done) | (simp -implicitDefEqProofs only [go_sem]; rfl) | rfl) (by first | trivial | (simp [DeepR, DeepV, DeepVs, DeepC, DeepCs, T.scal]; done)) ?_
  simp -implicitDefEqProofs only [go_sem, eq_self, decide_true, beq_self_eq_true, decide_false]
  refine RegD_to sch_3_12 ?sx12 tysOk (by kernel_rfl) ?ga12 ?gb12
  case ga12 =>
    simp -implicitDefEqProofs only [go_sem]
    repeat' (first
      | (with_reducible refine And.intro ?_ ?_)
      | (refine CallW.onep (s_toStream s hm.1 hm.2.2.1 hm.2.1 hm.2.2.2) p_toStream (by first | (simp -implicitDefEqProofs only [go_sem]; done) | ((conv => lhs; simp -implicitDefEqProofs only [go_sem]); done) | (simp -implicitDefEqProofs only [go_sem]; rfl) | rfl) rfl ?_; simp -implicitDefEqProofs only [go_sem])
      | (refine CallW.one (s_eqStream s s hss) p_eqStream (by first | (simp -implicitDefEqProofs only [go_sem]; done) | ((conv => lhs; simp -implicitDefEqProofs only [go_sem]); done) | (simp -implicitDefEqProofs only [go_sem]; rfl) | rfl) (by first | trivial | (simp [DeepR, DeepV, DeepVs, DeepC, DeepCs, T.scal]; done)) ?_; simp -implicitDefEqProofs only [go_sem, eq_self, decide_true, beq_self_eq_true, decide_false])
      | exact rfl)
  simp -implicitDefEqProofs only [go_sem, eq_self, decide_true, beq_self_eq_true, decide_false]
  refine CallW.o [(9000, 289), (9001, 290)] (s_markStream s 1 (by omega) (by omega)) p_markStream o10 rfl (by conv => lhs; simp -implicitDefEqProofs only [go_sem]) (by simp -implicitDefEqProofs only [go_sem]) ?_
  rintro _ _ ⟨rfl, rfl⟩
  simp -implicitDefEqProofs only [go_sem, eq_self, decide_true, beq_self_eq_true, decide_false, n1]
  refine CallW.one (s_eqStream (newM s name fr).1 (newM s name fr).1 hxs) p_eqStream (by first | (simp -implicitDefEqProofs only [go_sem]; done) | ((conv => lhs; simp -implicitDefEqProofs only [go_sem]); done) | (simp -implicitDefEqProofs only [go_sem]; rfl) | rfl) (by first | trivial | (simp [DeepR, DeepV, DeepVs, DeepC, DeepCs, T.scal]; done)) ?_
  simp -implicitDefEqProofs only [go_sem, eq_self, decide_true, beq_self_eq_true, decide_false]
  refine CallW.o [(9000, 337), (9001, 338)] (s_markStream (newM s name fr).1 1 (by omega) (by omega)) p_markStream o10 rfl (by conv => lhs; simp -implicitDefEqProofs only [go_sem]) (by simp -implicitDefEqProofs only [go_sem]) ?_
  rintro _ _ ⟨rfl, rfl⟩
  simp -implicitDefEqProofs only [go_sem, eq_self, decide_true, beq_self_eq_true, decide_false]
  refine CallW.one (s_heldStream (newM s name fr).1 1 (by omega) (by omega)) p_heldStream (by first | (simp -implicitDefEqProofs only [go_sem]; done) | ((conv => lhs; simp -implicitDefEqProofs only [go_sem]); done) | (simp -implicitDefEqProofs only [go_sem]; rfl) | rfl) (by first | trivial | (simp [DeepR, DeepV, DeepVs, DeepC, DeepCs, T.scal]; done)) ?_
  simp -implicitDefEqProofs only [go_sem, eq_self, decide_true, beq_self_eq_true, decide_false, n2]
  refine RegD_to sch_3_26 ?sx26 tysOk (by kernel_rfl) ?ga26 ?gb26
  case ga26 =>
    simp -implicitDefEqProofs only [go_sem]
    repeat' (first
      | (with_reducible refine And.intro ?_ ?_)
      | (refine CallW.onep (s_toStream s hm.1 hm.2.2.1 hm.2.1 hm.2.2.2) p_toStream (by first | (simp -implicitDefEqProofs only [go_sem]; done) | ((conv => lhs; simp -implicitDefEqProofs only [go_sem]); done) | (simp -implicitDefEqProofs only [go_sem]; rfl) | rfl) rfl ?_; simp -implicitDefEqProofs only [go_sem])
      | (refine CallW.onep (s_toId fr) p_toId (by first | (simp -implicitDefEqProofs only [go_sem]; done) | ((conv => lhs; simp -implicitDefEqProofs only [go_sem]); done) | (simp -implicitDefEqProofs only [go_sem]; rfl) | rfl) rfl ?_; simp -implicitDefEqProofs only [go_sem])
      | (refine CallW.one (s_GroupNew s name fr hm hw) p_GroupNew (by first | (simp -implicitDefEqProofs only [go_sem]; done) | ((conv => lhs; simp -implicitDefEqProofs only [go_sem]); done) | (simp -implicitDefEqProofs only [go_sem]; rfl) | rfl) (deep_newR _) ?_; simp -implicitDefEqProofs only [go_sem])
      | exact rfl)
  simp -implicitDefEqProofs only [go_sem, eq_self, decide_true, beq_self_eq_true, decide_false]
  refine CallW.one (s_eqStream (newM s name fr).1 (newM s name fr).1 hxs) p_eqStream (by first | (simp -implicitDefEqProofs only [go_sem]; done) | ((conv => lhs; simp -implicitDefEqProofs only [go_sem]); done) | (simp -implicitDefEqProofs only [go_sem]; rfl) | rfl) (by first | trivial | (simp [DeepR, DeepV, DeepVs, DeepC, DeepCs, T.scal]; done)) ?_
  simp -implicitDefEqProofs only [go_sem, eq_self, decide_true, beq_self_eq_true, decide_false]
  refine CallW.one (s_heldStream (newM s name fr).1 1 (by omega) (by omega)) p_heldStream (by first | (simp -implicitDefEqProofs only [go_sem]; done) | ((conv => lhs; simp -implicitDefEqProofs only [go_sem]); done) | (simp -implicitDefEqProofs only [go_sem]; rfl) | rfl) (by first | trivial | (simp [DeepR, DeepV, DeepVs, DeepC, DeepCs, T.scal]; done)) ?_
  simp -implicitDefEqProofs only [go_sem, eq_self, decide_true, beq_self_eq_true, decide_false, n2]
end Go.Proofs.Ytofiljboaegekac.Am
namespace Go.Proofs.Ytofiljboaegekac.Am
open Go Go.ChangeShapes Go.WideShapes Go.RowKit
def RdRow (w : World) (ts : List T) (cs : List Value) : Prop := ts.length = cs.length ∧ ∀ (j : Nat) (t : T) (v : Value), ts[j]? = some t → cs[j]? = some v → Rd w (fun b => b < w.heap.size) t v
structure Opn (P : Program) (t : TypeId) (sz : Nat) {α : Type} (row : α → List T) (G : α → Prop) : Prop where
  len : ∀ x, (row x).length = sz
  op : ∀ {H : Type} {enc : TypeId × Value → H} {W : World} {fuel : Nat} {cs : List Value} {D : DataW H} {ps : List MemPlace},
    DataW.trod enc P W 0 (fun _ => true) true fuel t cs = some (D, ps) → (∀ n ∈ DataW.weights P t D, n ≤ reachBytes) → ∃ x, RdRow W (row x) cs ∧ G x
theorem RdRow.one {w : World} {t : T} {v : Value} (h : Rd w (fun b => b < w.heap.size) t v) : RdRow w [t] [v] :=
  ⟨rfl, fun j t' v' h1 h2 => by
    cases j with
    | zero => simp at h1 h2; subst h1 h2; exact h
    | succ j => simp at h1⟩
theorem RdRow.append {w : World} {a b : List T} {c d : List Value} (h : RdRow w a c) (h' : RdRow w b d) : RdRow w (a ++ b) (c ++ d) :=
  ⟨by simp [h.1, h'.1], fun j t v h1 h2 => by
    rw [List.getElem?_append] at h1 h2
    have := h.1
    split at h1
    · rename_i hj
      rw [if_pos (by omega)] at h2
      exact h.2 j t v h1 h2
    · rename_i hj
      rw [if_neg (by omega)] at h2
      rw [this] at h1
      exact h'.2 _ t v h1 h2⟩
section
variable {P : Program} {t : TypeId}
theorem Opn.int {k : IntKind} (hu : P.underlying t = some (.int k)) : Opn P t 1 (fun x : Int => [T.int k x]) (fun x => (Lit.int k x).wf = true) where
  len := fun _ => rfl
  op := fun h _ => by
    obtain ⟨m, rfl, _, hw⟩ := DataW.trod_int hu h
    exact ⟨m, .one (.int _ _), hw⟩
theorem Opn.bool (hu : P.underlying t = some .bool) : Opn P t 1 (fun x : Bool => [T.bool x]) (fun _ => True) where
  len := fun _ => rfl
  op := fun h _ => by
    obtain ⟨m, rfl, _⟩ := DataW.trod_bool hu h
    exact ⟨m, .one (.bool _), trivial⟩
theorem Opn.string (hu : P.underlying t = some .string) : Opn P t 1 (fun x : ByteArray => [T.str x]) (fun x => x.size ≤ 140737488351232) where
  len := fun _ => rfl
  op := fun h hz => by
    obtain ⟨m, rfl, e, _⟩ := DataW.trod_string hu h
    obtain ⟨rfl, _⟩ := Prod.mk.inj e
    refine ⟨m, .one (.str _), ?_⟩
    have := hz m.data.toList.length (by simp [DataW.weights])
    simpa [reachBytes] using this
theorem Opn.slice {e : TypeId} {sz : Nat} {α : Type} {row : α → List T} {G : α → Prop} (he : Opn P e sz row G) (hu : P.underlying t = some (.slice e)) (hc : P.cellsOf e = sz) (hs : 0 < sz) {B : Nat} (hB : P.bytesOf e = B) :
    Opn P t 1 (fun xs : List α => [T.list false sz (xs.map row)]) (fun xs => xs.length * B ≤ 140737488351232 ∧ ∀ x ∈ xs, G x) where
  len := fun _ => rfl
  op := fun {H enc W fuel cs D ps} h hz => by
    rcases DataW.trod_slice hu h with ⟨rfl, _⟩ | ⟨a, len, cap, elems, rest, n, _, rfl, hx, hb, hl, hm, hlen, hel, hsp, _⟩
    · exact ⟨[], .one (.nil ..), by simp, by simp⟩
    · obtain ⟨rfl, _⟩ := Prod.mk.inj hx
      have hw0 := hz ((elems.map (·.1)).length + (rest.map (·.1)).length |>.mul (P.bytesOf e)) (by simp [DataW.weights, hu])
      have each : ∀ i, i < len → ∃ x c, RdRow W (row x) c ∧ G x ∧ c.length = sz ∧ ∀ j u, c[j]? = some u → W.cell? (a.add (i * sz + j)) = some u := by
        intro i hi
        have h1 := hel i hi
        have hil : i < elems.length := by omega
        rw [List.getElem?_eq_getElem hil] at h1
        rw [Option.bind_eq_some_iff] at h1
        obtain ⟨c, hcs, hy⟩ := h1
        have hD : ∀ m ∈ DataW.weights P e (elems[i]).1, m ≤ reachBytes := by
          intro m hmem
          refine hz m ?_
          simp only [DataW.weights, hu]
          refine List.mem_cons_of_mem _ (List.mem_append_left _ ?_)
          have : ∀ (l : List (DataW H)) (y : DataW H), y ∈ l → m ∈ DataW.weights P e y → m ∈ DataW.weightsAll P e l := by
            intro l
            induction l with
            | nil => intro y hy; cases hy
            | cons z l ih =>
              intro y hy hm2
              simp only [DataW.weightsAll, List.mem_append]
              rcases List.mem_cons.1 hy with rfl | hy
              · exact Or.inl hm2
              · exact Or.inr (ih y hy hm2)
          exact this _ _ (List.mem_map.2 ⟨elems[i], List.getElem_mem hil, rfl⟩) hmem
        obtain ⟨x, hK, hG⟩ := he.op (show DataW.trod enc P W 0 (fun _ => true) true n e c = some ((elems[i]).1, (elems[i]).2) from hy) hD
        obtain ⟨hb1, hb2, hb3⟩ := World.cells?_some hcs
        have hlen2 : c.length = sz := by rw [← hK.1, he.len]
        refine ⟨x, c, hK, hG, hlen2, fun j u hu2 => ?_⟩
        have hj := (List.getElem?_eq_some_iff.1 hu2).1
        have h3 := hb3 j (by rw [hc]; omega)
        rw [hu2] at h3
        rw [← h3, hc, Addr.add_add]
      have pick : ∀ l, l ≤ len → ∃ xs : List α, xs.length = l ∧ (∀ x ∈ xs, G x) ∧ ∀ j p, xs[j]? = some p → ∃ c, c.length = sz ∧ RdRow W (row p) c ∧ ∀ i u, c[i]? = some u → W.cell? (a.add (j * sz + i)) = some u := by
        intro l
        induction l with
        | zero => exact fun _ => ⟨[], rfl, by simp, fun j p h => by simp at h⟩
        | succ l ih =>
          intro hll
          obtain ⟨xs, h1, h2, h3⟩ := ih (by omega)
          obtain ⟨x, c, q1, q2, q3, q4⟩ := each l (by omega)
          refine ⟨xs ++ [x], by simp [h1], ?_, ?_⟩
          · intro y hy
            rcases List.mem_append.1 hy with hy | hy
            · exact h2 y hy
            · obtain rfl := List.mem_singleton.1 hy
              exact q2
          · intro j p hj
            by_cases hjl : j < xs.length
            · exact h3 j p (by rwa [List.getElem?_append_left hjl] at hj)
            · rw [List.getElem?_append_right (by omega)] at hj
              have : j - xs.length = 0 := by
                have := (List.getElem?_eq_some_iff.1 hj).1
                simpa using this
              rw [this] at hj
              have hjl2 : j = l := by omega
              subst hjl2
              obtain rfl : x = p := by simpa using hj
              exact ⟨c, q3, q1, q4⟩
      obtain ⟨xs, h1, h2, h3⟩ := pick len (Nat.le_refl _)
      subst h1
      refine ⟨xs, .one ?_, ?_, h2⟩
      · obtain ⟨ab, ao, asp⟩ := a
        have at0 : ∀ (j : Nat) (p : α), xs[j]? = some p → ∀ i, i < sz → ∃ u, W.cell? ⟨ab, ao + (j * sz + i), none⟩ = some u ∧ ∀ x, (row p)[i]? = some x → Rd W (fun b => b < W.heap.size) x u := by
          intro j p hj i hi
          obtain ⟨c, c1, c2, c3⟩ := h3 j p hj
          obtain ⟨u, hu2⟩ : ∃ u, c[i]? = some u := ⟨c[i]'(by omega), List.getElem?_eq_getElem _⟩
          have h4 := c3 i u hu2
          refine ⟨u, ?_, fun x hx => c2.2 i x u hx hu2⟩
          by_cases h0 : j * sz + i = 0
          · rw [h0] at h4 ⊢
            have : asp = none := by
              unfold World.cell? at h4
              simp only [Addr.add] at h4
              cases asp with
              | none => rfl
              | some q => simp at h4; split at h4 <;> simp at h4
            subst this
            exact h4
          · unfold Addr.add at h4
            rw [if_neg h0] at h4
            exact h4
        cases xs with
        | nil => exact .nil ..
        | cons x0 xs0 =>
          obtain ⟨u0, hu0, _⟩ := at0 0 x0 rfl 0 hs
          have hab : ab < W.heap.size := by
            unfold World.cell? at hu0
            simp only at hu0
            split at hu0
            · rename_i hh
              exact (Array.getElem?_eq_some_iff.1 hh).1
            · cases hu0
          have e1 : asp = none := by
            obtain ⟨c, c1, c2, c3⟩ := h3 0 x0 rfl
            have h4 := c3 0 (c[0]'(by omega)) (List.getElem?_eq_getElem _)
            simp only [Nat.zero_mul, Nat.add_zero, Addr.add, if_pos] at h4
            unfold World.cell? at h4
            cases asp with
            | none => rfl
            | some q => simp at h4; split at h4 <;> simp at h4
          subst e1
          have hrow : ∀ (i : Nat) (r : List T), ((x0 :: xs0).map row)[i]? = some r → ∃ p, (x0 :: xs0)[i]? = some p ∧ r = row p := by
            intro i r hr
            rw [List.getElem?_map] at hr
            cases hp : (x0 :: xs0)[i]? with
            | none => rw [hp] at hr; cases hr
            | some p => rw [hp] at hr; cases hr; exact ⟨p, rfl, rfl⟩
          have hfin := @Rd.list W (fun b => b < W.heap.size) false sz ((x0 :: xs0).map row) ab ao cap (fun i j => (W.cell? ⟨ab, ao + (i * sz + j), none⟩).getD Go.undef) (by simpa using hl) hab
            (fun i r hr => by obtain ⟨p, _, rfl⟩ := hrow i r hr; exact he.len p)
            (fun i r j x hr hx => by
              obtain ⟨p, hp, rfl⟩ := hrow i r hr
              obtain ⟨u, hu1, _⟩ := at0 i p hp j (by have := (List.getElem?_eq_some_iff.1 hx).1; rw [he.len] at this; exact this)
              simp only [hu1, Option.getD_some])
            (fun i r j x hr hx => by
              obtain ⟨p, hp, rfl⟩ := hrow i r hr
              obtain ⟨u, hu1, hu2⟩ := at0 i p hp j (by have := (List.getElem?_eq_some_iff.1 hx).1; rw [he.len] at this; exact this)
              simp only [hu1, Option.getD_some]
              exact hu2 x hx)
          rwa [List.length_map] at hfin
      have hw1 : (elems.length + rest.length) * P.bytesOf e ≤ reachBytes := by simpa using hw0
      rw [hB] at hw1
      rw [← hlen]
      exact Nat.le_trans (Nat.mul_le_mul_right _ (Nat.le_add_right _ _)) hw1
structure OpnF (P : Program) (fs : List Field) (o sz : Nat) {α : Type} (row : α → List T) (G : α → Prop) : Prop where
  len : ∀ x, (row x).length = sz
  op : ∀ {H : Type} {enc : TypeId × Value → H} {W : World} {fuel : Nat} {cs : List Value} {xs : List (DataW H × List MemPlace)},
    xs.length = fs.length → (∀ (i : Nat) (f : Field), fs[i]? = some f → DataW.trod enc P W 0 (fun _ => true) true fuel f.type ((cs.drop f.offset).take (P.cellsOf f.type)) = xs[i]?) →
    (∀ n ∈ DataW.weightsEach P (fs.map (·.type)) (xs.map (·.1)), n ≤ reachBytes) → cs.length = o + sz → ∃ x, RdRow W (row x) (cs.drop o) ∧ G x
theorem OpnF.one {f : Field} {o sz : Nat} {α : Type} {row : α → List T} {G : α → Prop} (he : Opn P f.type sz row G) (ho : f.offset = o) (hc : P.cellsOf f.type = sz) : OpnF P [f] o sz row G where
  len := he.len
  op := fun {H enc W fuel cs xs} hx h hz hl => by
    match xs, hx with
    | [y], _ =>
      have hy := h 0 f rfl
      rw [ho, hc, List.take_of_length_le (by simp; omega)] at hy
      exact he.op (show _ = some (y.1, y.2) from hy) (fun n hn => hz n (by simp only [List.map_cons, List.map_nil, DataW.weightsEach]; exact List.mem_append_left _ hn))
theorem OpnF.cons {f : Field} {r : List Field} {o sz sz2 : Nat} {α β : Type} {row : α → List T} {row2 : β → List T} {G : α → Prop} {G2 : β → Prop} (he : Opn P f.type sz row G) (ho : f.offset = o) (hc : P.cellsOf f.type = sz) (hr : OpnF P r (o + sz) sz2 row2 G2) :
    OpnF P (f :: r) o (sz + sz2) (fun x : α × β => row x.1 ++ row2 x.2) (fun x => G x.1 ∧ G2 x.2) where
  len := fun x => by rw [List.length_append, he.len, hr.len]
  op := fun {H enc W fuel cs xs} hx h hz hl => by
    match xs, hx with
    | y :: ys, hx =>
      have hl2 : cs.length = o + sz + sz2 := by omega
      have hy := h 0 f rfl
      rw [ho, hc] at hy
      obtain ⟨x, hK, hG⟩ := he.op (show _ = some (y.1, y.2) from hy) (fun n hn => hz n (by simp only [List.map_cons, DataW.weightsEach]; exact List.mem_append_left _ hn))
      obtain ⟨x2, hK2, hG2⟩ := hr.op (xs := ys) (by simpa using hx) (fun i g hg => h (i + 1) g hg) (fun n hn => hz n (by simp only [List.map_cons, DataW.weightsEach]; exact List.mem_append_right _ hn)) hl2
      refine ⟨(x, x2), ?_, hG, hG2⟩
      have := hK.append hK2
      rwa [← List.drop_drop, List.take_append_drop] at this
theorem Opn.struct {fs : Array Field} {sz : Nat} {α β : Type} {row : α → List T} {row2 : β → List T} {G : α → Prop} {G2 : β → Prop} (g : α → β) (hf : OpnF P fs.toList 0 sz row G) (hu : P.underlying t = some (.struct fs)) (hg : ∀ a, row2 (g a) = row a) (hG2 : ∀ a, G a → G2 (g a)) (hlen : ∀ b, (row2 b).length = sz) (hc : P.cellsOf t = sz) :
    Opn P t sz row2 G2 where
  len := hlen
  op := fun {H enc W fuel cs D ps} h hz => by
    obtain ⟨xs, n, _, hx, hl, hm, he⟩ := DataW.trod_struct hu h
    obtain ⟨rfl, _⟩ := Prod.mk.inj hx
    obtain ⟨x, hK, hG⟩ := hf.op (xs := xs) (by simpa using hm) (fun i f hf => he i f (by simpa using hf)) (fun n hn => hz n (by simp only [DataW.weights, hu]; exact hn)) (by omega)
    exact ⟨g x, by rw [hg]; simpa using hK, hG2 x hG⟩
end
theorem each_of {H : Type} {P : Program} {ts : List TypeId} {ds : List (DataW H)} (h : (DataW.weightsEach P ts ds).all (· ≤ reachBytes) = true) {j : Nat} {t : TypeId} {D : DataW H} (ht : ts[j]? = some t) (hd : ds[j]? = some D) : ∀ n ∈ DataW.weights P t D, n ≤ reachBytes := by
  intro n hn
  have := List.all_eq_true.1 h _ (DataW.weights_mem_each ht hd n hn)
  simpa using this
theorem AVrs_of {W : World} : ∀ {ts : List T} {cs : List Value}, RdRow W ts cs → AVr.AVrs (inCx W fun b => b < W.heap.size) (ts.map .t) cs
  | [], [], _ => trivial
  | t :: ts, c :: cs, h => ⟨h.2 0 t c rfl rfl, AVrs_of ⟨by have := h.1; simpa using this, fun j t' v' h1 h2 => h.2 (j + 1) t' v' h1 h2⟩⟩
  | [], _ :: _, h => by have := h.1; simp at this
  | _ :: _, [], h => by have := h.1; simp at this
theorem arg_agg {W : World} {ts : List T} {cs : Array Value} (h : RdRow W ts (Value.agg cs).cells.toList) : AVr (inCx W fun b => b < W.heap.size) (.agg (ts.map .t)) (.agg cs) :=
  ⟨cs.toList, by simp, AVrs_of h⟩
theorem arg_one {W : World} {t : T} {v : Value} (hv : v.cells.toList = [v]) (h : RdRow W [t] v.cells.toList) : AVr (inCx W fun b => b < W.heap.size) (.t t) v := by
  rw [hv] at h
  exact h.2 0 t v rfl rfl
theorem okWide_agg {P : Program} {W : World} {base : Nat} {t : TypeId} {fs : Array Field} {v : Value} (hu : P.underlying t = some (.struct fs)) (h : Value.okWide P W .any base t v) : ∃ cs, v = .agg cs := by
  unfold Value.okWide at h
  rw [hu] at h
  obtain ⟨cs, h, _⟩ := h
  exact ⟨cs, h⟩
theorem out_bool {w w' : World} {D : Dm} {b : Bool} {v : Value} (h : Out w D w' (.t (.bool b)) v) : v = .bool b ∧ Below w.heap.size w w' := by
  obtain ⟨h1, col, _, h2⟩ := h
  refine ⟨?_, h1.os, h1.tape, h1.output, h1.size, fun k hk => h1.block k hk (by simp)⟩
  have h3 : Rd (outCx w D w' col).w (outCx w D w' col).Dp (.bool b) v := h2
  cases h3
  rfl
end Go.Proofs.Ytofiljboaegekac.Am
namespace Go.Proofs.Ytofiljboaegekac.Am
open Go
set_option linter.unusedVariables false
set_option linter.unusedSimpArgs false
set_option maxRecDepth 100000
theorem lG_mk {α : Type} {G : α → Prop} {B : Nat} {xs : List α} (hB : 1 ≤ B) (h : xs.length * B ≤ 140737488351232 ∧ ∀ x ∈ xs, G x) : lG G xs :=
  ⟨Nat.le_trans (Nat.le_mul_of_pos_right _ hB) h.1, h.2⟩
def Stm.row (x : Stm) : List T := [.int .i64 x.last.t, .int .i64 x.last.n, .list false 3 (x.items.map It.row), .list false 4 (x.groups.map Gr.row)]
theorem opn_int : Opn Try.prog 3 1 (fun x : Int => [T.int .i64 x]) (fun x => (Lit.int .i64 x).wf = true) := Opn.int Try.underlying3
theorem opn_Id : Opn Try.prog 23 2 Idt.row (fun _ => True) := by
  refine Opn.struct (sz := 1 + 1) (fun (a : Int × Int) => ⟨a.1, a.2⟩) (OpnF.cons opn_int rfl (by kernel_rfl) (OpnF.one opn_int rfl (by kernel_rfl))) Try.underlying23 ?_ ?_ (fun _ => rfl) (by kernel_rfl)
  · exact fun _ => rfl
  · exact (fun _ _ => trivial)
theorem opn_Pair : Opn Try.prog 104 2 Pr.row Pr.G := by
  refine Opn.struct (sz := 1 + 1) (fun (a : ByteArray × ByteArray) => ⟨a.1, a.2⟩) (OpnF.cons (Opn.string Try.underlying9) rfl (by kernel_rfl) (OpnF.one (Opn.string Try.underlying9) rfl (by kernel_rfl))) Try.underlying104 ?_ ?_ (fun _ => rfl) (by kernel_rfl)
  · exact fun _ => rfl
  · exact (fun _ h => h)
theorem Opn.weaken {P : Program} {t : TypeId} {sz : Nat} {α : Type} {row : α → List T} {G G' : α → Prop} (h : Opn P t sz row G) (hg : ∀ x, G x → G' x) : Opn P t sz row G' :=
  ⟨h.len, fun h1 h2 => by obtain ⟨x, a, b⟩ := h.op h1 h2; exact ⟨x, a, hg x b⟩⟩
theorem opn_Pairs : Opn Try.prog 59 1 (fun xs : List Pr => [T.list false 2 (xs.map Pr.row)]) (lG Pr.G) :=
  (Opn.slice opn_Pair Try.underlying59 (by kernel_rfl) (by omega) (B := 32) (by kernel_rfl)).weaken fun _ => lG_mk (by omega)
theorem opn_Item : Opn Try.prog 61 3 It.row It.G := by
  refine Opn.struct (sz := 2 + 1) (fun (a : Idt × List Pr) => ⟨a.1, a.2⟩) (OpnF.cons opn_Id rfl (by kernel_rfl) (OpnF.one opn_Pairs rfl (by kernel_rfl))) Try.underlying61 ?_ ?_ (fun _ => rfl) (by kernel_rfl)
  · exact fun _ => rfl
  · exact (fun _ h => h.2)
theorem opn_Items : Opn Try.prog 24 1 (fun xs : List It => [T.list false 3 (xs.map It.row)]) (lG It.G) :=
  (Opn.slice opn_Item Try.underlying24 (by kernel_rfl) (by omega) (B := 40) (by kernel_rfl)).weaken fun _ => lG_mk (by omega)
theorem opn_Wait : Opn Try.prog 107 5 Wt.row Wt.G := by
  refine Opn.struct (sz := 2 + (1 + (1 + 1))) (fun (a : Idt × ByteArray × Int × Int) => ⟨a.1, a.2.1, a.2.2.1, a.2.2.2⟩) (OpnF.cons opn_Id rfl (by kernel_rfl) (OpnF.cons (Opn.string Try.underlying9) rfl (by kernel_rfl) (OpnF.cons opn_int rfl (by kernel_rfl) (OpnF.one opn_int rfl (by kernel_rfl))))) Try.underlying107 ?_ ?_ (fun _ => rfl) (by kernel_rfl)
  · exact fun _ => rfl
  · exact (fun _ h => h.2.1)
theorem opn_Waits : Opn Try.prog 63 1 (fun xs : List Wt => [T.list false 5 (xs.map Wt.row)]) (lG Wt.G) :=
  (Opn.slice opn_Wait Try.underlying63 (by kernel_rfl) (by omega) (B := 48) (by kernel_rfl)).weaken fun _ => lG_mk (by omega)
theorem opn_Group : Opn Try.prog 65 4 Gr.row Gr.G := by
  refine Opn.struct (sz := 1 + (2 + 1)) (fun (a : ByteArray × Idt × List Wt) => ⟨a.1, a.2.1, a.2.2⟩) (OpnF.cons (Opn.string Try.underlying9) rfl (by kernel_rfl) (OpnF.cons opn_Id rfl (by kernel_rfl) (OpnF.one opn_Waits rfl (by kernel_rfl)))) Try.underlying65 ?_ ?_ (fun _ => rfl) (by kernel_rfl)
  · exact fun _ => rfl
  · exact (fun _ h => ⟨h.1, h.2.2⟩)
theorem opn_Groups : Opn Try.prog 25 1 (fun xs : List Gr => [T.list false 4 (xs.map Gr.row)]) (lG Gr.G) :=
  (Opn.slice opn_Group Try.underlying25 (by kernel_rfl) (by omega) (B := 56) (by kernel_rfl)).weaken fun _ => lG_mk (by omega)
theorem opn_Stream : Opn Try.prog 27 4 Stm.row Stm.G := by
  refine Opn.struct (sz := 2 + (1 + 1)) (fun (a : Idt × List It × List Gr) => ⟨a.1, a.2.1, a.2.2⟩) (OpnF.cons opn_Id rfl (by kernel_rfl) (OpnF.cons opn_Items rfl (by kernel_rfl) (OpnF.one opn_Groups rfl (by kernel_rfl)))) Try.underlying27 ?_ ?_ (fun _ => rfl) (by kernel_rfl)
  · exact fun _ => rfl
  · exact (fun _ h => h.2)
end Go.Proofs.Ytofiljboaegekac.Am
