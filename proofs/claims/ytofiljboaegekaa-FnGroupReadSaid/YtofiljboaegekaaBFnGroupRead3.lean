/- Texts of this claim, packed: walks and laws that its row stands on. Each states its own conditions. -/
import Derived.Below
import Derived.ChangeArms
import Derived.ChangeOld
import Derived.ChangeSlices
import Derived.DataElems
import Derived.OpenShut
import Derived.ProofKit
import Derived.ShutString
import Derived.SizedLaws
import Derived.Test.YtofiljboaegekaaBFnGroupRead2
namespace Go.Proofs.Ytofiljboaegekaa.Am
open Go
set_option maxRecDepth 100000
set_option maxHeartbeats 4000000
set_option linter.unusedSimpArgs false
set_option linter.unusedVariables false
def Stm.d2 (s : Stm) : Prop := s.items.length ≤ 30 ∧ s.groups.length ≤ 30 ∧ (∀ i ∈ s.items, i.fields.length ≤ 30) ∧ ∀ g ∈ s.groups, g.waits.length ≤ 50
theorem Stm.d2.md {s : Stm} (h : s.d2) : s.md := ⟨by have := h.1; omega, by have := h.2.1; omega, fun i hi => by have := h.2.2.1 i hi; omega, fun g hg => by have := h.2.2.2 g hg; omega⟩
theorem Stm.d2.hw {s : Stm} (h : s.d2) : ∀ g ∈ s.groups, g.waits.length < 2000000 := fun g hg => by have := h.2.2.2 g hg; omega
theorem Stm.dd.d2 {s : Stm} (h : s.dd) : s.d2 := ⟨by have := h.1; omega, by have := h.2.1; omega, fun i hi => by have := h.2.2.1 i hi; omega, fun g hg => by have := h.2.2.2 g hg; omega⟩
theorem Stm.dd.addI {s : Stm} (h : s.dd) (i : Idt) (fs : List Pr) (hf : fs.length ≤ 17) : (⟨s.last, s.items ++ [⟨i, fs⟩], s.groups⟩ : Stm).d2 := by
  obtain ⟨h1, h2, h3, h4⟩ := h
  refine ⟨by simp only [List.length_append, List.length_cons, List.length_nil]; omega, by simp only; omega, fun x hx => ?_, fun g hg => by have := h4 g hg; omega⟩
  rcases List.mem_append.1 hx with hx | hx
  · have := h3 x hx; omega
  · simp only [List.mem_singleton] at hx; subst hx; show fs.length ≤ 30; omega
theorem Stm.dd.addG {s : Stm} (h : s.dd) (name : ByteArray) (i : Idt) : (⟨s.last, s.items, s.groups ++ [⟨name, i, []⟩]⟩ : Stm).d2 := by
  obtain ⟨h1, h2, h3, h4⟩ := h
  refine ⟨by simp only; omega, by simp only [List.length_append, List.length_cons, List.length_nil]; omega, fun x hx => by have := h3 x hx; omega, fun x hx => ?_⟩
  rcases List.mem_append.1 hx with hx | hx
  · have := h4 x hx; omega
  · simp only [List.mem_singleton] at hx; subst hx; show 0 ≤ 50; omega
theorem addM_okl {s : Stm} {now : Int} {fs : List Pr} (h : (addM s now fs).2.2 = true) : (addM s now fs).1.items.length = s.items.length + 1 := by
  unfold addM at h ⊢
  split
  · rename_i hok
    rw [if_pos hok] at h
    split
    · simp
    · rename_i hc; rw [if_neg hc] at h; cases h
  · rename_i hok; rw [if_neg hok] at h; cases h
theorem p_l11AnyStream : Plain Try.prog 86 := ⟨_, Try.func86, rfl, by decide⟩
theorem s_l11AnyStream (bs : List Int) (p : Int) (h : Drw bs p) (hp : p ≤ 700000000) : SpecO Try.prog 86 [.ptr 9000 0 0] (dwH bs p)
    (fun r h' => (∃ s : Stm, (r = s.avO ∨ r = s.av) ∧ s.d2) ∧ ∃ q, h' = dwH bs q ∧ p ≤ q ∧ q ≤ p + 3000) := by
  refine SpecO.of tysOk mixed Try.func86 rfl (by decide) ?_
  simp -implicitDefEqProofs only [go_sem, Try.f86]
  refine CallW.o [(9000, 9000)] (s_l11Stream bs p h (by omega)) p_l11Stream o140 rfl (by (conv => lhs; simp -implicitDefEqProofs only [go_sem]) <;> rfl) (by (simp -implicitDefEqProofs only [go_sem]) <;> rfl) ?_
  rintro _ _ ⟨⟨s, rfl, hs⟩, q, rfl, h0, h1⟩
  simp -implicitDefEqProofs only [go_sem]
  refine CallW.onep (s_l9Copy s hs.md) p_l9Copy (by first | (simp -implicitDefEqProofs only [go_sem]; done) | ((conv => lhs; simp -implicitDefEqProofs only [go_sem]); done) | (simp -implicitDefEqProofs only [go_sem]; rfl) | rfl) rfl ?_
  simp -implicitDefEqProofs only [go_sem]
  refine CallW.o [(9000, 9000)] (s_pick bs q 16 (h.to (by omega) (by omega)) (by omega)) p_pick o92 rfl (by (conv => lhs; simp -implicitDefEqProofs only [go_sem]) <;> rfl) (by (simp -implicitDefEqProofs only [go_sem]) <;> rfl) ?_
  rintro _ _ ⟨⟨c, rfl, c0, c1⟩, rfl⟩
  simp -implicitDefEqProofs only [go_sem]
  refine BrA_i (fun hc => ?_) (fun hc => ?_) <;> simp -implicitDefEqProofs only [go_sem, hc]
  · refine CallW.o [(9000, 9000)] (s_l11AnyId bs (q + 1) (h.to (by omega) (by omega)) (by omega)) p_l11AnyId o141 rfl (by (conv => lhs; simp -implicitDefEqProofs only [go_sem]) <;> rfl) (by (simp -implicitDefEqProofs only [go_sem]) <;> rfl) ?_
    rintro _ _ ⟨⟨i, rfl, hi⟩, q', rfl, q0, q1⟩
    simp -implicitDefEqProofs only [go_sem]
    exact ⟨⟨⟨i, s.items, s.groups⟩, .inl rfl, hs.d2⟩, q', rfl, by omega, by omega⟩
  refine BrA_i (fun hc2 => ?_) (fun hc2 => ?_) <;> simp -implicitDefEqProofs only [go_sem, hc2]
  · refine RegD_of sch_86_6 tysOk (by kernel_rfl) ?_
    simp -implicitDefEqProofs only [go_sem]
    (repeat' (with_reducible refine And.intro ?_ ?_))
    all_goals
      refine CallW.o [(9000, 9000)] (s_l11AnyId bs (q + 1) (h.to (by omega) (by omega)) (by omega)) p_l11AnyId o141 rfl (by (conv => lhs; simp -implicitDefEqProofs only [go_sem]) <;> rfl) (by (simp -implicitDefEqProofs only [go_sem]) <;> rfl) ?_
      rintro _ _ ⟨⟨i, rfl, hi⟩, q2, rfl, q0, q1⟩
      simp -implicitDefEqProofs only [go_sem]
    (repeat' (with_reducible refine And.intro ?_ ?_))
    all_goals
      refine CallW.o [(9000, 9000)] (s_l11AnyFields bs q2 (h.to (by omega) (by omega)) (by omega)) p_l11AnyFields o95 rfl (by (conv => lhs; simp -implicitDefEqProofs only [go_sem]) <;> rfl) (by (simp -implicitDefEqProofs only [go_sem]) <;> rfl) ?_
      rintro _ _ ⟨⟨fs, rfl, hf⟩, q3, rfl, q4, q5⟩
      have e : s.items.map It.rowO ++ [[T.int .i64 i.t, T.int .i64 i.n, T.list true 2 (fs.map Pr.row)]] = (s.items ++ [(⟨i, fs⟩ : It)]).map It.rowO := by rw [List.map_append]; rfl
      have hr : roomy (s.items.length + 1) 40 := by have := hs.1; unfold roomy; omega
      simp -implicitDefEqProofs only [go_sem, e, hr]
      exact ⟨⟨⟨s.last, s.items ++ [⟨i, fs⟩], s.groups⟩, .inl rfl, hs.addI i fs hf⟩, q3, rfl, by omega, by omega⟩
  refine BrA_i (fun hc3 => ?_) (fun hc3 => ?_) <;> simp -implicitDefEqProofs only [go_sem, hc3]
  · refine RegD_of sch_86_8 tysOk (by kernel_rfl) ?_
    simp -implicitDefEqProofs only [go_sem]
    (repeat' (with_reducible refine And.intro ?_ ?_))
    all_goals
      refine CallW.o [(9000, 9000), (9001, 272)] (s_of bs (q + 1) [⟨#[]⟩, ⟨#[122, 122]⟩, ⟨#[103]⟩] (h.to (by omega) (by omega)) (by simp)) p_of o87 rfl (by (conv => lhs; simp -implicitDefEqProofs only [go_sem]) <;> rfl) (by (simp -implicitDefEqProofs only [go_sem]) <;> rfl) ?_
      rintro _ _ ⟨⟨name, rfl, -⟩, rfl⟩
      simp -implicitDefEqProofs only [go_sem]
    (repeat' (with_reducible refine And.intro ?_ ?_))
    all_goals
      refine CallW.o [(9000, 9000)] (s_l11AnyId bs (q + 1 + 1) (h.to (by omega) (by omega)) (by omega)) p_l11AnyId o141 rfl (by (conv => lhs; simp -implicitDefEqProofs only [go_sem]) <;> rfl) (by (simp -implicitDefEqProofs only [go_sem]) <;> rfl) ?_
      rintro _ _ ⟨⟨i, rfl, hi⟩, q2, rfl, q0, q1⟩
      have e : s.groups.map Gr.rowO ++ [[T.str name, T.int .i64 i.t, T.int .i64 i.n, T.list true 5 []]] = (s.groups ++ [(⟨name, i, []⟩ : Gr)]).map Gr.rowO := by rw [List.map_append]; rfl
      have hr : roomy (s.groups.length + 1) 56 := by have := hs.2.1; unfold roomy; omega
      simp -implicitDefEqProofs only [go_sem, e, hr]
      exact ⟨⟨⟨s.last, s.items, s.groups ++ [⟨name, i, []⟩]⟩, .inl rfl, hs.addG name i⟩, q2, rfl, by omega, by omega⟩
  refine BrA_i (fun hc4 => ?_) (fun hc4 => ?_) <;> simp -implicitDefEqProofs only [go_sem, hc4]
  · refine LoopW.slotsM [true, false, true, true, false, false, false, false, false, false, false, false, false, false, false, false, false, false, false, false, false, false, false, false, false, false, false, false, false, false, false, false, false, false, false, false, false, false, false, false, false, false, false, false, false, false, false, false, false, false, false, false, false, false, false, false, false, false, false, false] (α := Stm × Int) (fun x => []) (fun x => [(24, .box [I x.1.last.t, I x.1.last.n, .refw 73, .refw 74]), (73, .rows 3 (x.1.items.map It.rowO)), (74, .rows 4 (x.1.groups.map Gr.rowO)), (9000, .box [by8 bs, I x.2])]) (fun x => 20 - x.1.items.length) (fun x => x.1.dd ∧ p ≤ x.2 ∧ x.2 + 30 * (20 - (x.1.items.length : Int)) ≤ p + 1700) (s, q + 1) (by simp -implicitDefEqProofs only [go_sem, LeTs_undef, LeTs_same, LeTs_nil]; try simp [LeTs]) rfl ⟨hs, by simp only; omega, by simp only; omega⟩ ?_
    rintro ⟨s, q⟩ ⟨g1, g2, g3⟩
    simp only at g1 g2 g3
    have hlen := g1.1
    simp -implicitDefEqProofs only [go_sem]
    refine BrA_i (fun hl => ?_) (fun hl => ?_) <;> simp -implicitDefEqProofs only [go_sem]
    · refine RegD_of sch_86_11 tysOk (by kernel_rfl) ?_
      simp -implicitDefEqProofs only [go_sem]
      (repeat' (with_reducible refine And.intro ?_ ?_))
      all_goals
        refine CallW.o [(9000, 9000)] (s_l11Pairs bs q (h.to (by omega) (by omega)) (by omega)) p_l11Pairs o142 rfl (by (conv => lhs; simp -implicitDefEqProofs only [go_sem]) <;> rfl) (by (simp -implicitDefEqProofs only [go_sem]) <;> rfl) ?_
        rintro _ _ ⟨⟨fs, rfl, hf⟩, q2, rfl, q0, q1⟩
        have hfl := fieldsOkM_len hf
        simp -implicitDefEqProofs only [go_sem]
      (repeat' (with_reducible refine And.intro ?_ ?_))
      all_goals
        refine CallW.one (s_sStreamAdd s 9 fs g1.md g1.hw (by omega)) p_sStreamAdd (by first | (simp -implicitDefEqProofs only [go_sem]; done) | ((conv => lhs; simp -implicitDefEqProofs only [go_sem]); done) | (simp -implicitDefEqProofs only [go_sem]; rfl) | rfl) (deep_addR _) ?_
        simp -implicitDefEqProofs only [go_sem]
        refine BrA_i (fun hk => ?_) (fun hk => ?_) <;> simp -implicitDefEqProofs only [go_sem]
        · have hlen2 := addM_okl hk
          have hl' : s.items.length < 16 := by have := of_decide_eq_true hl; omega
          refine .toR [32, 40, 409, 410, 411, 73, 74] [(417, 73), (418, 74)] ((addM s 9 fs).1, q2) rfl rfl ?_ ?_ (by simp only; omega) ⟨addM_dd _ _ _ (by omega), by simp only; omega, by simp only; omega⟩
          · simp -implicitDefEqProofs only [go_sem, LeTs_undef, LeTs_same, LeTs_nil]
          · simp -implicitDefEqProofs only [go_sem]
        · exact ⟨⟨s, .inl rfl, g1.d2⟩, q2, rfl, by omega, by omega⟩
    · exact ⟨⟨s, .inl rfl, g1.d2⟩, q, rfl, g2, by omega⟩
  · exact ⟨⟨s, .inl rfl, hs.d2⟩, _, rfl, by omega, by omega⟩
end Go.Proofs.Ytofiljboaegekaa.Am
namespace Go.Proofs.Ytofiljboaegekaa.Am
open Go
set_option maxRecDepth 100000
set_option maxHeartbeats 4000000
set_option linter.unusedSimpArgs false
set_option linter.unusedVariables false
theorem by8_mk (bs : List Int) : (bs.map fun b => [T.int .u8 b]).map (List.map (T.mk false)) = bs.map fun b => [T.int .u8 b] := Am.mk_rows _ (fun _ => rfl) bs
attribute [go_sem] by8_mk
theorem p_DrawGroupRead : Plain Try.prog 42 := ⟨_, Try.func42, rfl, by decide⟩
theorem s_DrawGroupRead (bs : List Int) (hb : ∀ x ∈ bs, 0 ≤ x ∧ x ≤ 255) (hl : bs.length ≤ 1048576) : Spec Try.prog 42 [by8 bs] (fun r => ∃ (s : Stm) (name who : ByteArray) (now count : Int), shareR r = .tup [s.av, .t (.str name), .t (.str who), I now, I count] ∧ s.d2 ∧ -1 ≤ now ∧ now ≤ 1000000 ∧ 0 ≤ count ∧ count ≤ 100) := by
  obtain ⟨cs, hd, ho⟩ := s_l1Open bs hb hl
  refine Spec.of tysOk mixed Try.func42 rfl (by decide) ?_
  simp -implicitDefEqProofs only [go_sem, Try.f42]
  refine CallW.box ho p_l1Open rfl rfl rfl rfl rfl (by decide) ?_
  simp -implicitDefEqProofs only [go_sem]
  refine CallW.o [(9000, 73)] (s_l11AnyStream cs 0 hd (by omega)) p_l11AnyStream o86 rfl (by (conv => lhs; simp -implicitDefEqProofs only [go_sem]) <;> rfl) (by (simp -implicitDefEqProofs only [go_sem]) <;> rfl) ?_
  rintro r _ ⟨⟨s, hr, hs⟩, q, rfl, q0, q1⟩
  rcases hr with rfl | rfl
  all_goals
    simp -implicitDefEqProofs only [go_sem]
    refine CallW.o [(9000, 73), (9001, 104)] (s_of cs (q) [⟨#[103]⟩, ⟨#[104]⟩, ⟨#[110, 111, 110, 101]⟩] (hd.to (by omega) (by omega)) (by simp)) p_of o87 rfl (by (conv => lhs; simp -implicitDefEqProofs only [go_sem]) <;> rfl) (by (simp -implicitDefEqProofs only [go_sem]) <;> rfl) ?_
    rintro _ _ ⟨⟨name, rfl, -⟩, rfl⟩
    simp -implicitDefEqProofs only [go_sem]
    refine CallW.o [(9000, 73), (9001, 128)] (s_of cs (q + 1) [⟨#[97, 110, 110]⟩, ⟨#[98, 111, 98]⟩, ⟨#[]⟩] (hd.to (by omega) (by omega)) (by simp)) p_of o87 rfl (by (conv => lhs; simp -implicitDefEqProofs only [go_sem]) <;> rfl) (by (simp -implicitDefEqProofs only [go_sem]) <;> rfl) ?_
    rintro _ _ ⟨⟨who, rfl, -⟩, rfl⟩
    simp -implicitDefEqProofs only [go_sem]
    refine CallW.o [(9000, 73), (9001, 152)] (s_oneI cs (q + 1 + 1) [0, 5, 20, -1] (hd.to (by omega) (by omega)) (by simp)) p_oneI o91 rfl (by (conv => lhs; simp -implicitDefEqProofs only [go_sem]) <;> rfl) (by (simp -implicitDefEqProofs only [go_sem]) <;> rfl) ?_
    rintro _ _ ⟨⟨now, rfl, m_now⟩, rfl⟩
    simp only [List.mem_cons, List.not_mem_nil, or_false] at m_now
    simp -implicitDefEqProofs only [go_sem]
    refine CallW.o [(9000, 73), (9001, 176)] (s_oneI cs (q + 1 + 1 + 1) [1, 2, 100, 0] (hd.to (by omega) (by omega)) (by simp)) p_oneI o91 rfl (by (conv => lhs; simp -implicitDefEqProofs only [go_sem]) <;> rfl) (by (simp -implicitDefEqProofs only [go_sem]) <;> rfl) ?_
    rintro _ _ ⟨⟨count, rfl, m_count⟩, rfl⟩
    simp only [List.mem_cons, List.not_mem_nil, or_false] at m_count
    simp -implicitDefEqProofs only [go_sem]
    exact ⟨s, name, who, now, count, rfl, hs, by omega, by omega, by omega, by omega⟩
end Go.Proofs.Ytofiljboaegekaa.Am
namespace Go.Proofs.Ytofiljboaegekaa.Am
open Go
set_option linter.unusedVariables false
def mkC : AV → AV
  | .t x => .t (x.mk false)
  | x => x
def mkCs : List AV → List AV
  | [] => []
  | x :: l => mkC x :: mkCs l
def mkV : AV → AV
  | .agg cs => .agg (mkCs cs)
  | x => mkC x
def mkVs : List AV → List AV
  | [] => []
  | x :: l => mkV x :: mkVs l
def mkR : AV → AV
  | .tup l => .tup (mkVs l)
  | x => mkV x
theorem ResC.mk {c : Cx} {col : Col} {i j : Nat} {x : AV} {v : Value} (h : ResC c col i j x v) : ResC c col i j (mkC x) v := by
  cases x <;> first | exact Rd.mk false h | exact h
theorem ResCs.mk {c : Cx} {col : Col} {i : Nat} : ∀ {xs : List AV} {vs : List Value} {j : Nat}, ResCs c col i j xs vs → ResCs c col i j (mkCs xs) vs
  | [], [], _, _ => trivial
  | x :: xs, v :: vs, j, h => ⟨ResC.mk h.1, ResCs.mk h.2⟩
  | [], _ :: _, _, h => h.elim
  | _ :: _, [], _, h => h.elim
theorem ResV.mk {c : Cx} {col : Col} {i : Nat} {x : AV} {v : Value} (h : ResV c col i x v) : ResV c col i (mkV x) v := by
  cases x with
  | agg cs => obtain ⟨vs, e, h⟩ := h; exact ⟨vs, e, ResCs.mk h⟩
  | t y => exact ResC.mk (c := c) (col := col) (i := i) (j := 0) (x := .t y) h
  | _ => exact h
theorem ResVs.mk {c : Cx} {col : Col} : ∀ {xs : List AV} {vs : List Value} {i : Nat}, ResVs c col i xs vs → ResVs c col i (mkVs xs) vs
  | [], [], _, _ => trivial
  | x :: xs, v :: vs, i, h => ⟨ResV.mk h.1, ResVs.mk h.2⟩
  | [], _ :: _, _, h => h.elim
  | _ :: _, [], _, h => h.elim
theorem ResR.mk {c : Cx} {col : Col} {r : AV} {v : Value} (h : ResR c col r v) : ResR c col (mkR r) v := by
  cases r with
  | tup xs => obtain ⟨vs, e, h⟩ := h; exact ⟨vs, e, ResVs.mk h⟩
  | agg cs => exact ResV.mk (c := c) (col := col) (i := 0) (x := .agg cs) h
  | t y => exact ResV.mk (c := c) (col := col) (i := 0) (x := .t y) h
  | _ => exact h
theorem Spec.mkR {P : Program} {f : FuncId} {args : List AV} {Q : AV → Prop} (h : Spec P f args Q) : Spec P f args (fun r => ∃ r0, Q r0 ∧ r = Am.mkR r0) := fun w D vs hD hv => (h w D vs hD hv).mono fun e w' ⟨v, r, he, hq, hs, col, hc, hr⟩ =>
  ⟨v, Am.mkR r, he, ⟨r, hq, rfl⟩, hs, col, hc, hr.mk⟩
theorem LeS.freeze {s s' : St} {k : Nat} (h : s.freeze k = some s') : LeS s s' := fun B a w ⟨ρ, col, hs⟩ => by
  obtain ⟨sz, rs, hk, hn, hp, rfl⟩ := freeze_some h
  exact ⟨_, _, (hs.freeze hk hn hp).1⟩
theorem LeS.freezes : ∀ {ks : List Nat} {s s' : St}, s.freezes ks = some s' → LeS s s'
  | [], s, s', h => by simp [St.freezes] at h; subst h; exact LeS.refl _
  | k :: ks, s, s', h => by
    simp only [St.freezes, Option.bind_eq_some_iff] at h
    obtain ⟨s1, h1, h2⟩ := h
    exact (LeS.freeze h1).trans (LeS.freezes h2)
attribute [go_sem] mkC mkCs mkV mkVs mkR
end Go.Proofs.Ytofiljboaegekaa.Am
namespace Go.Proofs.Ytofiljboaegekaa.Am
open Go
set_option maxRecDepth 100000
set_option maxHeartbeats 4000000
set_option linter.unusedSimpArgs false
set_option linter.unusedVariables false
theorem Idt.mk_rows' (l : List Idt) : (l.map Idt.row).map (List.map (T.mk false)) = l.map Idt.row := Am.mk_rows _ (fun _ => rfl) l
attribute [go_sem] Idt.mk_rows'
end Go.Proofs.Ytofiljboaegekaa.Am
namespace Go.Proofs.Ytofiljboaegekaa.Am
open Go
set_option linter.unusedSimpArgs false
set_option linter.unusedVariables false
theorem allAt_mono {α : Type} {good good' : α → Bool} {link : α → α → Bool} {l : List α} (h : allAt good link l = true) (hg : ∀ x ∈ l, good x = true → good' x = true) : allAt good' link l = true := by
  unfold allAt at h ⊢
  rw [Bool.and_eq_true] at h ⊢
  exact ⟨List.all_eq_true.2 fun x hx => hg x hx (List.all_eq_true.1 h.1 x hx), h.2⟩
theorem allAt_snoc {α : Type} {good : α → Bool} {link : α → α → Bool} : ∀ {l : List α} {x : α}, allAt good link l = true → good x = true → (∀ y ∈ l, link y x = true) → allAt good link (l ++ [x]) = true
  | [], x, _, hx, _ => by rw [List.nil_append, allAt_one]; exact hx
  | [y], x, h, hx, hl => by
    rw [allAt_one] at h
    rw [List.cons_append, List.nil_append, allAt_cons, allAt_one, h, hl y (by simp), hx]; rfl
  | y :: z :: l, x, h, hx, hl => by
    rw [allAt_cons, Bool.and_eq_true] at h
    have := allAt_snoc h.2 hx (fun w hw => hl w (List.mem_cons_of_mem _ hw))
    rw [List.cons_append, List.cons_append, allAt_cons, h.1, Bool.true_and]
    exact this
theorem ltM_up {a b c : Idt} (h : ltM a b = true) (h' : ltM a c = false) : ltM b c = false := by
  cases e : ltM b c
  · rfl
  · rw [ltM_trans h e] at h'; cases h'
end Go.Proofs.Ytofiljboaegekaa.Am
namespace Go.Proofs.Ytofiljboaegekaa.Am
open Go
set_option maxRecDepth 100000
set_option maxHeartbeats 400000
set_option linter.unusedSimpArgs false
set_option linter.unusedVariables false
def wfor (who : ByteArray) (w : Wt) : Bool := decide (who = ⟨#[]⟩) || decide (w.who = who)
def waitsM (s : Stm) (name who : ByteArray) : List Wt :=
  if streamOkM s = true then match gIx s.groups name with
    | none => []
    | some i => (s.groups.getD i ⟨.empty, ⟨0, 0⟩, []⟩).waits.filter (wfor who)
  else []
theorem p_GroupWaits : Plain Try.prog 26 := ⟨_, Try.func26, rfl, by decide⟩
theorem s_GroupWaits (s : Stm) (name who : ByteArray) (hs : s.md) (hw : ∀ g ∈ s.groups, g.waits.length < 2000000) : Spec Try.prog 26 [s.av, .t (.str name), .t (.str who)] (fun r => r = .own (.list true 5 ((waitsM s name who).map Wt.row))) := by
  have hsm := hs.sm.1
  have hs2 := hs.2.1
  have hs4 := hs.2.2.2
  refine Spec.of tysOk mixed Try.func26 rfl (by decide) ?_
  simp -implicitDefEqProofs only [go_sem, Try.f26]
  refine CallW.onep (s_group s name hs2) p_group (by first | (simp -implicitDefEqProofs only [go_sem]; done) | ((conv => lhs; simp -implicitDefEqProofs only [go_sem]); done) | (simp -implicitDefEqProofs only [go_sem]; rfl) | rfl) rfl ?_
  cases hg : gIx s.groups name with
  | none =>
    simp -implicitDefEqProofs only [go_sem, grpR]
    refine CallW.one (s_StreamOk s hsm hw) p_StreamOk (by first | (simp -implicitDefEqProofs only [go_sem]; done) | ((conv => lhs; simp -implicitDefEqProofs only [go_sem]); done) | (simp -implicitDefEqProofs only [go_sem]; rfl) | rfl) (by first | trivial | (simp [DeepR, DeepV, DeepVs, DeepC, DeepCs, T.scal]; done)) ?_
    simp -implicitDefEqProofs only [go_sem]
    cases hok : streamOkM s
    · simp -implicitDefEqProofs only [go_sem]
      simp [waitsM, hok]
    · simp -implicitDefEqProofs only [go_sem]
      simp [waitsM, hok, hg]
  | some n =>
    have hn := gIx_lt hg
    simp -implicitDefEqProofs only [go_sem, grpR, row_getD _ _ hn, Gr.row]
    refine CallW.one (s_StreamOk s hsm hw) p_StreamOk (by first | (simp -implicitDefEqProofs only [go_sem]; done) | ((conv => lhs; simp -implicitDefEqProofs only [go_sem]); done) | (simp -implicitDefEqProofs only [go_sem]; rfl) | rfl) (by first | trivial | (simp [DeepR, DeepV, DeepVs, DeepC, DeepCs, T.scal]; done)) ?_
    simp -implicitDefEqProofs only [go_sem]
    cases hok : streamOkM s
    · simp -implicitDefEqProofs only [go_sem]
      simp [waitsM, hok]
    · simp -implicitDefEqProofs only [go_sem]
      have hwl := hs4 _ (List.getElem_mem hn)
      obtain ⟨ws, hws⟩ : ∃ ws, ws = s.groups[n].waits := ⟨_, rfl⟩
      have hfin : waitsM s name who = ws.filter (wfor who) := by
        simp only [waitsM, hok, hg, if_true, hws]
        rw [List.getD_eq_getElem?_getD, List.getElem?_eq_getElem hn]; rfl
      rw [← hws] at hwl ⊢
      rw [hfin]
      refine LoopW.slotsM [false, false, true, false, false, false, false, true, false, false, false, false, false, false, false, false, false, false, false, false, false, false, false, false, false, false, true, true, true, false, false, false, false, false, false, false, false, false, false, false, false, false, false, false, false, false] (α := Nat) (fun i => [(28, I i)]) (fun i => [(88, .rows 5 (((ws.take i).filter (wfor who)).map Wt.row))]) (fun i => ws.length - i) (fun i => i ≤ ws.length) 0 (by simp -implicitDefEqProofs only [go_sem, LeTs_undef, LeTs_same, LeTs_nil]; try simp [LeTs]) (by simp -implicitDefEqProofs only [go_sem, List.take_zero, List.filter_nil, List.map_nil]) (by omega) ?_
      intro i hi
      simp -implicitDefEqProofs only [go_sem]
      refine BrA_i (fun h => ?_) (fun h => ?_) <;> simp -implicitDefEqProofs only [go_sem]
      · skip
        have h : i < ws.length := by simp at h; omega
        have h0i : (0 : Int) ≤ i := by omega
        have h1i : (i : Int) < ws.length := by omega
        have wi : IntKind.i64.wrap ((i : Int) + 1) = ((i + 1 : Nat) : Int) := by rw [wrap64 (by omega) (by omega)]; omega
        have ef := filter_take (wfor who) ws h
        have hl : ((ws.take i).filter (wfor who)).length ≤ 1048576 := Nat.le_trans (List.length_filter_le _ _) (by simp; omega)
        obtain ⟨acc, hacc⟩ : ∃ acc, acc = (ws.take i).filter (wfor who) := ⟨_, rfl⟩
        rw [← hacc] at ef hl ⊢
        simp -implicitDefEqProofs only [go_sem, h, h0i, h1i, row_getD _ _ h, Wt.row, wi]
        (repeat' (first   | (refine BrA_i (fun h => ?_) (fun h => ?_) <;> (try simp only [decide_eq_true_eq, decide_eq_false_iff_not, Bool.not_eq_true', Bool.not_eq_false', gt_iff_lt, ge_iff_le] at h) <;> try simp -implicitDefEqProofs only [go_sem, wi, List.length_map])   | (refine And.intro (a := roomy _ _) (by (unfold roomy; (try simp only [List.length_take, List.length_append, List.length_map, List.length_cons, List.length_nil]); omega)) ?_; try simp -implicitDefEqProofs only [go_sem, wi, List.length_map])))
        all_goals first
          | (have he : wfor who ws[i] = true := by
               simp only [wfor, Bool.or_eq_true, decide_eq_true_eq]; first | (left; assumption) | (right; assumption)
             rw [if_pos he] at ef
             have e2 : (acc ++ [ws[i]]).map Wt.row = acc.map Wt.row ++ [[T.int .i64 ws[i].id.t, T.int .i64 ws[i].id.n, T.str ws[i].who, T.int .i64 ws[i].at', T.int .i64 ws[i].tm]] := by rw [List.map_append]; rfl
             refine .to [80, 336, 344] (i + 1) rfl ?_ ?_ (by omega) (by omega) <;> simp -implicitDefEqProofs only [go_sem, LeTs_undef, LeTs_same, LeTs_nil, ef, e2, wi])
          | (have he : ¬ wfor who ws[i] = true := by
               simp only [wfor, Bool.or_eq_true, decide_eq_true_eq]; rintro (h' | h') <;> contradiction
             rw [if_neg he, List.append_nil] at ef
             refine .to [80, 336, 344] (i + 1) rfl ?_ ?_ (by omega) (by omega) <;> simp -implicitDefEqProofs only [go_sem, LeTs_undef, LeTs_same, LeTs_nil, ef, wi])
      · have h : i = ws.length := by simp at h; omega
        subst h
        simp -implicitDefEqProofs only [go_sem, List.take_length]
end Go.Proofs.Ytofiljboaegekaa.Am
namespace Go.Proofs.Ytofiljboaegekaa.Am
open Go
set_option linter.unusedSimpArgs false
set_option linter.unusedVariables false
theorem links_map {α β : Type} (n : α → β) (f : β → β → Bool) (xs : List α) : (xs.zip xs.tail).all (fun p => f (n p.1) (n p.2)) = ((xs.map n).zip (xs.map n).tail).all fun p => f p.1 p.2 := by
  rw [← List.map_tail, List.zip_map, List.all_map]; rfl
theorem names_set {gs : List Gr} {i : Nat} (h : i < gs.length) (g : Gr) (hn : g.name = gs[i].name) : (gs.set i g).map Gr.name = gs.map Gr.name := by
  rw [List.map_set, hn]
  have : (gs.map Gr.name)[i]'(by simpa using h) = gs[i].name := by simp
  rw [← this, List.set_getElem_self]
theorem gIx_names {gs gs' : List Gr} (h : gs.map Gr.name = gs'.map Gr.name) (name : ByteArray) : gIx gs name = gIx gs' name := by
  have e : ∀ l : List Gr, gIx l name = (l.map Gr.name).findIdx? fun n => decide (n = name) := fun l => by
    unfold gIx; rw [List.findIdx?_map]; rfl
  rw [e, e, h]
theorem putW_ok {s : Stm} (hok : streamOkM s = true) {i : Nat} (h : i < s.groups.length) (g : Gr) (hn : g.name = s.groups[i].name) (hg : grGood s.last g = true) : streamOkM (putW s i g) = true := by
  unfold streamOkM at hok
  show (idM s.last && decide (s.items.length ≤ 16) && decide ((s.groups.set i g).length ≤ 3) && allAt (itGood s.last) itLink s.items && allAt (grGood s.last) grLink (s.groups.set i g)) = true
  simp only [Bool.and_eq_true, decide_eq_true_eq] at hok ⊢
  obtain ⟨⟨⟨⟨h0, h1⟩, h2⟩, h3⟩, h4⟩ := hok
  refine ⟨⟨⟨⟨h0, h1⟩, by rw [List.length_set]; exact h2⟩, h3⟩, ?_⟩
  unfold allAt at h4 ⊢
  rw [Bool.and_eq_true] at h4 ⊢
  refine ⟨List.all_eq_true.2 fun x hx => ?_, ?_⟩
  · rcases List.mem_or_eq_of_mem_set hx with h' | h'
    · exact List.all_eq_true.1 h4.1 x h'
    · rw [h']; exact hg
  · have := h4.2
    unfold grLink at this ⊢
    rw [links_map Gr.name bytesLt] at this ⊢
    rw [names_set h g hn]; exact this
theorem waitsM_all {s : Stm} (hok : streamOkM s = true) {name : ByteArray} {i : Nat} (hg : gIx s.groups name = some i) : waitsM s name ⟨#[]⟩ = (gAt s i).waits := by
  unfold waitsM
  rw [if_pos hok, hg]
  have hn := gIx_lt hg
  have h : ∀ w, wfor ⟨#[]⟩ w = true := fun w => by simp [wfor]
  simp only
  rw [List.filter_eq_self.2 (fun w _ => h w), gAt_eq hn, List.getD_eq_getElem?_getD, List.getElem?_eq_getElem hn]; rfl
theorem putW_at {s : Stm} {i : Nat} (h : i < s.groups.length) (g : Gr) : gAt (putW s i g) i = g := by
  rw [gAt_eq (by simp only [putW, List.length_set]; exact h)]
  simp [putW]
theorem gAt_good {s : Stm} (hok : streamOkM s = true) {i : Nat} (h : i < s.groups.length) : grGood s.last (gAt s i) = true := by
  rw [gAt_eq h]
  unfold streamOkM at hok
  simp only [Bool.and_eq_true, decide_eq_true_eq] at hok
  exact allAt_all hok.2 _ (List.getElem_mem h)
end Go.Proofs.Ytofiljboaegekaa.Am
namespace Go.Proofs.Ytofiljboaegekaa.Am
open Go
set_option maxRecDepth 100000
set_option maxHeartbeats 1000000
set_option linter.unusedSimpArgs false
set_option linter.unusedVariables false
theorem p_qxFields : Plain Try.prog 38 := ⟨_, Try.func38, rfl, by decide⟩
theorem s_qxFields (xs ys : List Pr) (hx : xs.length < 4611686018427387904) : Spec Try.prog 38 [.t (.list false 2 (xs.map Pr.row)), .t (.list false 2 (ys.map Pr.row))] (fun r => r = Bo (decide (xs = ys))) := by
  refine Spec.of tysOk mixed Try.func38 rfl (by decide) ?_
  simp -implicitDefEqProofs only [go_sem, Try.f38]
  refine BrA_i (fun h => ?_) (fun h => ?_) <;> simp -implicitDefEqProofs only [go_sem]
  · have hl : xs.length = ys.length := by have := of_decide_eq_true h; omega
    refine LoopW.slotsM [true, true, false, false, false, true, false, false, false, false, false, false, false, false, false, false, false, false, false, false, false, false, false, false, false, false] (α := Nat) (fun i => [(5, I i)]) (fun _ => []) (fun i => xs.length - i) (fun i => i ≤ xs.length ∧ ∀ j (h : j < xs.length), j < i → xs[j] = ys[j]) 0 (by simp -implicitDefEqProofs only [go_sem, LeTs_undef, LeTs_same, LeTs_nil]; try simp [LeTs]) rfl (by simp) ?_
    rintro i ⟨hi, hz⟩
    simp -implicitDefEqProofs only [go_sem]
    refine BrA_i (fun h => ?_) (fun h => ?_) <;> simp -implicitDefEqProofs only [go_sem]
    · have h : i < xs.length := by simp at h; omega
      have h' : i < ys.length := by omega
      have h0i : (0 : Int) ≤ i := by omega
      have h1i : (i : Int) < xs.length := by omega
      have h2i : (i : Int) < ys.length := by omega
      have wi : IntKind.i64.wrap ((i : Int) + 1) = ((i + 1 : Nat) : Int) := by rw [wrap64 (by omega) (by omega)]; omega
      have r1 := row_getD Pr.row xs h
      have r2 := row_getD Pr.row ys h'
      try simp only [Pr.row] at r1 r2
      refine RegD_of sch_38_6 tysOk (by kernel_rfl) ?_
      simp -implicitDefEqProofs only [go_sem, h0i, h1i, h2i, r1, r2, h, h']
      refine BrA_i (fun he => ?_) (fun he => ?_) <;> simp -implicitDefEqProofs only [go_sem, wi]
      · have he' : xs[i] = ys[i] := by
          simp only [Bool.and_eq_true, decide_eq_true_eq] at he; exact Pr.ext he.1 he.2
        refine .to [] (i + 1) rfl ?_ ?_ (by omega) ⟨h, fun j hj hl => ?_⟩ <;> (try simp -implicitDefEqProofs only [go_sem, LeTs_undef, LeTs_same, LeTs_nil])
        rcases Nat.lt_succ_iff_lt_or_eq.1 hl with hl | rfl
        · exact hz j hj hl
        · exact he'
      · have : xs ≠ ys := fun e => by subst e; simp at he
        simp [this]
    · have : xs = ys := List.ext_getElem hl fun j h1 h2 => hz j h1 (by simp at h; omega)
      simp [this]
  · have : xs ≠ ys := fun e => by subst e; simp at h
    simp [this]
theorem p_qxWaits : Plain Try.prog 27 := ⟨_, Try.func27, rfl, by decide⟩
theorem s_qxWaits (xs ys : List Wt) (hx : xs.length < 4611686018427387904) : Spec Try.prog 27 [.t (.list false 5 (xs.map Wt.row)), .t (.list false 5 (ys.map Wt.row))] (fun r => r = Bo (decide (xs = ys))) := by
  refine Spec.of tysOk mixed Try.func27 rfl (by decide) ?_
  simp -implicitDefEqProofs only [go_sem, Try.f27]
  refine BrA_i (fun h => ?_) (fun h => ?_) <;> simp -implicitDefEqProofs only [go_sem]
  · have hl : xs.length = ys.length := by have := of_decide_eq_true h; omega
    refine LoopW.slotsM [true, true, false, false, false, true, false, false, false, false, false, false, false, false, false, false, false, false, false, false, false, false, false, false, false, false] (α := Nat) (fun i => [(5, I i)]) (fun _ => []) (fun i => xs.length - i) (fun i => i ≤ xs.length ∧ ∀ j (h : j < xs.length), j < i → xs[j] = ys[j]) 0 (by simp -implicitDefEqProofs only [go_sem, LeTs_undef, LeTs_same, LeTs_nil]; try simp [LeTs]) rfl (by simp) ?_
    rintro i ⟨hi, hz⟩
    simp -implicitDefEqProofs only [go_sem]
    refine BrA_i (fun h => ?_) (fun h => ?_) <;> simp -implicitDefEqProofs only [go_sem]
    · have h : i < xs.length := by simp at h; omega
      have h' : i < ys.length := by omega
      have h0i : (0 : Int) ≤ i := by omega
      have h1i : (i : Int) < xs.length := by omega
      have h2i : (i : Int) < ys.length := by omega
      have wi : IntKind.i64.wrap ((i : Int) + 1) = ((i + 1 : Nat) : Int) := by rw [wrap64 (by omega) (by omega)]; omega
      have r1 := row_getD Wt.row xs h
      have r2 := row_getD Wt.row ys h'
      try simp only [Wt.row] at r1 r2
      refine RegD_of sch_27_6 tysOk (by kernel_rfl) ?_
      simp -implicitDefEqProofs only [go_sem, h0i, h1i, h2i, r1, r2, h, h']
      refine BrA_i (fun he => ?_) (fun he => ?_) <;> simp -implicitDefEqProofs only [go_sem, wi]
      · have he' : xs[i] = ys[i] := by
          simp only [Bool.and_eq_true, decide_eq_true_eq] at he; exact Wt.ext (Idt.ext (by simp [he]) (by simp [he])) (by simp [he]) (by simp [he]) (by simp [he])
        refine .to [] (i + 1) rfl ?_ ?_ (by omega) ⟨h, fun j hj hl => ?_⟩ <;> (try simp -implicitDefEqProofs only [go_sem, LeTs_undef, LeTs_same, LeTs_nil])
        rcases Nat.lt_succ_iff_lt_or_eq.1 hl with hl | rfl
        · exact hz j hj hl
        · exact he'
      · have : xs ≠ ys := fun e => by subst e; simp at he
        simp [this]
    · have : xs = ys := List.ext_getElem hl fun j h1 h2 => hz j h1 (by simp at h; omega)
      simp [this]
  · have : xs ≠ ys := fun e => by subst e; simp at h
    simp [this]
theorem p_qxItems : Plain Try.prog 31 := ⟨_, Try.func31, rfl, by decide⟩
theorem s_qxItems (xs ys : List It) (hx : xs.length < 4611686018427387904) (hs : ∀ x ∈ xs, x.sm) : Spec Try.prog 31 [.t (.list false 3 (xs.map It.row)), .t (.list false 3 (ys.map It.row))] (fun r => r = Bo (decide (xs = ys))) := by
  refine Spec.of tysOk mixed Try.func31 rfl (by decide) ?_
  simp -implicitDefEqProofs only [go_sem, Try.f31]
  refine BrA_i (fun h => ?_) (fun h => ?_) <;> simp -implicitDefEqProofs only [go_sem]
  · have hl : xs.length = ys.length := by have := of_decide_eq_true h; omega
    refine LoopW.slotsM [true, true, false, false, false, true, false, false, false, false, false, false, false, false, false, false, false, false, false, false, false, false, false, false, false, false, false, false, false, false, false, false, false, false, false, false, false, false, false, false, false, false] (α := Nat) (fun i => [(5, I i)]) (fun _ => []) (fun i => xs.length - i) (fun i => i ≤ xs.length ∧ ∀ j (h : j < xs.length), j < i → xs[j] = ys[j]) 0 (by simp -implicitDefEqProofs only [go_sem, LeTs_undef, LeTs_same, LeTs_nil]; try simp [LeTs]) rfl (by simp) ?_
    rintro i ⟨hi, hz⟩
    simp -implicitDefEqProofs only [go_sem]
    refine BrA_i (fun h => ?_) (fun h => ?_) <;> simp -implicitDefEqProofs only [go_sem]
    · have h : i < xs.length := by simp at h; omega
      have h' : i < ys.length := by omega
      have h0i : (0 : Int) ≤ i := by omega
      have h1i : (i : Int) < xs.length := by omega
      have h2i : (i : Int) < ys.length := by omega
      have wi : IntKind.i64.wrap ((i : Int) + 1) = ((i + 1 : Nat) : Int) := by rw [wrap64 (by omega) (by omega)]; omega
      have r1 := row_getD It.row xs h
      have r2 := row_getD It.row ys h'
      simp only [It.row] at r1 r2
      have hsx : (xs[i]).fields.length < 4611686018427387904 := hs _ (List.getElem_mem h)
      (try refine RegD_of sch_31_6 tysOk (by kernel_rfl) ?_)
      simp -implicitDefEqProofs only [go_sem, h0i, h1i, h2i, r1, r2, h, h']
      refine BrA_i (fun he => ?_) (fun he => ?_) <;> simp -implicitDefEqProofs only [go_sem, h0i, h1i, h2i, r1, r2, h, h']
      · simp only [Bool.and_eq_true, decide_eq_true_eq] at he
        refine CallW.one (s_qxFields xs[i].fields ys[i].fields hsx) p_qxFields (by first | (simp -implicitDefEqProofs only [go_sem]; done) | ((conv => lhs; simp -implicitDefEqProofs only [go_sem]); done) | (simp -implicitDefEqProofs only [go_sem]; rfl) | rfl) (by first | trivial | (simp [DeepR, DeepV, DeepVs, DeepC, DeepCs, T.scal]; done)) ?_
        simp -implicitDefEqProofs only [go_sem]
        refine BrA_i (fun hf => ?_) (fun hf => ?_) <;> simp -implicitDefEqProofs only [go_sem, wi]
        · have hf := of_decide_eq_true hf
          have he' : xs[i] = ys[i] := It.ext (Idt.ext he.1 he.2) hf
          refine .to [313, 314, 315] (i + 1) rfl ?_ ?_ (by omega) ⟨h, fun j hj hl => ?_⟩ <;> (try simp -implicitDefEqProofs only [go_sem, LeTs_undef, LeTs_same, LeTs_nil])
          rcases Nat.lt_succ_iff_lt_or_eq.1 hl with hl | rfl
          · exact hz j hj hl
          · exact he'
        · have : xs ≠ ys := fun e => by subst e; simp at hf
          simp [this]
      · have : xs ≠ ys := fun e => by subst e; simp at he
        simp [this]
    · have : xs = ys := List.ext_getElem hl fun j h1 h2 => hz j h1 (by simp at h; omega)
      simp [this]
  · have : xs ≠ ys := fun e => by subst e; simp at h
    simp [this]
theorem p_qxStream : Plain Try.prog 37 := ⟨_, Try.func37, rfl, by decide⟩
theorem s_qxStream (x y : Stm) (hx : x.sm) : Spec Try.prog 37 [x.av, y.av] (fun r => r = Bo (decide (x = y))) := by
  obtain ⟨x1, x2, x3, x4⟩ := hx
  refine Spec.of tysOk mixed Try.func37 rfl (by decide) ?_
  simp -implicitDefEqProofs only [go_sem, Try.f37]
  refine BrA_i (fun h1 => ?_) (fun h1 => ?_) <;> simp -implicitDefEqProofs only [go_sem, h1]
  · refine CallW.one (s_qxItems x.items y.items x1 x3) p_qxItems (by first | (simp -implicitDefEqProofs only [go_sem]; done) | ((conv => lhs; simp -implicitDefEqProofs only [go_sem]); done) | (simp -implicitDefEqProofs only [go_sem]; rfl) | rfl) (by first | trivial | (simp [DeepR, DeepV, DeepVs, DeepC, DeepCs, T.scal]; done)) ?_
    simp -implicitDefEqProofs only [go_sem, h1]
    refine BrA_i (fun h2 => ?_) (fun h2 => ?_) <;> simp -implicitDefEqProofs only [go_sem, h1, h2]
    · refine BrA_i (fun h3 => ?_) (fun h3 => ?_) <;> simp -implicitDefEqProofs only [go_sem, h1, h2, h3]
      · have hl : x.groups.length = y.groups.length := by have := of_decide_eq_true h3; omega
        refine LoopW.slotsM [false, false, true, true, false, true, false, false, false, false, false, false, false, false, false, false, false, false, false, false, false, false, false, false, false, false, false, false, false, false, false, false, false, false, false, false, false, false, false, false, false, false, false, false, false, false, false, false, false, false, false, false, false, false, false, false, false, false, false, false, false, false, false, false, false, false, false, false, false, false, false, false, false, false, false, false, false, false, false] (α := Nat) (fun i => [(5, I i)]) (fun _ => []) (fun i => x.groups.length - i) (fun i => i ≤ x.groups.length ∧ ∀ j (h : j < x.groups.length), j < i → x.groups[j] = y.groups[j]) 0 (by simp -implicitDefEqProofs only [go_sem, LeTs_undef, LeTs_same, LeTs_nil]; try simp [LeTs]) rfl (by simp) ?_
        rintro i ⟨hi, hz⟩
        simp -implicitDefEqProofs only [go_sem]
        refine BrA_i (fun h => ?_) (fun h => ?_) <;> simp -implicitDefEqProofs only [go_sem]
        · have h : i < x.groups.length := by simp at h; omega
          have h' : i < y.groups.length := by omega
          have h0i : (0 : Int) ≤ i := by omega
          have h1i : (i : Int) < x.groups.length := by omega
          have h2i : (i : Int) < y.groups.length := by omega
          have wi : IntKind.i64.wrap ((i : Int) + 1) = ((i + 1 : Nat) : Int) := by rw [wrap64 (by omega) (by omega)]; omega
          have r1 := row_getD Gr.row x.groups h
          have r2 := row_getD Gr.row y.groups h'
          simp only [Gr.row] at r1 r2
          have hsx : (x.groups[i]).waits.length < 4611686018427387904 := x4 _ (List.getElem_mem h)
          have no : ∀ (e : x.groups[i] = y.groups[i] → False), AV.t (T.bool false) = Bo (decide (x = y)) := fun e => by
            have : x ≠ y := fun e' => e (by subst e'; rfl)
            simp [this]
          refine RegD_of sch_37_6 tysOk (by kernel_rfl) ?_
          simp -implicitDefEqProofs only [go_sem, h0i, h1i, h2i, r1, r2, h, h']
          refine BrA_i (fun he => ?_) (fun he => ?_) <;> simp -implicitDefEqProofs only [go_sem, h0i, h1i, h2i, r1, r2, h, h', he]
          · refine BrA_i (fun hf => ?_) (fun hf => ?_) <;> simp -implicitDefEqProofs only [go_sem, h0i, h1i, h2i, r1, r2, h, h', he, hf]
            · refine CallW.one (s_qxWaits x.groups[i].waits y.groups[i].waits hsx) p_qxWaits (by first | (simp -implicitDefEqProofs only [go_sem]; done) | ((conv => lhs; simp -implicitDefEqProofs only [go_sem]); done) | (simp -implicitDefEqProofs only [go_sem]; rfl) | rfl) (by first | trivial | (simp [DeepR, DeepV, DeepVs, DeepC, DeepCs, T.scal]; done)) ?_
              simp -implicitDefEqProofs only [go_sem, he, hf]
              refine BrA_i (fun hg => ?_) (fun hg => ?_) <;> simp -implicitDefEqProofs only [go_sem, wi]
              · simp only [Bool.and_eq_true, decide_eq_true_eq] at he hf hg
                have he' : x.groups[i] = y.groups[i] := Gr.ext he (Idt.ext hf.1 hf.2) hg
                refine .to [609, 610, 611] (i + 1) rfl ?_ ?_ (by omega) ⟨h, fun j hj hl => ?_⟩ <;> (try simp -implicitDefEqProofs only [go_sem, LeTs_undef, LeTs_same, LeTs_nil])
                rcases Nat.lt_succ_iff_lt_or_eq.1 hl with hl | rfl
                · exact hz j hj hl
                · exact he'
              · exact no fun e => by rw [e] at hg; simp at hg
            · exact no fun e => by rw [e] at hf; simp at hf
          · exact no fun e => by rw [e] at he; simp at he
        · have e3 : x.groups = y.groups := List.ext_getElem hl fun j h1 h2 => hz j h1 (by simp at h; omega)
          simp only [Bool.and_eq_true, decide_eq_true_eq] at h1 h2
          have : x = y := Stm.ext (Idt.ext h1.1 h1.2) h2 e3
          simp [this]
      · have : x ≠ y := fun e => by subst e; simp at h3
        simp [this]
    · have : x ≠ y := fun e => by subst e; simp at h2
      simp [this]
  · have : x ≠ y := fun e => by subst e; simp at h1
    simp [this]
end Go.Proofs.Ytofiljboaegekaa.Am
namespace Go.Proofs.Ytofiljboaegekaa.Am
open Go Go.ChangeShapes Go.WideShapes Go.RowKit
def RdRow (w : World) (ts : List T) (cs : List Value) : Prop := ts.length = cs.length ∧ ∀ (j : Nat) (t : T) (v : Value), ts[j]? = some t → cs[j]? = some v → Rd w (fun b => b < w.heap.size) t v
structure Opn (P : Program) (t : TypeId) (sz : Nat) {α : Type} (row : α → List T) (G : α → Prop) : Prop where
  len : ∀ x, (row x).length = sz
  op : ∀ {H : Type} {enc : TypeId × Value → H} {W : World} {fuel : Nat} {cs : List Value} {D : DataW H} {ps : List MemPlace},
    DataW.trod enc P W 0 (fun _ => true) true fuel t cs = some (D, ps) → (∀ n ∈ DataW.weights P t D, n ≤ reachBytes) → ∃ x, RdRow W (row x) cs ∧ G x
theorem RdRow.one {w : World} {t : T} {v : Value} (h : Rd w (fun b => b < w.heap.size) t v) : RdRow w [t] [v] :=
  ⟨rfl, fun j t' v' h1 h2 => by
    cases j with
    | zero => simp at h1 h2; subst h1 h2; exact h
    | succ j => simp at h1⟩
theorem RdRow.append {w : World} {a b : List T} {c d : List Value} (h : RdRow w a c) (h' : RdRow w b d) : RdRow w (a ++ b) (c ++ d) :=
  ⟨by simp [h.1, h'.1], fun j t v h1 h2 => by
    rw [List.getElem?_append] at h1 h2
    have := h.1
    split at h1
    · rename_i hj
      rw [if_pos (by omega)] at h2
      exact h.2 j t v h1 h2
    · rename_i hj
      rw [if_neg (by omega)] at h2
      rw [this] at h1
      exact h'.2 _ t v h1 h2⟩
section
variable {P : Program} {t : TypeId}
theorem Opn.int {k : IntKind} (hu : P.underlying t = some (.int k)) : Opn P t 1 (fun x : Int => [T.int k x]) (fun x => (Lit.int k x).wf = true) where
  len := fun _ => rfl
  op := fun h _ => by
    obtain ⟨m, rfl, _, hw⟩ := DataW.trod_int hu h
    exact ⟨m, .one (.int _ _), hw⟩
theorem Opn.bool (hu : P.underlying t = some .bool) : Opn P t 1 (fun x : Bool => [T.bool x]) (fun _ => True) where
  len := fun _ => rfl
  op := fun h _ => by
    obtain ⟨m, rfl, _⟩ := DataW.trod_bool hu h
    exact ⟨m, .one (.bool _), trivial⟩
theorem Opn.string (hu : P.underlying t = some .string) : Opn P t 1 (fun x : ByteArray => [T.str x]) (fun x => x.size ≤ 140737488351232) where
  len := fun _ => rfl
  op := fun h hz => by
    obtain ⟨m, rfl, e, _⟩ := DataW.trod_string hu h
    obtain ⟨rfl, _⟩ := Prod.mk.inj e
    refine ⟨m, .one (.str _), ?_⟩
    have := hz m.data.toList.length (by simp [DataW.weights])
    simpa [reachBytes] using this
theorem Opn.slice {e : TypeId} {sz : Nat} {α : Type} {row : α → List T} {G : α → Prop} (he : Opn P e sz row G) (hu : P.underlying t = some (.slice e)) (hc : P.cellsOf e = sz) (hs : 0 < sz) {B : Nat} (hB : P.bytesOf e = B) :
    Opn P t 1 (fun xs : List α => [T.list false sz (xs.map row)]) (fun xs => xs.length * B ≤ 140737488351232 ∧ ∀ x ∈ xs, G x) where
  len := fun _ => rfl
  op := fun {H enc W fuel cs D ps} h hz => by
    rcases DataW.trod_slice hu h with ⟨rfl, _⟩ | ⟨a, len, cap, elems, rest, n, _, rfl, hx, hb, hl, hm, hlen, hel, hsp, _⟩
    · exact ⟨[], .one (.nil ..), by simp, by simp⟩
    · obtain ⟨rfl, _⟩ := Prod.mk.inj hx
      have hw0 := hz ((elems.map (·.1)).length + (rest.map (·.1)).length |>.mul (P.bytesOf e)) (by simp [DataW.weights, hu])
      have each : ∀ i, i < len → ∃ x c, RdRow W (row x) c ∧ G x ∧ c.length = sz ∧ ∀ j u, c[j]? = some u → W.cell? (a.add (i * sz + j)) = some u := by
        intro i hi
        have h1 := hel i hi
        have hil : i < elems.length := by omega
        rw [List.getElem?_eq_getElem hil] at h1
        rw [Option.bind_eq_some_iff] at h1
        obtain ⟨c, hcs, hy⟩ := h1
        have hD : ∀ m ∈ DataW.weights P e (elems[i]).1, m ≤ reachBytes := by
          intro m hmem
          refine hz m ?_
          simp only [DataW.weights, hu]
          refine List.mem_cons_of_mem _ (List.mem_append_left _ ?_)
          have : ∀ (l : List (DataW H)) (y : DataW H), y ∈ l → m ∈ DataW.weights P e y → m ∈ DataW.weightsAll P e l := by
            intro l
            induction l with
            | nil => intro y hy; cases hy
            | cons z l ih =>
              intro y hy hm2
              simp only [DataW.weightsAll, List.mem_append]
              rcases List.mem_cons.1 hy with rfl | hy
              · exact Or.inl hm2
              · exact Or.inr (ih y hy hm2)
          exact this _ _ (List.mem_map.2 ⟨elems[i], List.getElem_mem hil, rfl⟩) hmem
        obtain ⟨x, hK, hG⟩ := he.op (show DataW.trod enc P W 0 (fun _ => true) true n e c = some ((elems[i]).1, (elems[i]).2) from hy) hD
        obtain ⟨hb1, hb2, hb3⟩ := World.cells?_some hcs
        have hlen2 : c.length = sz := by rw [← hK.1, he.len]
        refine ⟨x, c, hK, hG, hlen2, fun j u hu2 => ?_⟩
        have hj := (List.getElem?_eq_some_iff.1 hu2).1
        have h3 := hb3 j (by rw [hc]; omega)
        rw [hu2] at h3
        rw [← h3, hc, Addr.add_add]
      have pick : ∀ l, l ≤ len → ∃ xs : List α, xs.length = l ∧ (∀ x ∈ xs, G x) ∧ ∀ j p, xs[j]? = some p → ∃ c, c.length = sz ∧ RdRow W (row p) c ∧ ∀ i u, c[i]? = some u → W.cell? (a.add (j * sz + i)) = some u := by
        intro l
        induction l with
        | zero => exact fun _ => ⟨[], rfl, by simp, fun j p h => by simp at h⟩
        | succ l ih =>
          intro hll
          obtain ⟨xs, h1, h2, h3⟩ := ih (by omega)
          obtain ⟨x, c, q1, q2, q3, q4⟩ := each l (by omega)
          refine ⟨xs ++ [x], by simp [h1], ?_, ?_⟩
          · intro y hy
            rcases List.mem_append.1 hy with hy | hy
            · exact h2 y hy
            · obtain rfl := List.mem_singleton.1 hy
              exact q2
          · intro j p hj
            by_cases hjl : j < xs.length
            · exact h3 j p (by rwa [List.getElem?_append_left hjl] at hj)
            · rw [List.getElem?_append_right (by omega)] at hj
              have : j - xs.length = 0 := by
                have := (List.getElem?_eq_some_iff.1 hj).1
                simpa using this
              rw [this] at hj
              have hjl2 : j = l := by omega
              subst hjl2
              obtain rfl : x = p := by simpa using hj
              exact ⟨c, q3, q1, q4⟩
      obtain ⟨xs, h1, h2, h3⟩ := pick len (Nat.le_refl _)
      subst h1
      refine ⟨xs, .one ?_, ?_, h2⟩
      · obtain ⟨ab, ao, asp⟩ := a
        have at0 : ∀ (j : Nat) (p : α), xs[j]? = some p → ∀ i, i < sz → ∃ u, W.cell? ⟨ab, ao + (j * sz + i), none⟩ = some u ∧ ∀ x, (row p)[i]? = some x → Rd W (fun b => b < W.heap.size) x u := by
          intro j p hj i hi
          obtain ⟨c, c1, c2, c3⟩ := h3 j p hj
          obtain ⟨u, hu2⟩ : ∃ u, c[i]? = some u := ⟨c[i]'(by omega), List.getElem?_eq_getElem _⟩
          have h4 := c3 i u hu2
          refine ⟨u, ?_, fun x hx => c2.2 i x u hx hu2⟩
          by_cases h0 : j * sz + i = 0
          · rw [h0] at h4 ⊢
            have : asp = none := by
              unfold World.cell? at h4
              simp only [Addr.add] at h4
              cases asp with
              | none => rfl
              | some q => simp at h4; split at h4 <;> simp at h4
            subst this
            exact h4
          · unfold Addr.add at h4
            rw [if_neg h0] at h4
            exact h4
        cases xs with
        | nil => exact .nil ..
        | cons x0 xs0 =>
          obtain ⟨u0, hu0, _⟩ := at0 0 x0 rfl 0 hs
          have hab : ab < W.heap.size := by
            unfold World.cell? at hu0
            simp only at hu0
            split at hu0
            · rename_i hh
              exact (Array.getElem?_eq_some_iff.1 hh).1
            · cases hu0
          have e1 : asp = none := by
            obtain ⟨c, c1, c2, c3⟩ := h3 0 x0 rfl
            have h4 := c3 0 (c[0]'(by omega)) (List.getElem?_eq_getElem _)
            simp only [Nat.zero_mul, Nat.add_zero, Addr.add, if_pos] at h4
            unfold World.cell? at h4
            cases asp with
            | none => rfl
            | some q => simp at h4; split at h4 <;> simp at h4
          subst e1
          have hrow : ∀ (i : Nat) (r : List T), ((x0 :: xs0).map row)[i]? = some r → ∃ p, (x0 :: xs0)[i]? = some p ∧ r = row p := by
            intro i r hr
            rw [List.getElem?_map] at hr
            cases hp : (x0 :: xs0)[i]? with
            | none => rw [hp] at hr; cases hr
            | some p => rw [hp] at hr; cases hr; exact ⟨p, rfl, rfl⟩
          have hfin := @Rd.list W (fun b => b < W.heap.size) false sz ((x0 :: xs0).map row) ab ao cap (fun i j => (W.cell? ⟨ab, ao + (i * sz + j), none⟩).getD Go.undef) (by simpa using hl) hab
            (fun i r hr => by obtain ⟨p, _, rfl⟩ := hrow i r hr; exact he.len p)
            (fun i r j x hr hx => by
              obtain ⟨p, hp, rfl⟩ := hrow i r hr
              obtain ⟨u, hu1, _⟩ := at0 i p hp j (by have := (List.getElem?_eq_some_iff.1 hx).1; rw [he.len] at this; exact this)
              simp only [hu1, Option.getD_some])
            (fun i r j x hr hx => by
              obtain ⟨p, hp, rfl⟩ := hrow i r hr
              obtain ⟨u, hu1, hu2⟩ := at0 i p hp j (by have := (List.getElem?_eq_some_iff.1 hx).1; rw [he.len] at this; exact this)
              simp only [hu1, Option.getD_some]
              exact hu2 x hx)
          rwa [List.length_map] at hfin
      have hw1 : (elems.length + rest.length) * P.bytesOf e ≤ reachBytes := by simpa using hw0
      rw [hB] at hw1
      rw [← hlen]
      exact Nat.le_trans (Nat.mul_le_mul_right _ (Nat.le_add_right _ _)) hw1
structure OpnF (P : Program) (fs : List Field) (o sz : Nat) {α : Type} (row : α → List T) (G : α → Prop) : Prop where
  len : ∀ x, (row x).length = sz
  op : ∀ {H : Type} {enc : TypeId × Value → H} {W : World} {fuel : Nat} {cs : List Value} {xs : List (DataW H × List MemPlace)},
    xs.length = fs.length → (∀ (i : Nat) (f : Field), fs[i]? = some f → DataW.trod enc P W 0 (fun _ => true) true fuel f.type ((cs.drop f.offset).take (P.cellsOf f.type)) = xs[i]?) →
    (∀ n ∈ DataW.weightsEach P (fs.map (·.type)) (xs.map (·.1)), n ≤ reachBytes) → cs.length = o + sz → ∃ x, RdRow W (row x) (cs.drop o) ∧ G x
theorem OpnF.one {f : Field} {o sz : Nat} {α : Type} {row : α → List T} {G : α → Prop} (he : Opn P f.type sz row G) (ho : f.offset = o) (hc : P.cellsOf f.type = sz) : OpnF P [f] o sz row G where
  len := he.len
  op := fun {H enc W fuel cs xs} hx h hz hl => by
    match xs, hx with
    | [y], _ =>
      have hy := h 0 f rfl
      rw [ho, hc, List.take_of_length_le (by simp; omega)] at hy
      exact he.op (show _ = some (y.1, y.2) from hy) (fun n hn => hz n (by simp only [List.map_cons, List.map_nil, DataW.weightsEach]; exact List.mem_append_left _ hn))
theorem OpnF.cons {f : Field} {r : List Field} {o sz sz2 : Nat} {α β : Type} {row : α → List T} {row2 : β → List T} {G : α → Prop} {G2 : β → Prop} (he : Opn P f.type sz row G) (ho : f.offset = o) (hc : P.cellsOf f.type = sz) (hr : OpnF P r (o + sz) sz2 row2 G2) :
    OpnF P (f :: r) o (sz + sz2) (fun x : α × β => row x.1 ++ row2 x.2) (fun x => G x.1 ∧ G2 x.2) where
  len := fun x => by rw [List.length_append, he.len, hr.len]
  op := fun {H enc W fuel cs xs} hx h hz hl => by
    match xs, hx with
    | y :: ys, hx =>
      have hl2 : cs.length = o + sz + sz2 := by omega
      have hy := h 0 f rfl
      rw [ho, hc] at hy
      obtain ⟨x, hK, hG⟩ := he.op (show _ = some (y.1, y.2) from hy) (fun n hn => hz n (by simp only [List.map_cons, DataW.weightsEach]; exact List.mem_append_left _ hn))
      obtain ⟨x2, hK2, hG2⟩ := hr.op (xs := ys) (by simpa using hx) (fun i g hg => h (i + 1) g hg) (fun n hn => hz n (by simp only [List.map_cons, DataW.weightsEach]; exact List.mem_append_right _ hn)) hl2
      refine ⟨(x, x2), ?_, hG, hG2⟩
      have := hK.append hK2
      rwa [← List.drop_drop, List.take_append_drop] at this
theorem Opn.struct {fs : Array Field} {sz : Nat} {α β : Type} {row : α → List T} {row2 : β → List T} {G : α → Prop} {G2 : β → Prop} (g : α → β) (hf : OpnF P fs.toList 0 sz row G) (hu : P.underlying t = some (.struct fs)) (hg : ∀ a, row2 (g a) = row a) (hG2 : ∀ a, G a → G2 (g a)) (hlen : ∀ b, (row2 b).length = sz) (hc : P.cellsOf t = sz) :
    Opn P t sz row2 G2 where
  len := hlen
  op := fun {H enc W fuel cs D ps} h hz => by
    obtain ⟨xs, n, _, hx, hl, hm, he⟩ := DataW.trod_struct hu h
    obtain ⟨rfl, _⟩ := Prod.mk.inj hx
    obtain ⟨x, hK, hG⟩ := hf.op (xs := xs) (by simpa using hm) (fun i f hf => he i f (by simpa using hf)) (fun n hn => hz n (by simp only [DataW.weights, hu]; exact hn)) (by omega)
    exact ⟨g x, by rw [hg]; simpa using hK, hG2 x hG⟩
end
theorem each_of {H : Type} {P : Program} {ts : List TypeId} {ds : List (DataW H)} (h : (DataW.weightsEach P ts ds).all (· ≤ reachBytes) = true) {j : Nat} {t : TypeId} {D : DataW H} (ht : ts[j]? = some t) (hd : ds[j]? = some D) : ∀ n ∈ DataW.weights P t D, n ≤ reachBytes := by
  intro n hn
  have := List.all_eq_true.1 h _ (DataW.weights_mem_each ht hd n hn)
  simpa using this
theorem arg_one {W : World} {t : T} {v : Value} (hv : v.cells.toList = [v]) (h : RdRow W [t] v.cells.toList) : AVr (inCx W fun b => b < W.heap.size) (.t t) v := by
  rw [hv] at h
  exact h.2 0 t v rfl rfl
theorem out_bool {w w' : World} {D : Dm} {b : Bool} {v : Value} (h : Out w D w' (.t (.bool b)) v) : v = .bool b ∧ Below w.heap.size w w' := by
  obtain ⟨h1, col, _, h2⟩ := h
  refine ⟨?_, h1.os, h1.tape, h1.output, h1.size, fun k hk => h1.block k hk (by simp)⟩
  have h3 : Rd (outCx w D w' col).w (outCx w D w' col).Dp (.bool b) v := h2
  cases h3
  rfl
end Go.Proofs.Ytofiljboaegekaa.Am
namespace Go.Proofs.Ytofiljboaegekaa.Am
open Go
set_option linter.unusedVariables false
set_option linter.unusedSimpArgs false
set_option maxRecDepth 100000
theorem lG_mk {α : Type} {G : α → Prop} {B : Nat} {xs : List α} (hB : 1 ≤ B) (h : xs.length * B ≤ 140737488351232 ∧ ∀ x ∈ xs, G x) : lG G xs :=
  ⟨Nat.le_trans (Nat.le_mul_of_pos_right _ hB) h.1, h.2⟩
def Stm.row (x : Stm) : List T := [.int .i64 x.last.t, .int .i64 x.last.n, .list false 3 (x.items.map It.row), .list false 4 (x.groups.map Gr.row)]
theorem Opn.weaken {P : Program} {t : TypeId} {sz : Nat} {α : Type} {row : α → List T} {G G' : α → Prop} (h : Opn P t sz row G) (hg : ∀ x, G x → G' x) : Opn P t sz row G' :=
  ⟨h.len, fun h1 h2 => by obtain ⟨x, a, b⟩ := h.op h1 h2; exact ⟨x, a, hg x b⟩⟩
end Go.Proofs.Ytofiljboaegekaa.Am
namespace Go.Proofs.Ytofiljboaegekaa.Am
open Go
set_option linter.unusedVariables false
set_option linter.unusedSimpArgs false
set_option maxRecDepth 100000
def isB (x : Int) : Prop := 0 ≤ x ∧ x ≤ 255
theorem opn_byte : Opn Try.prog 5 1 (fun x : Int => [T.int .u8 x]) isB :=
  (Opn.int Try.underlying5).weaken fun x h => by
    simp [Lit.wf, IntKind.min, IntKind.max, IntKind.signed, IntKind.bits] at h
    unfold isB; omega
theorem opn_bytes : Opn Try.prog 50 1 (fun xs : List Int => [T.list false 1 (xs.map fun b => [T.int .u8 b])]) (lG isB) :=
  (Opn.slice opn_byte Try.underlying50 (by kernel_rfl) (by omega) (B := 1) (by kernel_rfl)).weaken fun _ => lG_mk (by omega)
end Go.Proofs.Ytofiljboaegekaa.Am
namespace Go.Proofs.Ytofiljboaegekaa.Am
open Go
set_option maxRecDepth 100000
set_option maxHeartbeats 4000000
set_option linter.unusedSimpArgs false
set_option linter.unusedVariables false
theorem waitsM_le {s : Stm} (hs : s.d2) (name who : ByteArray) : (waitsM s name who).length ≤ 50 := by
  unfold waitsM
  split
  · split
    · exact Nat.zero_le _
    · rename_i i hi
      have hn := gIx_lt hi
      have e : s.groups.getD i ⟨.empty, ⟨0, 0⟩, []⟩ = s.groups[i] := by rw [List.getD_eq_getElem?_getD, List.getElem?_eq_getElem hn]; rfl
      rw [e]
      exact Nat.le_trans (List.length_filter_le _ _) (hs.2.2.2 _ (List.getElem_mem hn))
  · exact Nat.zero_le _
end Go.Proofs.Ytofiljboaegekaa.Am
namespace Go.Proofs.Ytofiljboaegekaa.Am
open Go
set_option linter.unusedSimpArgs false
set_option linter.unusedVariables false
abbrev wOf (who : ByteArray) (now : Int) (x : It) : Wt := ⟨x.id, who, now, 1⟩
structure RInv (s : Stm) (g : Gr) (who : ByteArray) (now count : Int) (a : Rdg) : Prop where
  w : a.waits = g.waits ++ a.items.map (wOf who now)
  ok : allAt (wtGood a.last) wtLink a.waits = true
  id : idM a.last = true
  le0 : ltM s.last a.last = false
  len : a.waits.length ≤ 16
  up : allAt (fun _ => true) itLink a.items = true
  le : ∀ x ∈ a.items, ltM a.last x.id = false
  gt : ∀ x ∈ a.items, ltM g.last x.id = true
  gl : ltM a.last g.last = false
  n : (a.items.length : Int) ≤ max count 0
theorem itGood_of {s : Stm} (hok : streamOkM s = true) {x : It} (hx : x ∈ s.items) : idM x.id = true ∧ ltM s.last x.id = false := by
  unfold streamOkM at hok
  simp only [Bool.and_eq_true, decide_eq_true_eq] at hok
  have := allAt_all hok.1.2 x hx
  simp only [itGood, Bool.and_eq_true, Bool.not_eq_true'] at this
  exact this.1
theorem RInv.step {s : Stm} {g : Gr} {who : ByteArray} {now count : Int} {a : Rdg} (hok : streamOkM s = true) (hk : keyOkM who = true) (hn : withinM now 0 1000000 = true) (h : RInv s g who now count a) {x : It} (hx : x ∈ s.items) : RInv s g who now count (gstep who now count a x) := by
  unfold gstep
  split
  · rename_i hc
    obtain ⟨c1, c2, c3⟩ := hc
    obtain ⟨i1, i2⟩ := itGood_of hok hx
    have hw : ∀ y ∈ a.waits, ltM a.last y.id = false := fun y hy => by
      have := allAt_all h.ok y hy
      simp only [wtGood, Bool.and_eq_true, Bool.not_eq_true'] at this
      exact this.1.1.1.2
    refine ⟨by simp only [h.w, List.map_append, List.append_assoc, List.map_cons, List.map_nil], ?_, i1, i2, by simp only [List.length_append, List.length_cons, List.length_nil]; omega, ?_, fun y hy => ?_, fun y hy => ?_, ltM_up c3 h.gl, ?_⟩
    · refine allAt_snoc (allAt_mono h.ok fun y hy hg => ?_) ?_ (fun y hy => ltM_le (hw y hy) c3)
      · simp only [wtGood, Bool.and_eq_true, Bool.not_eq_true'] at hg ⊢
        exact ⟨⟨⟨⟨hg.1.1.1.1, ltM_up c3 hg.1.1.1.2⟩, hg.1.1.2⟩, hg.1.2⟩, hg.2⟩
      · simp only [wtGood, Bool.and_eq_true, Bool.not_eq_true']
        exact ⟨⟨⟨⟨i1, ltM_irrefl _⟩, hk⟩, hn⟩, by decide⟩
    · exact allAt_snoc h.up rfl (fun y hy => ltM_le (h.le y hy) c3)
    · rcases List.mem_append.1 hy with hy | hy
      · exact ltM_up c3 (h.le y hy)
      · simp only [List.mem_singleton] at hy; subst hy; exact ltM_irrefl _
    · rcases List.mem_append.1 hy with hy | hy
      · exact h.gt y hy
      · simp only [List.mem_singleton] at hy; subst hy; exact ltM_le h.gl c3
    · simp only [List.length_append, List.length_cons, List.length_nil]; omega
  · exact h
theorem RInv.fold {s : Stm} {g : Gr} {who : ByteArray} {now count : Int} (hok : streamOkM s = true) (hk : keyOkM who = true) (hn : withinM now 0 1000000 = true) : ∀ (l : List It) (a : Rdg), (∀ x ∈ l, x ∈ s.items) → RInv s g who now count a → RInv s g who now count (l.foldl (gstep who now count) a)
  | [], _, _, h => h
  | x :: l, a, hl, h => RInv.fold hok hk hn l _ (fun y hy => hl y (List.mem_cons_of_mem _ hy)) (h.step hok hk hn (hl x (by simp)))
theorem RInv.start {s : Stm} (hok : streamOkM s = true) {g : Gr} (hg : grGood s.last g = true) (who : ByteArray) (now count : Int) : RInv s g who now count ⟨g.last, g.waits, []⟩ := by
  simp only [grGood, grOkM, Bool.and_eq_true, decide_eq_true_eq, Bool.not_eq_true'] at hg
  obtain ⟨⟨⟨⟨a1, a2⟩, a3⟩, a4⟩, a5⟩ := hg
  exact ⟨by simp, a4, a2, a5, a3, rfl, (fun x hx => by cases hx), (fun x hx => by cases hx), ltM_irrefl _, by simp; omega⟩
theorem up_get {l : List It} (h : allAt (fun _ => true) itLink l = true) (i : Nat) (hi : i + 1 < l.length) : ltM l[i].id l[i + 1].id = true := by
  have h2 := (allAt_iff _ _ _).1 h (i + 1) hi
  rw [goodAt_s _ _ _ hi (by omega)] at h2
  simpa [itLink] using h2
def ReadF (s : Stm) (name who oth : ByteArray) (now count k : Int) (r : Stm × List It) : Prop :=
  streamOkM r.1 = true ∧ r.1.items = s.items ∧ (waitsM r.1 name ⟨#[]⟩).length = (waitsM s name ⟨#[]⟩).length + r.2.length ∧
    (∀ x ∈ r.2, wOf who now x ∈ waitsM r.1 name ⟨#[]⟩) ∧ (∀ i (h : i + 1 < r.2.length), ltM (r.2[i]'(by omega)).id r.2[i + 1].id = true) ∧
    (∀ y ∈ (readM r.1 name oth now k).2, ∀ x ∈ r.2, y.id ≠ x.id) ∧ (1 ≤ count → (r.2.length : Int) ≤ count)
theorem readM_facts {s : Stm} (hok : streamOkM s = true) (name who oth : ByteArray) (now count k : Int) (ho : keyOkM oth = true) : ReadF s name who oth now count k (readM s name who now count) := by
  have triv : readM s name who now count = (s, []) → ReadF s name who oth now count k (readM s name who now count) := fun e => by
    rw [e]
    exact ⟨hok, rfl, by simp, (fun x hx => by cases hx), (fun i h => by simp at h), (fun y _ x hx => by cases hx), (fun h => by simp; omega)⟩
  cases hg : gIx s.groups name with
  | none => exact triv (readM_none hok hg)
  | some i =>
    by_cases hc : keyOkM who = true ∧ withinM now 0 1000000 = true
    · have e := readM_some (count := count) hok hg hc
      have hn := gIx_lt hg
      have hgood := gAt_good hok hn
      have hinv := RInv.fold hok hc.1 hc.2 s.items _ (fun _ h => h) (RInv.start hok hgood who now count)
      generalize s.items.foldl (gstep who now count) ⟨(gAt s i).last, (gAt s i).waits, []⟩ = a at e hinv
      have hgood2 : grGood s.last ⟨(gAt s i).name, a.last, a.waits⟩ = true := by
        simp only [grGood, grOkM, Bool.and_eq_true, decide_eq_true_eq, Bool.not_eq_true'] at hgood ⊢
        exact ⟨⟨⟨⟨hgood.1.1.1.1, hinv.id⟩, hinv.len⟩, hinv.ok⟩, hinv.le0⟩
      have hok2 := putW_ok hok hn ⟨(gAt s i).name, a.last, a.waits⟩ (by rw [gAt_eq hn]) hgood2
      have hg2 : gIx (putW s i ⟨(gAt s i).name, a.last, a.waits⟩).groups name = some i := by
        rw [← hg]; exact gIx_names (names_set hn _ (by rw [gAt_eq hn])) name
      have hat := putW_at hn ⟨(gAt s i).name, a.last, a.waits⟩
      have ew := waitsM_all hok2 hg2
      rw [hat] at ew
      simp only at ew
      have ew0 := waitsM_all hok hg
      have e2 := readM_some (who := oth) (now := now) (count := k) hok2 hg2 ⟨ho, hc.2⟩
      have hgood3 := hgood2
      have hinv2 := RInv.fold hok2 ho hc.2 s.items _ (fun _ h => h) (RInv.start (s := putW s i ⟨(gAt s i).name, a.last, a.waits⟩) hok2 (g := ⟨(gAt s i).name, a.last, a.waits⟩) hgood2 oth now k)
      rw [hat] at e2
      have hit : (putW s i ⟨(gAt s i).name, a.last, a.waits⟩).items = s.items := rfl
      rw [hit] at e2
      simp only at hinv2 e2
      generalize s.items.foldl (gstep oth now k) ⟨a.last, a.waits, []⟩ = b at e2 hinv2
      rw [e]
      unfold ReadF
      simp only [ew, ew0, e2]
      refine ⟨hok2, rfl, by rw [hinv.w]; simp, fun x hx => ?_, fun j hj => up_get hinv.up j hj, fun y hy x hx e => ?_, fun h => by have := hinv.n; omega⟩
      · rw [hinv.w]
        exact List.mem_append_right _ (List.mem_map.2 ⟨x, hx, rfl⟩)
      · have h1 := hinv2.gt y hy
        have h2 := hinv.le x hx
        simp only at h1
        rw [e, h2] at h1
        cases h1
    · exact triv (readM_not hok hc)
end Go.Proofs.Ytofiljboaegekaa.Am
namespace Go.Proofs.Ytofiljboaegekaa.Am
open Go
set_option maxRecDepth 100000
set_option maxHeartbeats 4000000
set_option linter.unusedSimpArgs false
set_option linter.unusedVariables false
theorem readM_len30 {s : Stm} (hs : s.d2) (name who : ByteArray) (now count : Int) : (readM s name who now count).2.length ≤ 30 ∧ ∀ x ∈ (readM s name who now count).2, x.sm := by
  unfold readM
  split
  · split
    · exact ⟨by simp, fun x hx => by cases hx⟩
    · split
      · refine ⟨?_, fun x hx => ?_⟩
        · have := (gstep_len who now count s.items ⟨(gAt s ‹_›).last, (gAt s ‹_›).waits, []⟩).1
          have := hs.1
          simp only [List.length_nil, Nat.zero_add] at *
          omega
        · rcases gstep_mem who now count s.items _ x hx with h | h
          · cases h
          · have := hs.2.2.1 x h; unfold It.sm; omega
      · exact ⟨by simp, fun x hx => by cases hx⟩
  · exact ⟨by simp, fun x hx => by cases hx⟩
theorem any_take {α : Type} (p : α → Bool) (l : List α) {i : Nat} (h : i < l.length) : (l.take (i + 1)).any p = ((l.take i).any p || p l[i]) := by
  rw [List.take_succ_eq_append_getElem h, List.any_append]; simp
def isOf (who : ByteArray) (now : Int) (x : It) (w : Wt) : Bool := decide (w.id.t = x.id.t) && decide (w.id.n = x.id.n) && decide (w.who = who) && decide (w.at' = now) && decide (w.tm = 1)
theorem isOf_any {W : List Wt} {who : ByteArray} {now : Int} {x : It} (h : wOf who now x ∈ W) : W.any (isOf who now x) = true := List.any_eq_true.2 ⟨_, h, by simp [isOf]⟩
theorem s_FnGroupRead (bs : List Int) (hb : lG isB bs) : Spec Try.prog 9 [by8 bs] (fun r => r = Bo true) := by
  refine Spec.of tysOk mixed Try.func9 rfl (by decide) ?_
  simp -implicitDefEqProofs only [go_sem, Try.f9]
  refine BrA_i (fun h1 => ?_) (fun h1 => ?_) <;> simp -implicitDefEqProofs only [go_sem]
  have h1 : bs.length ≤ 1048576 := by have := of_decide_eq_false h1; omega
  refine CallW.ps (s_DrawGroupRead bs hb.2 h1) p_DrawGroupRead (by first | (simp -implicitDefEqProofs only [go_sem]; done) | ((conv => lhs; simp -implicitDefEqProofs only [go_sem]); done) | (simp -implicitDefEqProofs only [go_sem]; rfl) | rfl) rfl ?_
  rintro r ⟨s, name, who, now, count, e, hs, n0, n1, n2, n3⟩
  rw [e]
  clear e r
  simp -implicitDefEqProofs only [go_sem]
  have hsm : s.sm := hs.md.sm.1
  have hd := readM_dd s name who now count
  obtain ⟨hl, hls⟩ := readM_len30 hs name who now count
  refine CallW.ps (s_GroupRead s name who now count hs.md hs.hw) p_GroupRead (by first | (simp -implicitDefEqProofs only [go_sem]; done) | ((conv => lhs; simp -implicitDefEqProofs only [go_sem]); done) | (simp -implicitDefEqProofs only [go_sem]; rfl) | rfl) rfl ?_
  rintro _ rfl
  simp -implicitDefEqProofs only [go_sem]
  refine CallW.ps (s_sGroupRead s name who now count hs.md hs.hw) p_sGroupRead (by first | (simp -implicitDefEqProofs only [go_sem]; done) | ((conv => lhs; simp -implicitDefEqProofs only [go_sem]); done) | (simp -implicitDefEqProofs only [go_sem]; rfl) | rfl) rfl ?_
  rintro _ rfl
  simp -implicitDefEqProofs only [go_sem]
  refine CallW.one (s_qxItems (readM s name who now count).2 (readM s name who now count).2 (by omega) hls) p_qxItems (by first | (simp -implicitDefEqProofs only [go_sem]; done) | ((conv => lhs; simp -implicitDefEqProofs only [go_sem]); done) | (simp -implicitDefEqProofs only [go_sem]; rfl) | rfl) (by first | trivial | (simp [DeepR, DeepV, DeepVs, DeepC, DeepCs, T.scal]; done)) ?_
  simp -implicitDefEqProofs only [go_sem, eq_self, decide_true, Bool.not_true]
  refine CallW.one (s_qxStream (readM s name who now count).1 (readM s name who now count).1 hd.md.sm.1) p_qxStream (by first | (simp -implicitDefEqProofs only [go_sem]; done) | ((conv => lhs; simp -implicitDefEqProofs only [go_sem]); done) | (simp -implicitDefEqProofs only [go_sem]; rfl) | rfl) (by first | trivial | (simp [DeepR, DeepV, DeepVs, DeepC, DeepCs, T.scal]; done)) ?_
  simp -implicitDefEqProofs only [go_sem, eq_self, decide_true, Bool.not_true]
  refine CallW.one (s_sStreamOk s hsm hs.hw) p_sStreamOk (by first | (simp -implicitDefEqProofs only [go_sem]; done) | ((conv => lhs; simp -implicitDefEqProofs only [go_sem]); done) | (simp -implicitDefEqProofs only [go_sem]; rfl) | rfl) (by first | trivial | (simp [DeepR, DeepV, DeepVs, DeepC, DeepCs, T.scal]; done)) ?_
  cases hok : streamOkM s
  · simp -implicitDefEqProofs only [go_sem, Bool.not_false, eq_self, decide_true]
    refine CallW.one (s_qxItems (readM s name who now count).2 (readM s name who now count).2 (by omega) hls) p_qxItems (by first | (simp -implicitDefEqProofs only [go_sem]; done) | ((conv => lhs; simp -implicitDefEqProofs only [go_sem]); done) | (simp -implicitDefEqProofs only [go_sem]; rfl) | rfl) (by first | trivial | (simp [DeepR, DeepV, DeepVs, DeepC, DeepCs, T.scal]; done)) ?_
    simp -implicitDefEqProofs only [go_sem, eq_self, decide_true, Bool.not_true]
    refine CallW.one (s_qxStream (readM s name who now count).1 (readM s name who now count).1 hd.md.sm.1) p_qxStream (by first | (simp -implicitDefEqProofs only [go_sem]; done) | ((conv => lhs; simp -implicitDefEqProofs only [go_sem]); done) | (simp -implicitDefEqProofs only [go_sem]; rfl) | rfl) (by first | trivial | (simp [DeepR, DeepV, DeepVs, DeepC, DeepCs, T.scal]; done)) ?_
    simp -implicitDefEqProofs only [go_sem, eq_self, decide_true, Bool.not_true]
  · simp -implicitDefEqProofs only [go_sem, Bool.not_true]
    obtain ⟨f1, f2, f3, f4, f5, f6, f7⟩ := readM_facts hok name who ⟨#[111, 116, 104, 101, 114]⟩ now count 100 (by decide)
    obtain ⟨X, hX⟩ : ∃ X, X = (readM s name who now count).1 := ⟨_, rfl⟩
    obtain ⟨L, hL⟩ : ∃ L, L = (readM s name who now count).2 := ⟨_, rfl⟩
    rw [← hX] at f1 f2 f3 f4 f6 hd
    rw [← hL] at f3 f4 f6 f7 hl hls
    simp only [← hL] at f5
    rw [← hX, ← hL]
    refine CallW.ps (s_GroupWaits X name ⟨#[]⟩ hd.md hd.hw) p_GroupWaits (by first | (simp -implicitDefEqProofs only [go_sem]; done) | ((conv => lhs; simp -implicitDefEqProofs only [go_sem]); done) | (simp -implicitDefEqProofs only [go_sem]; rfl) | rfl) rfl ?_
    rintro _ rfl
    have hwl := waitsM_le hd.d2 name ⟨#[]⟩
    have hwl2 := waitsM_le hs name ⟨#[]⟩
    obtain ⟨W, hW⟩ : ∃ W, W = waitsM X name ⟨#[]⟩ := ⟨_, rfl⟩
    rw [← hW] at f3 f4 hwl
    rw [← hW]
    simp -implicitDefEqProofs only [go_sem]
    refine LoopW.slotsM [false, false, false, true, true, true, true, true, true, true, false, false, true, true, false, false, false, false, false, false, false, false, false, false, false, false, false, false, false, false, false, false, false, false, false, false, false, false, false, false, false, false, false, false, false, false, false, false, false, false, false, false, false, false, false, false, false, false, false, false, false, false, false, false, false, false, false, false, false, false, false, false, false, false, false, false, false, false, false, false, false, false, false, false, false, false, false, false, false, false, false, false, false, false, false, false, false, false, false, false, false, false, false, false, false, false, false, false, false, false, false, false, false, false, false, false, false, false, false, false, false, false, false, false, false, false, false, false, false, false, false, false, false, false, false, false, false, false, false, false, false, false, false, false, false, false, false, false, false, false, false, false, false, false, false, false, false, false, false, false, false, false, false, false, false, false, false, false, false, false, false, false, false, false, false, false, false, false, false, false, false, false, false, false, false, false, false, false, false, false, false, false, false, false, false, false, false, false, false, false, false, false, false, false, false, false, false, false, false] (α := Nat) (fun i => [(13, I i)]) (fun i => []) (fun i => L.length - i) (fun i => i ≤ L.length) 0 (by simp -implicitDefEqProofs only [go_sem, LeTs_undef, LeTs_same, LeTs_nil]; try simp [LeTs]) rfl (by omega) ?_
    intro i hi
    simp -implicitDefEqProofs only [go_sem]
    refine BrA_i (fun h => ?_) (fun h => ?_) <;> simp -implicitDefEqProofs only [go_sem]
    · skip
      have h : i < L.length := by simp at h; omega
      have h0i : (0 : Int) ≤ i := by omega
      have h1i : (i : Int) < L.length := by omega
      have wi : IntKind.i64.wrap ((i : Int) + 1) = ((i + 1 : Nat) : Int) := by rw [wrap64 (by omega) (by omega)]; omega
      refine LoopW.slotsM [false, false, false, true, true, true, true, true, true, true, false, false, true, true, true, true, false, false, false, false, false, false, false, false, false, false, false, false, false, false, false, false, false, false, false, false, false, false, false, false, false, false, false, false, false, false, false, false, false, false, false, false, false, false, false, false, false, false, false, false, false, false, false, false, false, false, false, false, false, false, false, false, false, false, false, false, false, false, false, false, false, false, false, false, false, false, false, false, false, false, false, false, false, false, false, false, false, false, false, false, false, false, false, false, false, false, false, false, false, false, false, false, false, false, false, false, false, false, false, false, false, false, false, false, false, false, false, false, false, false, false, false, false, false, false, false, false, false, false, false, false, false, false, false, false, false, false, false, false, false, false, false, false, false, false, false, false, false, false, false, false, false, false, false, false, false, false, false, false, false, false, false, false, false, false, false, false, false, false, false, false, false, false, false, false, false, false, false, false, false, false, false, false, false, false, false, false, false, false, false, false, false, false, false, false, false, false, false, false] (α := Nat) (fun j => [(14, Bo ((W.take j).any (isOf who now L[i]))), (15, I j)]) (fun j => []) (fun j => W.length - j) (fun j => j ≤ W.length) 0 (by simp -implicitDefEqProofs only [go_sem, LeTs_undef, LeTs_same, LeTs_nil]; try simp [LeTs]) rfl (by omega) ?_
      intro j hj
      simp -implicitDefEqProofs only [go_sem]
      refine BrA_i (fun hk => ?_) (fun hk => ?_) <;> simp -implicitDefEqProofs only [go_sem]
      · have hk : j < W.length := by simp at hk; omega
        have h2i : (0 : Int) ≤ j := by omega
        have h3i : (j : Int) < W.length := by omega
        have wj : IntKind.i64.wrap ((j : Int) + 1) = ((j + 1 : Nat) : Int) := by rw [wrap64 (by omega) (by omega)]; omega
        have r1 := row_getD It.row L h
        have r2 := row_getD Wt.row W hk
        simp only [It.row] at r1
        simp only [Wt.row] at r2
        have at1 := any_take (isOf who now L[i]) W hk
        refine RegD_of sch_9_16 tysOk (by kernel_rfl) ?_
        simp -implicitDefEqProofs only [go_sem, h0i, h1i, h2i, h3i, r1, r2, h, hk]
        refine BrA_i (fun ha => ?_) (fun ha => ?_) <;> simp -implicitDefEqProofs only [go_sem, ha, h0i, h1i, h2i, h3i, r1, r2, h, hk, wj]
        · refine .to [] (j + 1) rfl ?_ ?_ (by omega) (by omega) <;> simp -implicitDefEqProofs only [go_sem, LeTs_undef, LeTs_same, LeTs_nil, at1, ha, Bool.true_or]
        · refine BrA_i (fun he1 => ?_) (fun he1 => ?_) <;> simp -implicitDefEqProofs only [go_sem, he1, h0i, h1i, h2i, h3i, r1, r2, h, hk, wj]
          · refine BrA_i (fun he2 => ?_) (fun he2 => ?_) <;> simp -implicitDefEqProofs only [go_sem, he2, h0i, h1i, h2i, h3i, r1, r2, h, hk, wj]
            · refine BrA_i (fun he3 => ?_) (fun he3 => ?_) <;> simp -implicitDefEqProofs only [go_sem, he3, h0i, h1i, h2i, h3i, r1, r2, h, hk, wj]
              · have ev : isOf who now L[i] W[j] = decide (W[j].tm = 1) := by simp only [isOf, he1, he2, he3, Bool.true_and]
                refine .to [] (j + 1) rfl ?_ ?_ (by omega) (by omega) <;> simp -implicitDefEqProofs only [go_sem, LeTs_undef, LeTs_same, LeTs_nil, at1, ha, Bool.false_or, ev]
              · have ev : isOf who now L[i] W[j] = false := by simp only [isOf, he1, he2, he3, Bool.true_and, Bool.false_and]
                refine .to [] (j + 1) rfl ?_ ?_ (by omega) (by omega) <;> simp -implicitDefEqProofs only [go_sem, LeTs_undef, LeTs_same, LeTs_nil, at1, ha, Bool.false_or, ev]
            · have ev : isOf who now L[i] W[j] = false := by simp only [isOf, he1, he2, Bool.true_and, Bool.false_and]
              refine .to [] (j + 1) rfl ?_ ?_ (by omega) (by omega) <;> simp -implicitDefEqProofs only [go_sem, LeTs_undef, LeTs_same, LeTs_nil, at1, ha, Bool.false_or, ev]
          · have ev : isOf who now L[i] W[j] = false := by simp only [isOf, he1, Bool.false_and]
            refine .to [] (j + 1) rfl ?_ ?_ (by omega) (by omega) <;> simp -implicitDefEqProofs only [go_sem, LeTs_undef, LeTs_same, LeTs_nil, at1, ha, Bool.false_or, ev]
      · have hj' : j = W.length := by simp at hk; omega
        subst hj'
        have hany := isOf_any (f4 _ (List.getElem_mem h))
        have hany' : (W.take W.length).any (isOf who now L[i]) = true := by rw [List.take_length]; exact hany
        have wm : 0 < i → IntKind.i64.wrap ((i : Int) - 1) = ((i - 1 : Nat) : Int) := fun h0 => by rw [wrap64 (by omega) (by omega)]; omega
        refine RegD_of sch_9_17 tysOk (by kernel_rfl) ?_
        simp -implicitDefEqProofs only [go_sem, hany', Bool.not_true]
        refine BrA_i (fun hp => ?_) (fun hp => ?_) <;> simp -implicitDefEqProofs only [go_sem, hp]
        · have hp' : 0 < i := by have := of_decide_eq_true hp; omega
          have hq : i - 1 < L.length := by omega
          have m0 : (0 : Int) ≤ ((i - 1 : Nat) : Int) := by omega
          have m1 : ((i - 1 : Nat) : Int) < L.length := by omega
          have r1 := row_getD It.row L h
          have r3 := row_getD It.row L hq
          simp only [It.row] at r1 r3
          have hup : decide (ordM (L[i - 1]'hq).id.t (L[i - 1]'hq).id.n L[i].id.t L[i].id.n < 0) = true := by
            have := f5 (i - 1) (by omega)
            have e : i - 1 + 1 = i := by omega
            simp only [e] at this
            exact this
          simp -implicitDefEqProofs only [go_sem, wm hp', m0, m1, h0i, h1i, r1, r3, h, hq]
          (repeat' (with_reducible refine And.intro ?_ ?_))
          all_goals
            refine CallW.one (s_IdLess (L[i - 1]'hq).id.t (L[i - 1]'hq).id.n L[i].id.t L[i].id.n) p_IdLess (by first | (simp -implicitDefEqProofs only [go_sem]; done) | ((conv => lhs; simp -implicitDefEqProofs only [go_sem]); done) | (simp -implicitDefEqProofs only [go_sem]; rfl) | rfl) (by first | trivial | (simp [DeepR, DeepV, DeepVs, DeepC, DeepCs, T.scal]; done)) ?_
            simp -implicitDefEqProofs only [go_sem, hup, Bool.not_true, wi]
            refine .to [1153, 1154, 1155] (i + 1) rfl ?_ ?_ (by omega) (by omega) <;> simp -implicitDefEqProofs only [go_sem, LeTs_undef, LeTs_same, LeTs_nil]
        · simp -implicitDefEqProofs only [go_sem, wi]
          refine .to [1153, 1154, 1155] (i + 1) rfl ?_ ?_ (by omega) (by omega) <;> simp -implicitDefEqProofs only [go_sem, LeTs_undef, LeTs_same, LeTs_nil]
    · refine CallW.ps (s_GroupRead X name ⟨#[111, 116, 104, 101, 114]⟩ now 100 hd.md hd.hw) p_GroupRead (by first | (simp -implicitDefEqProofs only [go_sem]; done) | ((conv => lhs; simp -implicitDefEqProofs only [go_sem]); done) | (simp -implicitDefEqProofs only [go_sem]; rfl) | rfl) rfl ?_
      rintro _ rfl
      obtain ⟨hl2, hls2⟩ := readM_len30 hd.d2 name ⟨#[111, 116, 104, 101, 114]⟩ now 100
      obtain ⟨M, hM⟩ : ∃ M, M = (readM X name ⟨#[111, 116, 104, 101, 114]⟩ now 100).2 := ⟨_, rfl⟩
      rw [← hM] at f6 hl2 hls2
      simp -implicitDefEqProofs only [go_sem, ← hM]
      clear f4 f5
      refine LoopW.slotsM [false, false, false, true, true, false, false, true, true, true, false, false, true, false, false, false, false, true, true, false, false, false, false, false, false, false, false, false, false, false, false, false, false, false, false, false, false, false, false, false, false, false, false, false, false, false, false, false, false, false, false, false, false, false, false, false, false, false, false, false, false, false, false, false, false, false, false, false, false, false, false, false, false, false, false, false, false, false, false, false, false, false, false, false, false, false, false, false, false, false, false, false, false, false, false, false, false, false, false, false, false, false, false, false, false, false, false, false, false, false, false, false, false, false, false, false, false, false, false, false, false, false, false, false, false, false, false, false, false, false, false, false, false, false, false, false, false, false, false, false, false, false, false, false, false, false, false, false, false, false, false, false, false, false, false, false, false, false, false, false, false, false, false, false, false, false, false, false, false, false, false, false, false, false, false, false, false, false, false, false, false, false, false, false, false, false, false, false, false, false, false, false, false, false, false, false, false, false, false, false, false, false, false, false, false, false, false, false, false] (α := Nat) (fun i => [(18, I i)]) (fun i => []) (fun i => M.length - i) (fun i => i ≤ M.length) 0 (by simp -implicitDefEqProofs only [go_sem, LeTs_undef, LeTs_same, LeTs_nil]; try simp [LeTs]) rfl (by omega) ?_
      intro i hi
      simp -implicitDefEqProofs only [go_sem]
      refine BrA_i (fun h => ?_) (fun h => ?_) <;> simp -implicitDefEqProofs only [go_sem]
      · skip
        have h : i < M.length := by simp at h; omega
        have h0i : (0 : Int) ≤ i := by omega
        have h1i : (i : Int) < M.length := by omega
        have wi : IntKind.i64.wrap ((i : Int) + 1) = ((i + 1 : Nat) : Int) := by rw [wrap64 (by omega) (by omega)]; omega
        refine LoopW.slotsM [false, false, false, true, true, false, false, true, true, true, false, false, true, false, false, false, false, true, true, true, false, false, false, false, false, false, false, false, false, false, false, false, false, false, false, false, false, false, false, false, false, false, false, false, false, false, false, false, false, false, false, false, false, false, false, false, false, false, false, false, false, false, false, false, false, false, false, false, false, false, false, false, false, false, false, false, false, false, false, false, false, false, false, false, false, false, false, false, false, false, false, false, false, false, false, false, false, false, false, false, false, false, false, false, false, false, false, false, false, false, false, false, false, false, false, false, false, false, false, false, false, false, false, false, false, false, false, false, false, false, false, false, false, false, false, false, false, false, false, false, false, false, false, false, false, false, false, false, false, false, false, false, false, false, false, false, false, false, false, false, false, false, false, false, false, false, false, false, false, false, false, false, false, false, false, false, false, false, false, false, false, false, false, false, false, false, false, false, false, false, false, false, false, false, false, false, false, false, false, false, false, false, false, false, false, false, false, false, false] (α := Nat) (fun j => [(19, I j)]) (fun j => []) (fun j => L.length - j) (fun j => j ≤ L.length) 0 (by simp -implicitDefEqProofs only [go_sem, LeTs_undef, LeTs_same, LeTs_nil]; try simp [LeTs]) rfl (by omega) ?_
        intro j hj
        simp -implicitDefEqProofs only [go_sem]
        refine BrA_i (fun hk => ?_) (fun hk => ?_) <;> simp -implicitDefEqProofs only [go_sem]
        · have hk : j < L.length := by simp at hk; omega
          have h2i : (0 : Int) ≤ j := by omega
          have h3i : (j : Int) < L.length := by omega
          have wj : IntKind.i64.wrap ((j : Int) + 1) = ((j + 1 : Nat) : Int) := by rw [wrap64 (by omega) (by omega)]; omega
          have r1 := row_getD It.row M h
          have r2 := row_getD It.row L hk
          simp only [It.row] at r1 r2
          have hne : (decide (M[i].id.t = L[j].id.t) && decide (M[i].id.n = L[j].id.n)) = false := by
            have hh := f6 _ (List.getElem_mem h) _ (List.getElem_mem hk)
            cases e : (decide (M[i].id.t = L[j].id.t) && decide (M[i].id.n = L[j].id.n))
            · rfl
            · simp only [Bool.and_eq_true, decide_eq_true_eq] at e
              exact absurd (Idt.ext e.1 e.2) hh
          refine RegD_of sch_9_26 tysOk (by kernel_rfl) ?_
          simp -implicitDefEqProofs only [go_sem, h0i, h1i, h2i, h3i, r1, r2, h, hk, hne, wj]
          refine .to [] (j + 1) rfl ?_ ?_ (by omega) (by omega) <;> simp -implicitDefEqProofs only [go_sem, LeTs_undef, LeTs_same, LeTs_nil]
        · simp -implicitDefEqProofs only [go_sem, wi]
          refine .to [] (i + 1) rfl ?_ ?_ (by omega) (by omega) <;> simp -implicitDefEqProofs only [go_sem, LeTs_undef, LeTs_same, LeTs_nil]
      · refine CallW.one (s_StreamOk X hd.md.sm.1 hd.hw) p_StreamOk (by first | (simp -implicitDefEqProofs only [go_sem]; done) | ((conv => lhs; simp -implicitDefEqProofs only [go_sem]); done) | (simp -implicitDefEqProofs only [go_sem]; rfl) | rfl) (by first | trivial | (simp [DeepR, DeepV, DeepVs, DeepC, DeepCs, T.scal]; done)) ?_
        simp -implicitDefEqProofs only [go_sem, f1, f2]
        refine CallW.one (s_qxItems s.items s.items (by have := hs.1; omega) hsm.2.2.1) p_qxItems (by first | (simp -implicitDefEqProofs only [go_sem]; done) | ((conv => lhs; simp -implicitDefEqProofs only [go_sem]); done) | (simp -implicitDefEqProofs only [go_sem]; rfl) | rfl) (by first | trivial | (simp [DeepR, DeepV, DeepVs, DeepC, DeepCs, T.scal]; done)) ?_
        simp -implicitDefEqProofs only [go_sem, eq_self, decide_true]
        refine CallW.ps (s_GroupWaits s name ⟨#[]⟩ hs.md hs.hw) p_GroupWaits (by first | (simp -implicitDefEqProofs only [go_sem]; done) | ((conv => lhs; simp -implicitDefEqProofs only [go_sem]); done) | (simp -implicitDefEqProofs only [go_sem]; rfl) | rfl) rfl ?_
        rintro _ rfl
        have wn : IntKind.i64.wrap (((waitsM s name ⟨#[]⟩).length : Int) + L.length) = W.length := by rw [f3, wrap64 (by omega) (by omega)]; omega
        simp -implicitDefEqProofs only [go_sem, wn, eq_self, decide_true]
        refine BrA_i (fun hc => ?_) (fun hc => ?_) <;> simp -implicitDefEqProofs only [go_sem, hc]
        have : (L.length : Int) ≤ count := f7 (by have := of_decide_eq_false hc; omega)
        rw [decide_eq_true this]
end Go.Proofs.Ytofiljboaegekaa.Am
