/- Texts of this claim, packed: walks and laws that its row stands on. Each states its own conditions. -/
import Derived.Below
import Derived.ChangeArms
import Derived.ChangeOld
import Derived.ChangeSlices
import Derived.DataElems
import Derived.OpenShut
import Derived.ProofKit
import Derived.ShutString
import Derived.SizedLaws
import Derived.Test.YtaajnbfnaoecnaaBFnGroupNew1
import Derived.Test.YtaajnbfnaoecnaaBFnGroupNew2
namespace Go.Proofs.Ytaajnbfnaoecnaa.Am
open Go
set_option maxRecDepth 100000
set_option maxHeartbeats 400000
set_option linter.unusedSimpArgs false
set_option linter.unusedVariables false
def wfor (who : ByteArray) (w : Wt) : Bool := decide (who = ⟨#[]⟩) || decide (w.who = who)
def waitsM (s : Stm) (name who : ByteArray) : List Wt :=
  if streamOkM s = true then match gIx s.groups name with
    | none => []
    | some i => (s.groups.getD i ⟨.empty, ⟨0, 0⟩, []⟩).waits.filter (wfor who)
  else []
theorem p_GroupWaits : Plain Try.prog 24 := ⟨_, Try.func24, rfl, by decide⟩
theorem s_GroupWaits (s : Stm) (name who : ByteArray) (hs : s.md) (hw : ∀ g ∈ s.groups, g.waits.length < 2000000) : Spec Try.prog 24 [s.av, .t (.str name), .t (.str who)] (fun r => r = .own (.list true 5 ((waitsM s name who).map Wt.row))) := by
  have hsm := hs.sm.1
  have hs2 := hs.2.1
  have hs4 := hs.2.2.2
  refine Spec.of tysOk mixed Try.func24 rfl (by decide) ?_
  simp -implicitDefEqProofs only [go_sem, Try.f24]
  refine CallW.onep (s_group s name hs2) p_group (by first | (simp -implicitDefEqProofs only [go_sem]; done) | ((conv => lhs; simp -implicitDefEqProofs only [go_sem]); done) | (simp -implicitDefEqProofs only [go_sem]; rfl) | rfl) rfl ?_
  cases hg : gIx s.groups name with
  | none =>
    simp -implicitDefEqProofs only [go_sem, grpR]
    refine CallW.one (s_StreamOk s hsm hw) p_StreamOk (by first | (simp -implicitDefEqProofs only [go_sem]; done) | ((conv => lhs; simp -implicitDefEqProofs only [go_sem]); done) | (simp -implicitDefEqProofs only [go_sem]; rfl) | rfl) (by first | trivial | (simp [DeepR, DeepV, DeepVs, DeepC, DeepCs, T.scal]; done)) ?_
    simp -implicitDefEqProofs only [go_sem]
    cases hok : streamOkM s
    · simp -implicitDefEqProofs only [go_sem]
      simp [waitsM, hok]
    · simp -implicitDefEqProofs only [go_sem]
      simp [waitsM, hok, hg]
  | some n =>
    have hn := gIx_lt hg
    simp -implicitDefEqProofs only [go_sem, grpR, row_getD _ _ hn, Gr.row]
    refine CallW.one (s_StreamOk s hsm hw) p_StreamOk (by first | (simp -implicitDefEqProofs only [go_sem]; done) | ((conv => lhs; simp -implicitDefEqProofs only [go_sem]); done) | (simp -implicitDefEqProofs only [go_sem]; rfl) | rfl) (by first | trivial | (simp [DeepR, DeepV, DeepVs, DeepC, DeepCs, T.scal]; done)) ?_
    simp -implicitDefEqProofs only [go_sem]
    cases hok : streamOkM s
    · simp -implicitDefEqProofs only [go_sem]
      simp [waitsM, hok]
    · simp -implicitDefEqProofs only [go_sem]
      have hwl := hs4 _ (List.getElem_mem hn)
      obtain ⟨ws, hws⟩ : ∃ ws, ws = s.groups[n].waits := ⟨_, rfl⟩
      have hfin : waitsM s name who = ws.filter (wfor who) := by
        simp only [waitsM, hok, hg, if_true, hws]
        rw [List.getD_eq_getElem?_getD, List.getElem?_eq_getElem hn]; rfl
      rw [← hws] at hwl ⊢
      rw [hfin]
      refine LoopW.slotsM [false, false, true, false, false, false, false, true, false, false, false, false, false, false, false, false, false, false, false, false, false, false, false, false, false, false, true, true, true, false, false, false, false, false, false, false, false, false, false, false, false, false, false, false, false, false] (α := Nat) (fun i => [(28, I i)]) (fun i => [(88, .rows 5 (((ws.take i).filter (wfor who)).map Wt.row))]) (fun i => ws.length - i) (fun i => i ≤ ws.length) 0 (by simp -implicitDefEqProofs only [go_sem, LeTs_undef, LeTs_same, LeTs_nil]; try simp [LeTs]) (by simp -implicitDefEqProofs only [go_sem, List.take_zero, List.filter_nil, List.map_nil]) (by omega) ?_
      intro i hi
      simp -implicitDefEqProofs only [go_sem]
      refine BrA_i (fun h => ?_) (fun h => ?_) <;> simp -implicitDefEqProofs only [go_sem]
      · skip
        have h : i < ws.length := by simp at h; omega
        have h0i : (0 : Int) ≤ i := by omega
        have h1i : (i : Int) < ws.length := by omega
        have wi : IntKind.i64.wrap ((i : Int) + 1) = ((i + 1 : Nat) : Int) := by rw [wrap64 (by omega) (by omega)]; omega
        have ef := filter_take (wfor who) ws h
        have hl : ((ws.take i).filter (wfor who)).length ≤ 1048576 := Nat.le_trans (List.length_filter_le _ _) (by simp; omega)
        obtain ⟨acc, hacc⟩ : ∃ acc, acc = (ws.take i).filter (wfor who) := ⟨_, rfl⟩
        rw [← hacc] at ef hl ⊢
        simp -implicitDefEqProofs only [go_sem, h, h0i, h1i, row_getD _ _ h, Wt.row, wi]
        (repeat' (first   | (refine BrA_i (fun h => ?_) (fun h => ?_) <;> (try simp only [decide_eq_true_eq, decide_eq_false_iff_not, Bool.not_eq_true', Bool.not_eq_false', gt_iff_lt, ge_iff_le] at h) <;> try simp -implicitDefEqProofs only [go_sem, wi, List.length_map])   | (refine And.intro (a := roomy _ _) (by (unfold roomy; (try simp only [List.length_take, List.length_append, List.length_map, List.length_cons, List.length_nil]); omega)) ?_; try simp -implicitDefEqProofs only [go_sem, wi, List.length_map])))
        all_goals first
          | (have he : wfor who ws[i] = true := by
               simp only [wfor, Bool.or_eq_true, decide_eq_true_eq]; first | (left; assumption) | (right; assumption)
             rw [if_pos he] at ef
             have e2 : (acc ++ [ws[i]]).map Wt.row = acc.map Wt.row ++ [[T.int .i64 ws[i].id.t, T.int .i64 ws[i].id.n, T.str ws[i].who, T.int .i64 ws[i].at', T.int .i64 ws[i].tm]] := by rw [List.map_append]; rfl
             refine .to [80, 336, 344] (i + 1) rfl ?_ ?_ (by omega) (by omega) <;> simp -implicitDefEqProofs only [go_sem, LeTs_undef, LeTs_same, LeTs_nil, ef, e2, wi])
          | (have he : ¬ wfor who ws[i] = true := by
               simp only [wfor, Bool.or_eq_true, decide_eq_true_eq]; rintro (h' | h') <;> contradiction
             rw [if_neg he, List.append_nil] at ef
             refine .to [80, 336, 344] (i + 1) rfl ?_ ?_ (by omega) (by omega) <;> simp -implicitDefEqProofs only [go_sem, LeTs_undef, LeTs_same, LeTs_nil, ef, wi])
      · have h : i = ws.length := by simp at h; omega
        subst h
        simp -implicitDefEqProofs only [go_sem, List.take_length]
end Go.Proofs.Ytaajnbfnaoecnaa.Am
namespace Go.Proofs.Ytaajnbfnaoecnaa.Am
open Go
set_option linter.unusedVariables false
set_option linter.unusedSimpArgs false
section
variable {α : Type} {lt : α → α → Bool}
def insB (lt : α → α → Bool) (x : α) : List α → List α
  | [] => [x]
  | y :: l => if lt x y = true then y :: insB lt x l else x :: y :: l
def insR (lt : α → α → Bool) (acc : List α) (x : α) : List α := (insB lt x acc.reverse).reverse
def sortR (lt : α → α → Bool) (l : List α) : List α := l.foldl (insR lt) []
theorem insB_len (x : α) (l : List α) : (insB lt x l).length = l.length + 1 := by
  induction l with
  | nil => rfl
  | cons y l ih => simp only [insB]; split <;> simp [ih]
theorem insR_len (acc : List α) (x : α) : (insR lt acc x).length = acc.length + 1 := by simp [insR, insB_len]
theorem foldR_len (l acc : List α) : (l.foldl (insR lt) acc).length = acc.length + l.length := by
  induction l generalizing acc with
  | nil => rfl
  | cons x l ih => rw [List.foldl_cons, ih, insR_len, List.length_cons]; omega
theorem sortR_len (l : List α) : (sortR lt l).length = l.length := by simp [sortR, foldR_len]
theorem insB_pass (x : α) (q r : List α) (h : ∀ y ∈ q, lt x y = true) : insB lt x (q ++ r) = q ++ insB lt x r := by
  induction q with
  | nil => rfl
  | cons y q ih => rw [List.cons_append, insB, if_pos (h y (by simp)), ih (fun z hz => h z (by simp [hz])), List.cons_append]
def Mid (lt : α → α → Bool) (acc : List α) (x : α) (rest D : List α) (j : Nat) : Prop :=
  ∃ p q, acc = p ++ q ∧ j = p.length ∧ D = p ++ x :: q ++ rest ∧ ∀ y ∈ q, lt x y = true
theorem Mid.start (acc : List α) (x : α) (rest : List α) : Mid lt acc x rest (acc ++ x :: rest) acc.length :=
  ⟨acc, [], by simp, rfl, by simp, fun y h => by cases h⟩
theorem Mid.len {acc rest D : List α} {x : α} {j : Nat} (h : Mid lt acc x rest D j) : D.length = acc.length + 1 + rest.length ∧ j ≤ acc.length := by
  obtain ⟨p, q, rfl, rfl, rfl, _⟩ := h
  simp; omega
theorem Mid.step {acc rest D : List α} {x : α} {j : Nat} (h : Mid lt acc x rest D (j + 1)) (h1 : j + 1 < D.length) (hl : lt D[j + 1] D[j] = true) : Mid lt acc x rest ((D.set (j + 1) D[j]).set j D[j + 1]) j := by
  obtain ⟨p, q, h2, h3, h4, h5⟩ := h
  rcases List.eq_nil_or_concat p with rfl | ⟨p', y, rfl⟩
  · simp at h3
  · simp at h3
    subst h3 h4
    have e : p'.concat y ++ x :: q ++ rest = p' ++ y :: x :: (q ++ rest) := by simp
    have g0 : (p'.concat y ++ x :: q ++ rest)[p'.length]'(by simp) = y := by simp [List.getElem_append]
    have g1 : (p'.concat y ++ x :: q ++ rest)[p'.length + 1]'h1 = x := by simp [List.getElem_append]
    rw [g0, g1] at hl ⊢
    refine ⟨p', y :: q, by rw [h2]; simp, rfl, ?_, fun z hz => ?_⟩
    · rw [e, List.set_append_right _ _ (by omega), List.set_append_right _ _ (by omega)]
      simp
    · rcases List.mem_cons.1 hz with rfl | hz
      · exact hl
      · exact h5 z hz
theorem insR_at {p q : List α} {x : α} (h5 : ∀ y ∈ q, lt x y = true) (h6 : ∀ y ∈ p.getLast?, lt x y = false) : insR lt (p ++ q) x = p ++ x :: q := by
  unfold insR
  rw [List.reverse_append, insB_pass _ _ _ (fun y hy => h5 y (by simpa using hy))]
  rcases List.eq_nil_or_concat p with rfl | ⟨p', y, rfl⟩
  · simp [insB]
  · have h7 := h6 y (by simp)
    have e : (p'.concat y).reverse = y :: p'.reverse := by simp
    rw [e, insB, if_neg (by simp [h7])]
    simp
theorem Mid.end {acc rest D : List α} {x : α} {j : Nat} (h : Mid lt acc x rest D j) (hl : ∀ i (h1 : i + 1 < D.length), j = i + 1 → lt D[i + 1] D[i] = false) : D = insR lt acc x ++ rest := by
  obtain ⟨p, q, h2, h3, h4, h5⟩ := h
  subst h2 h3
  have : insR lt (p ++ q) x = p ++ x :: q := by
    refine insR_at h5 fun y hy => ?_
    rcases List.eq_nil_or_concat p with rfl | ⟨p', y', rfl⟩
    · simp at hy
    · simp at hy
      subst hy
      have h6 := hl p'.length (by rw [h4]; simp) (by simp)
      subst h4
      have g0 : (p'.concat y' ++ x :: q ++ rest)[p'.length]'(by simp) = y' := by simp [List.getElem_append]
      have g1 : (p'.concat y' ++ x :: q ++ rest)[p'.length + 1]'(by simp) = x := by simp [List.getElem_append]
      rwa [g0, g1] at h6
  rw [this, h4]
theorem sortR_take (l : List α) {i : Nat} (h : i < l.length) : sortR lt (l.take (i + 1)) = insR lt (sortR lt (l.take i)) l[i] := by
  rw [List.take_succ_eq_append_getElem h, sortR, List.foldl_append]
  rfl
theorem sortR_one (l : List α) : sortR lt (l.take 1) ++ l.drop 1 = l := by
  cases l with
  | nil => rfl
  | cons x l => simp [sortR, insR, insB]
theorem sortR_up (l : List α) (h : ∀ i (hi : i + 1 < l.length), lt l[i + 1] l[i] = false) : sortR lt l = l := by
  have : ∀ i, i ≤ l.length → sortR lt (l.take i) = l.take i := by
    intro i
    induction i with
    | zero => intro _; simp [sortR]
    | succ i ih =>
      intro hi
      rw [sortR_take l (by omega), ih (by omega)]
      have hm : Mid lt (l.take i) l[i] [] (l.take i ++ [l[i]]) i := by
        have := Mid.start (lt := lt) (l.take i) l[i] []
        rwa [List.length_take, Nat.min_eq_left (by omega)] at this
      have e := hm.end fun k h1 hk => by
        subst hk
        have := h k (by omega)
        simpa [List.getElem_append, List.getElem_take] using this
      rw [List.append_nil] at e
      rw [← e, List.take_succ_eq_append_getElem (by omega)]
  have := this l.length (Nat.le_refl _)
  rwa [List.take_length] at this
end
end Go.Proofs.Ytaajnbfnaoecnaa.Am
namespace Go.Proofs.Ytaajnbfnaoecnaa.Am
open Go
set_option linter.unusedVariables false
set_option linter.unusedSimpArgs false
def ltG (a b : Gr) : Bool := bytesLt a.name b.name
theorem allAt_split {α : Type} (good : α → Bool) (link : α → α → Bool) (p : List α) (x y : α) (q : List α) (h : allAt good link (p ++ x :: y :: q) = true) : link x y = true := by
  induction p with
  | nil => rw [List.nil_append, allAt_cons] at h; simp [Bool.and_eq_true] at h; exact h.1.2
  | cons z p ih =>
    cases p with
    | nil => rw [List.cons_append, List.nil_append, allAt_cons, allAt_cons] at h; simp [Bool.and_eq_true] at h; exact h.2.1.2
    | cons z2 p => rw [List.cons_append, List.cons_append, allAt_cons] at h; simp only [Bool.and_eq_true] at h; exact ih h.2
theorem allAt_tail {α : Type} (good : α → Bool) (link : α → α → Bool) (x : α) (q : List α) (h : allAt good link (x :: q) = true) : allAt good link q = true := by
  cases q with
  | nil => rfl
  | cons y q => rw [allAt_cons] at h; simp only [Bool.and_eq_true] at h; exact h.2
theorem gr_lt_tail (last : Idt) (x : Gr) (q : List Gr) (h : allAt (grGood last) grLink (x :: q) = true) : ∀ y ∈ q, bytesLt x.name y.name = true := by
  induction q generalizing x with
  | nil => intro y hy; cases hy
  | cons z q ih =>
    rw [allAt_cons] at h; simp only [Bool.and_eq_true] at h
    intro y hy
    have h1 : bytesLt x.name z.name = true := h.1.2
    rcases List.mem_cons.1 hy with rfl | hy
    · exact h1
    · exact bytesLt_trans h1 (ih z h.2 y hy)
theorem gr_up (last : Idt) (l : List Gr) (h : allAt (grGood last) grLink l = true) : ∀ i (hi : i + 1 < l.length), ltG l[i + 1] l[i] = false := by
  intro i hi
  have e : l = l.take i ++ l[i] :: l[i + 1] :: l.drop (i + 2) := by
    rw [← List.drop_eq_getElem_cons, ← List.drop_eq_getElem_cons, List.take_append_drop]
  rw [e] at h
  have h1 := allAt_split _ _ _ _ _ _ h
  have h2 : bytesLt l[i].name l[i + 1].name = true := h1
  cases h3 : ltG l[i + 1] l[i]
  · rfl
  · have := bytesLt_trans h2 h3
    rw [bytesLt_irrefl] at this; cases this
theorem gAtM_spec (gs : List Gr) (f : ByteArray) : (∀ y ∈ gs.take (gAtM gs f), bytesLt y.name f = true) ∧ (∀ y ∈ (gs.drop (gAtM gs f)).head?, bytesLt y.name f = false) := by
  induction gs with
  | nil => simp [gAtM]
  | cons x l ih =>
    unfold gAtM
    cases hx : bytesLt x.name f
    · simp [hx]
    · simp only [if_true, List.take_succ_cons, List.drop_succ_cons]
      refine ⟨fun y hy => ?_, ih.2⟩
      rcases List.mem_cons.1 hy with rfl | hy
      · exact hx
      · exact ih.1 y hy
theorem ins_same (last : Idt) (gs : List Gr) (g : Gr) (h : allAt (grGood last) grLink gs = true) : sortR ltG (gs ++ [g]) = insG gs g ∨ (allAt (grGood last) grLink (sortR ltG (gs ++ [g])) = false ∧ allAt (grGood last) grLink (insG gs g) = false) := by
  have e0 : sortR ltG (gs ++ [g]) = insR ltG gs g := by
    have e1 := sortR_up gs (gr_up last gs h)
    unfold sortR at e1 ⊢
    rw [List.foldl_append, e1]; rfl
  rw [e0]
  obtain ⟨h1, h2⟩ := gAtM_spec gs g.name
  have hsp := List.take_append_drop (gAtM gs g.name) gs
  unfold insG
  generalize hp : gs.take (gAtM gs g.name) = p at *
  generalize hq : gs.drop (gAtM gs g.name) = q at *
  have hlast : ∀ y ∈ p.getLast?, ltG g y = false := fun y hy => by
    have := h1 y (List.mem_of_getLast? hy)
    cases h3 : ltG g y
    · rfl
    · have := bytesLt_trans this h3
      rw [bytesLt_irrefl] at this; cases this
  have hq0 : allAt (grGood last) grLink q = true := by
    rw [← hsp] at h
    clear e0 hp h1 hlast hsp
    induction p with
    | nil => exact h
    | cons z p ih => exact ih (allAt_tail _ _ _ _ h)
  cases q with
  | nil =>
    left
    have := insR_at (lt := ltG) (p := p) (q := []) (x := g) (fun y hy => by cases hy) hlast
    rw [hsp] at this
    exact this
  | cons y q =>
    have hy := h2 y (by simp)
    by_cases he : y.name = g.name
    · right
      constructor
      · have e1 : gs = (p ++ [y]) ++ q := by rw [← hsp]; simp
        have e2 := insR_at (lt := ltG) (p := p ++ [y]) (q := q) (x := g) (fun z hz => by
          have := gr_lt_tail last y q hq0 z hz
          show bytesLt g.name z.name = true
          rw [← he]; exact this) (fun z hz => by
          simp at hz
          subst hz
          show bytesLt g.name y.name = false
          rw [he, bytesLt_irrefl])
        rw [e1, e2]
        cases h4 : allAt (grGood last) grLink (p ++ [y] ++ g :: q)
        · rfl
        · rw [List.append_assoc] at h4
          have h5 : bytesLt y.name g.name = true := allAt_split _ _ p y g q h4
          rw [hy] at h5; cases h5
      · cases h4 : allAt (grGood last) grLink (p ++ g :: y :: q)
        · rfl
        · have h5 : bytesLt g.name y.name = true := allAt_split _ _ p g y q h4
          rw [he, bytesLt_irrefl] at h5; cases h5
    · left
      have h5 : bytesLt g.name y.name = true := bytesLt_total he hy
      have := insR_at (lt := ltG) (p := p) (q := y :: q) (x := g) (fun z hz => by
        rcases List.mem_cons.1 hz with rfl | hz
        · exact h5
        · exact bytesLt_trans h5 (gr_lt_tail last y q hq0 z hz)) hlast
      rw [hsp] at this
      exact this
abbrev newI (s : Stm) (name : ByteArray) (fr : Idt) : Stm := ⟨s.last, s.items, sortR ltG (s.groups ++ [⟨name, fr, []⟩])⟩
theorem newM_sort (s : Stm) (name : ByteArray) (fr : Idt) (h : streamOkM s = true) : newM s name fr = (if streamOkM (newI s name fr) = true then (newI s name fr, true) else (s, false)) := by
  have hg : allAt (grGood s.last) grLink s.groups = true := by
    simp only [streamOkM, Bool.and_eq_true] at h; exact h.2
  unfold newM
  rw [if_pos h]
  rcases ins_same s.last s.groups ⟨name, fr, []⟩ hg with e | ⟨e1, e2⟩
  · have : newI s name fr = newS s name fr := by unfold newI newS; rw [e]
    rw [this]
  · have n1 : streamOkM (newI s name fr) = false := by simp [streamOkM, e1]
    have n2 : streamOkM (newS s name fr) = false := by simp [streamOkM, e2]
    rw [n1, n2]; rfl
end Go.Proofs.Ytaajnbfnaoecnaa.Am
namespace Go.Proofs.Ytaajnbfnaoecnaa.Am
open Go
set_option linter.unusedSimpArgs false
set_option linter.unusedVariables false
theorem allAt_head {α : Type} {good : α → Bool} {link : α → α → Bool} (tr : ∀ a b c, link a b = true → link b c = true → link a c = true) : ∀ {x : α} {l : List α}, allAt good link (x :: l) = true → good x = true ∧ (∀ y ∈ l, link x y = true) ∧ allAt good link l = true
  | x, [], h => ⟨by rwa [allAt_one] at h, (fun y hy => by cases hy), allAt_nil _ _⟩
  | x, y :: l, h => by
    rw [allAt_cons, Bool.and_eq_true, Bool.and_eq_true] at h
    obtain ⟨h1, h2, h3⟩ := allAt_head tr h.2
    exact ⟨h.1.1, (fun z hz => by
      rcases List.mem_cons.1 hz with rfl | hz
      · exact h.1.2
      · exact tr _ _ _ h.1.2 (h2 z hz)), h.2⟩
theorem waitsM_all {s : Stm} (hok : streamOkM s = true) {name : ByteArray} {i : Nat} (hg : gIx s.groups name = some i) : waitsM s name ⟨#[]⟩ = (gAt s i).waits := by
  unfold waitsM
  rw [if_pos hok, hg]
  have hn := gIx_lt hg
  have h : ∀ w, wfor ⟨#[]⟩ w = true := fun w => by simp [wfor]
  simp only
  rw [List.filter_eq_self.2 (fun w _ => h w), gAt_eq hn, List.getD_eq_getElem?_getD, List.getElem?_eq_getElem hn]; rfl
end Go.Proofs.Ytaajnbfnaoecnaa.Am
namespace Go.Proofs.Ytaajnbfnaoecnaa.Am
open Go
set_option linter.unusedVariables false
set_option linter.unusedSimpArgs false
theorem gIx_mem {last : Idt} : ∀ {gs : List Gr}, allAt (grGood last) grLink gs = true → ∀ {g : Gr}, g ∈ gs → ∃ i, ∃ hi : i < gs.length, gIx gs g.name = some i ∧ gs[i] = g
  | [], _, g, hg => by cases hg
  | x :: l, h, g, hg => by
    rcases List.mem_cons.1 hg with rfl | hg
    · exact ⟨0, by simp, gIx_some (by simp) rfl (fun j _ hj => by omega), rfl⟩
    · obtain ⟨i, hi, h1, h2⟩ := gIx_mem (allAt_tail _ _ _ _ h) hg
      have h3 := gr_lt_tail last x l h g hg
      have h4 : ¬ x.name = g.name := fun e => by rw [e, bytesLt_irrefl] at h3; cases h3
      refine ⟨i + 1, by simp; omega, ?_, by simpa using h2⟩
      unfold gIx at h1 ⊢
      rw [List.findIdx?_cons, h1]
      simp [h4]
theorem allAt_suffix {α : Type} (good : α → Bool) (link : α → α → Bool) : ∀ (p q : List α), allAt good link (p ++ q) = true → allAt good link q = true
  | [], q, h => h
  | x :: p, q, h => allAt_suffix good link p q (allAt_tail _ _ _ _ h)
theorem itLink_tr (a b c : It) (h1 : itLink a b = true) (h2 : itLink b c = true) : itLink a c = true := ltM_trans (a := a.id) (b := b.id) (c := c.id) h1 h2
theorem fold_new (who : ByteArray) (now : Int) (fr : Idt) {good : It → Bool} : ∀ (l : List It) (a : Rdg), allAt good itLink l = true → a.items.length + l.length ≤ 16 → a.waits.length = a.items.length → (∀ x ∈ l, ltM a.last x.id = ltM fr x.id) →
    (l.foldl (gstep who now 100) a).items = a.items ++ l.filter (fun i => ltM fr i.id)
  | [], a, _, _, _, _ => by simp
  | x :: l, a, h, hl, hw, hx => by
    simp only [List.length_cons] at hl
    have h0 := hx x (by simp)
    have hs := (allAt_head itLink_tr h).2.1
    have ht := allAt_tail _ _ _ _ h
    rw [List.foldl_cons]
    cases hf : ltM fr x.id
    · have e : gstep who now 100 a x = a := by
        unfold gstep
        rw [if_neg]
        rw [h0, hf]; simp
      rw [e, fold_new who now fr l a ht (by omega) hw (fun y hy => hx y (by simp [hy]))]
      simp [hf]
    · have e : gstep who now 100 a x = ⟨x.id, a.waits ++ [⟨x.id, who, now, 1⟩], a.items ++ [x]⟩ := by
        unfold gstep
        rw [if_pos]
        refine ⟨by omega, by omega, by rw [h0, hf]⟩
      rw [e, fold_new who now fr l _ ht (by simp; omega) (by simp [hw]) (fun y hy => by
        have h1 : ltM x.id y.id = true := hs y hy
        have h2 := ltM_trans hf h1
        rw [h1, h2])]
      simp [hf]
theorem newM_facts {s x : Stm} (hok : streamOkM s = true) (name : ByteArray) (fr : Idt) (h : newM s name fr = (x, true)) :
    streamOkM x = true ∧ (newM x name fr).2 = false ∧ (readM x name ⟨#[97, 110, 110]⟩ 0 100).2 = s.items.filter (fun i => ltM fr i.id) ∧ (∀ g ∈ s.groups, waitsM x g.name ⟨#[]⟩ = g.waits) ∧ waitsM x name ⟨#[]⟩ = [] ∧ x.groups.length = s.groups.length + 1 := by
  unfold newM at h
  rw [if_pos hok] at h
  split at h
  rotate_left
  · simp at h
  rename_i hx
  simp only [Prod.mk.injEq, and_true] at h
  subst h
  have hg : allAt (grGood s.last) grLink (insG s.groups ⟨name, fr, []⟩) = true := by
    simp only [streamOkM, Bool.and_eq_true] at hx; exact hx.2
  have hin : ∀ g, g ∈ s.groups ∨ g = ⟨name, fr, []⟩ → g ∈ insG s.groups ⟨name, fr, []⟩ := by
    intro g hg
    unfold insG
    rcases hg with hg | rfl
    · rw [← List.take_append_drop (gAtM s.groups name) s.groups] at hg
      rcases List.mem_append.1 hg with h | h
      · exact List.mem_append.2 (.inl h)
      · exact List.mem_append.2 (.inr (List.mem_cons_of_mem _ h))
    · simp
  have hwt : ∀ g ∈ insG s.groups ⟨name, fr, []⟩, waitsM (newS s name fr) g.name ⟨#[]⟩ = g.waits := by
    intro g hgm
    obtain ⟨i, hi, h1, h2⟩ := gIx_mem hg hgm
    rw [waitsM_all hx h1, gAt_eq (s := newS s name fr) hi]
    rw [show (newS s name fr).groups[i] = g from h2]
  refine ⟨hx, ?_, ?_, fun g hgm => hwt g (hin g (.inl hgm)), hwt _ (hin _ (.inr rfl)), insG_len _ _⟩
  · unfold newM
    rw [if_pos hx, if_neg]
    intro hbad
    have hb : allAt (grGood s.last) grLink (insG (insG s.groups ⟨name, fr, []⟩) ⟨name, fr, []⟩) = true := by
      simp only [streamOkM, Bool.and_eq_true] at hbad; exact hbad.2
    have hm := hin _ (.inr rfl)
    generalize insG s.groups ⟨name, fr, []⟩ = xs at hm hb
    have hsp := gAtM_spec xs name
    rw [← List.take_append_drop (gAtM xs name) xs] at hm
    unfold insG at hb
    rcases List.mem_append.1 hm with h | h
    · have := hsp.1 _ h
      rw [bytesLt_irrefl] at this; cases this
    · have h2 := allAt_suffix _ _ _ _ hb
      have := gr_lt_tail s.last _ _ h2 _ h
      rw [bytesLt_irrefl] at this; cases this
  · obtain ⟨i, hi, h1, h2⟩ := gIx_mem hg (hin _ (.inr rfl))
    rw [readM_some hx h1 (by decide)]
    have e : gAt (newS s name fr) i = ⟨name, fr, []⟩ := by rw [gAt_eq (s := newS s name fr) hi]; exact h2
    rw [e]
    simp only [streamOkM, Bool.and_eq_true, decide_eq_true_eq] at hok
    have := fold_new ⟨#[97, 110, 110]⟩ 0 fr s.items ⟨fr, [], []⟩ hok.1.2 (by simp; omega) rfl (fun _ _ => rfl)
    simpa using this
end Go.Proofs.Ytaajnbfnaoecnaa.Am
namespace Go.Proofs.Ytaajnbfnaoecnaa.Am
open Go
set_option maxRecDepth 100000
set_option maxHeartbeats 1000000
set_option linter.unusedSimpArgs false
set_option linter.unusedVariables false
theorem set_getD_ne {l : List (List T)} {i k : Nat} (h : i ≠ k) (r : List T) : (l.set k r).getD i [] = l.getD i [] := by
  rw [List.getD_eq_getElem?_getD, List.getD_eq_getElem?_getD, List.getElem?_set_ne (Ne.symm h)]
def cmpS (a b : ByteArray) : Int := if bytesLt a b = true then -1 else if a = b then 0 else 1
theorem cmpS_lt (a b : ByteArray) : decide (cmpS a b < 0) = bytesLt a b := by
  unfold cmpS
  cases h : bytesLt a b
  · by_cases e : a = b <;> simp [e]
  · simp
theorem p_isNaNS : Plain Try.prog 93 := ⟨_, Try.func93, rfl, by decide⟩
theorem s_isNaNS (n : ByteArray) : Spec Try.prog 93 [.t (.str n)] (fun r => r = Bo false) := by
  refine Spec.of tysOk mixed Try.func93 rfl (by decide) ?_
  simp -implicitDefEqProofs only [go_sem, Try.f93]
theorem p_compareS : Plain Try.prog 60 := ⟨_, Try.func60, rfl, by decide⟩
theorem s_compareS (a b : ByteArray) : Spec Try.prog 60 [.t (.str a), .t (.str b)] (fun r => r = I (cmpS a b)) := by
  refine Spec.of tysOk mixed Try.func60 rfl (by decide) ?_
  simp -implicitDefEqProofs only [go_sem, Try.f60]
  refine .one (s_isNaNS _) p_isNaNS rfl trivial ?_
  simp -implicitDefEqProofs only [go_sem]
  refine .one (s_isNaNS _) p_isNaNS rfl trivial ?_
  simp -implicitDefEqProofs only [go_sem]
  refine BrA_i (fun h => ?_) (fun h => ?_)
  · simp -implicitDefEqProofs only [go_sem]; simp [cmpS, h]
  · simp -implicitDefEqProofs only [go_sem]
    refine BrA_i (fun h2 => ?_) (fun h2 => ?_) <;> simp -implicitDefEqProofs only [go_sem] <;> simp_all [cmpS]
theorem p_grFn : Plain Try.prog 59 := ⟨_, Try.func59, rfl, by decide⟩
theorem s_grFn (x y : Gr) : Spec Try.prog 59 [x.av, y.av] (fun r => r = I (cmpS x.name y.name)) := by
  refine Spec.of tysOk mixed Try.func59 rfl (by decide) ?_
  simp -implicitDefEqProofs only [go_sem, Try.f59]
  refine CallW.one (s_compareS x.name y.name) p_compareS (by first | (simp -implicitDefEqProofs only [go_sem]; done) | ((conv => lhs; simp -implicitDefEqProofs only [go_sem]); done) | (simp -implicitDefEqProofs only [go_sem]; rfl) | rfl) (by first | trivial | (simp [DeepR, DeepV, DeepVs, DeepC, DeepCs, T.scal]; done)) ?_
  simp -implicitDefEqProofs only [go_sem]
theorem p_insGr : Plain Try.prog 108 := ⟨_, Try.func108, rfl, by decide⟩
theorem s_insGr (gs : List Gr) (hs : gs.length < 1000) : SpecO Try.prog 108 [.refw 9000, I 0, I gs.length, .fn 59 []] [(9000, .rows 4 (gs.map Gr.row))] (fun r h => r = .tup [] ∧ h = [(9000, .rows 4 ((sortR ltG gs).map Gr.row))]) := by
  refine SpecO.of tysOk mixed Try.func108 rfl (by decide) ?_
  have w0 : IntKind.i64.wrap (0 + 1) = ((1 : Nat) : Int) := by rw [wrap64 (by omega) (by omega)]; omega
  simp -implicitDefEqProofs only [go_sem, Try.f108, w0]
  refine LoopW.slotsM [true, true, true, true, false, false, false, false, true, false, false, false, false, false, false, false, false, false, false, false, false, false, false, false, false, false, false, false, false, false, false, false, false, false, false, false, false, false, false, false, false, false, false, false, false, false, false, false, false, false, false, false, false] (α := Nat) (fun i => [(8, I i)]) (fun i => [(9000, .rows 4 ((sortR ltG (gs.take i) ++ gs.drop i).map Gr.row))]) (fun i => gs.length - i) (fun i => 1 ≤ i ∧ (i ≤ gs.length ∨ i = 1)) 1 (by simp -implicitDefEqProofs only [go_sem, LeTs_undef, LeTs_same, LeTs_nil]; try simp [LeTs]) (by simp -implicitDefEqProofs only [go_sem, sortR_one]) ⟨by omega, .inr rfl⟩ ?_
  rintro i ⟨hi1, hi2⟩
  simp -implicitDefEqProofs only [go_sem]
  refine BrA_i (fun h => ?_) (fun h => ?_) <;> simp -implicitDefEqProofs only [go_sem]
  · skip
    have h : i < gs.length := by simp at h; omega
    have h0i : (0 : Int) ≤ i := by omega
    have h1i : (i : Int) < gs.length := by omega
    have wi : IntKind.i64.wrap ((i : Int) + 1) = ((i + 1 : Nat) : Int) := by rw [wrap64 (by omega) (by omega)]; omega
    have hDl : (sortR ltG (gs.take i)).length = i := by rw [sortR_len, List.length_take]; omega
    have hD0 : Mid ltG (sortR ltG (gs.take i)) gs[i] (gs.drop (i + 1)) (sortR ltG (gs.take i) ++ gs.drop i) i := by
      have := Mid.start (lt := ltG) (sortR ltG (gs.take i)) gs[i] (gs.drop (i + 1))
      rw [hDl] at this
      rwa [List.drop_eq_getElem_cons h]
    refine LoopW.slotsM [true, true, true, true, false, false, false, false, true, true, false, false, false, false, false, false, false, false, false, false, false, false, false, false, false, false, false, false, false, false, false, false, false, false, false, false, false, false, false, false, false, false, false, false, false, false, false, false, false, false, false, false, false] (α := List Gr × Nat) (fun x => [(9, I x.2)]) (fun x => [(9000, .rows 4 (x.1.map Gr.row))]) (fun x => x.2) (fun x => Mid ltG (sortR ltG (gs.take i)) gs[i] (gs.drop (i + 1)) x.1 x.2) (sortR ltG (gs.take i) ++ gs.drop i, i) (by simp -implicitDefEqProofs only [go_sem, LeTs_undef, LeTs_same, LeTs_nil]; try simp [LeTs]) (by simp -implicitDefEqProofs only [go_sem]) hD0 ?_
    rintro ⟨D, j⟩ hD
    simp only at hD
    have hl := hD.len
    rw [hDl, List.length_drop] at hl
    clear hD0
    simp -implicitDefEqProofs only [go_sem]
    cases j with
    | zero =>
      have e0 : decide (((0 : Nat) : Int) > 0) = false := by simp
      refine RegD_to sch_108_4 ?sx tysOk (by kernel_rfl) ?ga ?gb
      case ga => simp -implicitDefEqProofs only [go_sem, e0]; exact rfl
      simp -implicitDefEqProofs only [go_sem]
      have e := hD.end fun k h1 hk => by omega
      subst e
      refine .to [257, 258, 259] (i + 1) rfl ?_ ?_ (by omega) ⟨by omega, .inl (by omega)⟩
      · simp -implicitDefEqProofs only [go_sem, LeTs_undef, LeTs_same, LeTs_nil, wi]
      · simp -implicitDefEqProofs only [go_sem, sortR_take gs h]
    | succ j =>
      have hj1 : j + 1 < D.length := by omega
      have hj0 : j < D.length := by omega
      have e0 : decide (((j + 1 : Nat) : Int) > 0) = true := by simp
      have i1 : (0 : Int) ≤ ((j + 1 : Nat) : Int) := by omega
      have i2 : ((j + 1 : Nat) : Int) < D.length := by omega
      have i3 : (0 : Int) ≤ (j : Int) := by omega
      have i4 : (j : Int) < D.length := by omega
      have wj : IntKind.i64.wrap (((j + 1 : Nat) : Int) - 1) = (j : Int) := by rw [wrap64 (by omega) (by omega)]; omega
      have r1 := row_getD Gr.row D hj1
      have r0 := row_getD Gr.row D hj0
      obtain ⟨x1, hx1⟩ : ∃ x, x = D[j + 1] := ⟨_, rfl⟩
      obtain ⟨x0, hx0⟩ : ∃ x, x = D[j] := ⟨_, rfl⟩
      rw [← hx1] at r1
      rw [← hx0] at r0
      simp only [Gr.row] at r1 r0
      refine RegD_to sch_108_4 ?sx1 tysOk (by kernel_rfl) ?ga1 ?gb1
      case ga1 =>
        simp -implicitDefEqProofs only [go_sem, e0, i1, i2, i3, i4, wj, r0, r1]
        refine ⟨hj1, hj0, ?_⟩
        refine CallW.one (s_grFn x1 x0) p_grFn (by first | (simp -implicitDefEqProofs only [go_sem]; done) | ((conv => lhs; simp -implicitDefEqProofs only [go_sem]); done) | (simp -implicitDefEqProofs only [go_sem]; rfl) | rfl) (by first | trivial | (simp [DeepR, DeepV, DeepVs, DeepC, DeepCs, T.scal]; done)) ?_
        simp -implicitDefEqProofs only [go_sem, cmpS_lt]
        exact rfl
      simp -implicitDefEqProofs only [go_sem]
      refine BrA_i (fun h2 => ?_) (fun h2 => ?_) <;> simp -implicitDefEqProofs only [go_sem]
      · have r01 := fun r => (set_getD_ne (l := List.map Gr.row D) (i := j) (k := j + 1) (by omega) r).trans r0
        refine RegD_to sch_108_6 ?sx2 tysOk (by kernel_rfl) ?ga2 ?gb2
        case ga2 =>
          simp -implicitDefEqProofs only [go_sem, i1, i2, i3, i4, wj, r0, r1, r01]
          refine ⟨hj0, hj1, hj1, hj0, ?_⟩
          exact rfl
        simp -implicitDefEqProofs only [go_sem, wj]
        refine .to [257, 258, 259] ((D.set (j + 1) D[j]).set j D[j + 1], j) rfl ?_ ?_ (by simp) (hD.step hj1 (by rw [← hx1, ← hx0]; exact h2))
        · simp -implicitDefEqProofs only [go_sem, LeTs_undef, LeTs_same, LeTs_nil]
        · simp -implicitDefEqProofs only [go_sem, List.map_set, ← hx0, ← hx1, Gr.row]
      · have e := hD.end fun k h1 hk => by
          obtain rfl : k = j := by omega
          rw [← hx1, ← hx0]; exact h2
        clear r0 r1 hx0 hx1
        subst e
        refine .to [257, 258, 259] (i + 1) rfl ?_ ?_ (by omega) ⟨by omega, .inl (by omega)⟩
        · simp -implicitDefEqProofs only [go_sem, LeTs_undef, LeTs_same, LeTs_nil, wi]
        · simp -implicitDefEqProofs only [go_sem, sortR_take gs h]
  · have h : gs.length ≤ i := by simp at h; omega
    rw [List.take_of_length_le h, List.drop_eq_nil_of_le h, List.append_nil]
    exact ⟨(sortR_len gs).symm, rfl⟩
theorem p_stableGr : Plain Try.prog 92 := ⟨_, Try.func92, rfl, by decide⟩
theorem s_stableGr (gs : List Gr) (hs : gs.length < 20) : SpecO Try.prog 92 [.refw 9000, I gs.length, .fn 59 []] [(9000, .rows 4 (gs.map Gr.row))] (fun r h => r = .tup [] ∧ h = [(9000, .rows 4 ((sortR ltG gs).map Gr.row))]) := by
  refine SpecO.of tysOk mixed Try.func92 rfl (by decide) ?_
  have hl : (sortR ltG gs).length = gs.length := sortR_len gs
  have e0 : decide ((20 : Int) ≤ gs.length) = false := by simp; omega
  have e1 : decide ((20 : Int) < gs.length) = false := by simp; omega
  simp -implicitDefEqProofs only [go_sem, Try.f92]
  refine LoopW.slotsM [true, true, true, false, false, false, true, true, true, false, false, false, false, false, false, false, false, false, false, false, false, false, false, false, false, false, false, false, false, false, false, false, false, false, false, false, false, false, false, false, false, false, false, false, false, false, false, false, false, false, false, false, false, false, false, false, false, false, false, false, false, false, false] (α := Nat) (fun _ => []) (fun _ => []) (fun _ => 0) (fun _ => True) 0 (by simp -implicitDefEqProofs only [go_sem, LeTs_undef, LeTs_same, LeTs_nil]; try simp [LeTs]) rfl trivial ?_
  rintro _ _
  simp -implicitDefEqProofs only [go_sem, e0]
  refine CallW.o [(9000, 9000)] (s_insGr gs (by omega)) p_insGr o108 rfl (by (conv => lhs; simp -implicitDefEqProofs only [go_sem]) <;> rfl) (by (simp -implicitDefEqProofs only [go_sem]) <;> rfl) ?_
  rintro _ _ ⟨rfl, rfl⟩
  simp -implicitDefEqProofs only [go_sem]
  refine LoopW.slotsM [true, true, true, false, false, false, true, false, false, false, false, false, false, false, false, false, false, false, false, false, false, false, false, false, false, false, false, false, false, false, false, false, false, false, false, false, false, false, false, false, false, false, false, false, false, false, false, false, false, false, false, false, false, false, false, false, false, false, false, false, false, false, false] (α := Nat) (fun _ => []) (fun _ => []) (fun _ => 0) (fun _ => True) 0 (by simp -implicitDefEqProofs only [go_sem, LeTs_undef, LeTs_same, LeTs_nil]; try simp [LeTs]) rfl trivial ?_
  rintro _ _
  simp -implicitDefEqProofs only [go_sem, e1, hl]
theorem p_SortGr : Plain Try.prog 58 := ⟨_, Try.func58, rfl, by decide⟩
theorem s_SortGr (gs : List Gr) (hs : gs.length < 20) : SpecO Try.prog 58 [.refw 9000, .fn 59 []] [(9000, .rows 4 (gs.map Gr.row))] (fun r h => r = .tup [] ∧ h = [(9000, .rows 4 ((sortR ltG gs).map Gr.row))]) := by
  refine SpecO.of tysOk mixed Try.func58 rfl (by decide) ?_
  have hl : (sortR ltG gs).length = gs.length := sortR_len gs
  simp -implicitDefEqProofs only [go_sem, Try.f58]
  refine CallW.o [(9000, 9000)] (s_stableGr gs hs) p_stableGr o92 rfl (by (conv => lhs; simp -implicitDefEqProofs only [go_sem]) <;> rfl) (by (simp -implicitDefEqProofs only [go_sem]) <;> rfl) ?_
  rintro _ _ ⟨rfl, rfl⟩
  simp -implicitDefEqProofs only [go_sem, hl]
end Go.Proofs.Ytaajnbfnaoecnaa.Am
namespace Go.Proofs.Ytaajnbfnaoecnaa.Am
open Go
set_option maxRecDepth 100000
set_option maxHeartbeats 1000000
set_option linter.unusedSimpArgs false
set_option linter.unusedVariables false
theorem newI_rows (gs : List Gr) (name : ByteArray) (fr : Idt) : sharedRows (gs.map Gr.rowO ++ [[T.str name, T.int .i64 fr.t, T.int .i64 fr.n, T.list true 5 []]]) = (gs ++ [(⟨name, fr, []⟩ : Gr)]).map Gr.row := by
  have := shared_Gr gs
  unfold sharedRows at this ⊢
  rw [List.map_append, this, List.map_append]; rfl
theorem insB_mem {α : Type} {lt : α → α → Bool} (x y : α) (l : List α) : y ∈ insB lt x l → y = x ∨ y ∈ l := by
  induction l with
  | nil => intro h; simpa [insB] using h
  | cons z l ih =>
    simp only [insB]
    split
    · intro h
      rcases List.mem_cons.1 h with rfl | h
      · exact .inr (by simp)
      · exact (ih h).imp id (List.mem_cons_of_mem _)
    · intro h; exact List.mem_cons.1 h
theorem sortR_mem {α : Type} {lt : α → α → Bool} (y : α) (l : List α) (h : y ∈ sortR lt l) : y ∈ l := by
  have : ∀ (l acc : List α), y ∈ l.foldl (insR lt) acc → y ∈ acc ∨ y ∈ l := by
    intro l
    induction l with
    | nil => intro acc h; exact .inl h
    | cons x l ih =>
      intro acc h
      rcases ih _ h with h | h
      · have h := List.mem_reverse.1 h
        rcases insB_mem _ _ _ h with rfl | h
        · exact .inr (by simp)
        · exact .inl (by simpa using h)
      · exact .inr (List.mem_cons_of_mem _ h)
  rcases this l [] h with h | h
  · cases h
  · exact h
theorem newI_md {s : Stm} (hs : s.md) (hl : s.groups.length ≤ 3) (name : ByteArray) (fr : Idt) : (newI s name fr).md := by
  refine ⟨hs.1, ?_, hs.2.2.1, fun g hg => ?_⟩
  · show (sortR ltG (s.groups ++ [⟨name, fr, []⟩])).length ≤ _
    rw [sortR_len]; simp; omega
  · rcases List.mem_append.1 (sortR_mem _ _ hg) with h | h
    · exact hs.2.2.2 g h
    · simp at h; subst h; simp
theorem newI_w {s : Stm} (hw : ∀ g ∈ s.groups, g.waits.length < 2000000) (name : ByteArray) (fr : Idt) : ∀ g ∈ (newI s name fr).groups, g.waits.length < 2000000 := fun g hg => by
  rcases List.mem_append.1 (sortR_mem _ _ hg) with h | h
  · exact hw g h
  · simp at h; subst h; simp
theorem p_GroupNew : Plain Try.prog 20 := ⟨_, Try.func20, rfl, by decide⟩
theorem s_GroupNew (s : Stm) (name : ByteArray) (fr : Idt) (hs : s.md) (hw : ∀ g ∈ s.groups, g.waits.length < 2000000) : Spec Try.prog 20 [s.av, .t (.str name), fr.av] (fun r => r = newR (newM s name fr)) := by
  have hsm := hs.sm.1
  have hs2 := hs.2.1
  refine Spec.of tysOk mixed Try.func20 rfl (by decide) ?_
  simp -implicitDefEqProofs only [go_sem, Try.f20]
  refine CallW.one (s_StreamOk s hsm hw) p_StreamOk (by first | (simp -implicitDefEqProofs only [go_sem]; done) | ((conv => lhs; simp -implicitDefEqProofs only [go_sem]); done) | (simp -implicitDefEqProofs only [go_sem]; rfl) | rfl) (by first | trivial | (simp [DeepR, DeepV, DeepVs, DeepC, DeepCs, T.scal]; done)) ?_
  simp -implicitDefEqProofs only [go_sem]
  cases hok : streamOkM s
  · simp -implicitDefEqProofs only [go_sem]
    simp [newM, hok]
  have hln := streamOkM_len hok
  simp -implicitDefEqProofs only [go_sem]
  refine CallW.onep (s_cloneStream s hs) p_cloneStream (by first | (simp -implicitDefEqProofs only [go_sem]; done) | ((conv => lhs; simp -implicitDefEqProofs only [go_sem]); done) | (simp -implicitDefEqProofs only [go_sem]; rfl) | rfl) rfl ?_
  simp -implicitDefEqProofs only [go_sem]
  refine ⟨by unfold roomy; omega, ?_⟩
  refine CallW.fz [100114] (by (conv => lhs; simp -implicitDefEqProofs only [go_sem]) <;> rfl) ?_
  simp -implicitDefEqProofs only [go_sem, newI_rows]
  refine CallW.o [(9000, 114)] (s_SortGr (s.groups ++ [⟨name, fr, []⟩]) (by simp; omega)) p_SortGr o58 rfl (by (conv => lhs; simp -implicitDefEqProofs only [go_sem]) <;> rfl) (by (simp -implicitDefEqProofs only [go_sem]) <;> rfl) ?_
  rintro _ _ ⟨rfl, rfl⟩
  simp -implicitDefEqProofs only [go_sem]
  have hmN := newI_md hs hln.2 name fr
  refine CallW.one (s_StreamOk (newI s name fr) hmN.sm.1 (newI_w hw name fr)) p_StreamOk (by first | (simp -implicitDefEqProofs only [go_sem]; done) | ((conv => lhs; simp -implicitDefEqProofs only [go_sem]); done) | (simp -implicitDefEqProofs only [go_sem]; rfl) | rfl) (by first | trivial | (simp [DeepR, DeepV, DeepVs, DeepC, DeepCs, T.scal]; done)) ?_
  simp -implicitDefEqProofs only [go_sem]
  rw [newM_sort s name fr hok]
  cases hok2 : streamOkM (newI s name fr)
  · simp -implicitDefEqProofs only [go_sem]
    refine CallW.onep (s_cloneStream s hs) p_cloneStream (by first | (simp -implicitDefEqProofs only [go_sem]; done) | ((conv => lhs; simp -implicitDefEqProofs only [go_sem]); done) | (simp -implicitDefEqProofs only [go_sem]; rfl) | rfl) rfl ?_
    simp -implicitDefEqProofs only [go_sem]
  · simp -implicitDefEqProofs only [go_sem]
    refine CallW.one (s_cloneStream (newI s name fr) hmN) p_cloneStream (by first | (simp -implicitDefEqProofs only [go_sem]; done) | ((conv => lhs; simp -implicitDefEqProofs only [go_sem]); done) | (simp -implicitDefEqProofs only [go_sem]; rfl) | rfl) (deep_avO _) ?_
    simp -implicitDefEqProofs only [go_sem]
end Go.Proofs.Ytaajnbfnaoecnaa.Am
namespace Go.Proofs.Ytaajnbfnaoecnaa.Am
open Go
set_option maxRecDepth 100000
set_option maxHeartbeats 1000000
set_option linter.unusedSimpArgs false
set_option linter.unusedVariables false
theorem newM_md {s : Stm} (hs : s.md) (name : ByteArray) (fr : Idt) : (newM s name fr).1.md := by
  unfold newM
  split
  · rename_i hok
    have hl := streamOkM_len hok
    split
    · refine ⟨hs.1, ?_, hs.2.2.1, fun g hg => ?_⟩
      · show (insG s.groups _).length ≤ _
        rw [insG_len]; omega
      · rcases insG_mem hg with h | h
        · subst h; simp
        · exact hs.2.2.2 g h
    · exact hs
  · exact ⟨Nat.zero_le _, Nat.zero_le _, fun i hi => (by cases hi), fun g hg => (by cases hg)⟩
theorem newR_share (s : Stm) (name : ByteArray) (fr : Idt) (r : AV) (h : r = newR (newM s name fr) ∨ (r = newRS s name fr ∧ newM s name fr = (newS s name fr, true))) : shareR r = .tup [(newM s name fr).1.av, Bo (newM s name fr).2] := by
  rcases h with rfl | ⟨rfl, hN⟩
  · simp only [newR, shareR, shareVs, shareV, shareCs, shareC, T.mk_list, It.mkO_rows, Gr.mkO_rows]
  · rw [hN]
    simp only [newRS, shareR, shareVs, shareV, shareCs, shareC, T.mk_list, It.mkO_rows, newG_mk]
end Go.Proofs.Ytaajnbfnaoecnaa.Am
namespace Go.Proofs.Ytaajnbfnaoecnaa.Am
open Go
set_option maxRecDepth 100000
set_option maxHeartbeats 1000000
set_option linter.unusedSimpArgs false
set_option linter.unusedVariables false
theorem p_qxFields : Plain Try.prog 65 := ⟨_, Try.func65, rfl, by decide⟩
theorem s_qxFields (xs ys : List Pr) (hx : xs.length < 4611686018427387904) : Spec Try.prog 65 [.t (.list false 2 (xs.map Pr.row)), .t (.list false 2 (ys.map Pr.row))] (fun r => r = Bo (decide (xs = ys))) := by
  refine Spec.of tysOk mixed Try.func65 rfl (by decide) ?_
  simp -implicitDefEqProofs only [go_sem, Try.f65]
  refine BrA_i (fun h => ?_) (fun h => ?_) <;> simp -implicitDefEqProofs only [go_sem]
  · have hl : xs.length = ys.length := by have := of_decide_eq_true h; omega
    refine LoopW.slotsM [true, true, false, false, false, true, false, false, false, false, false, false, false, false, false, false, false, false, false, false, false, false, false, false, false, false] (α := Nat) (fun i => [(5, I i)]) (fun _ => []) (fun i => xs.length - i) (fun i => i ≤ xs.length ∧ ∀ j (h : j < xs.length), j < i → xs[j] = ys[j]) 0 (by simp -implicitDefEqProofs only [go_sem, LeTs_undef, LeTs_same, LeTs_nil]; try simp [LeTs]) rfl (by simp) ?_
    rintro i ⟨hi, hz⟩
    simp -implicitDefEqProofs only [go_sem]
    refine BrA_i (fun h => ?_) (fun h => ?_) <;> simp -implicitDefEqProofs only [go_sem]
    · have h : i < xs.length := by simp at h; omega
      have h' : i < ys.length := by omega
      have h0i : (0 : Int) ≤ i := by omega
      have h1i : (i : Int) < xs.length := by omega
      have h2i : (i : Int) < ys.length := by omega
      have wi : IntKind.i64.wrap ((i : Int) + 1) = ((i + 1 : Nat) : Int) := by rw [wrap64 (by omega) (by omega)]; omega
      have r1 := row_getD Pr.row xs h
      have r2 := row_getD Pr.row ys h'
      try simp only [Pr.row] at r1 r2
      refine RegD_of sch_65_6 tysOk (by kernel_rfl) ?_
      simp -implicitDefEqProofs only [go_sem, h0i, h1i, h2i, r1, r2, h, h']
      refine BrA_i (fun he => ?_) (fun he => ?_) <;> simp -implicitDefEqProofs only [go_sem, wi]
      · have he' : xs[i] = ys[i] := by
          simp only [Bool.and_eq_true, decide_eq_true_eq] at he; exact Pr.ext he.1 he.2
        refine .to [] (i + 1) rfl ?_ ?_ (by omega) ⟨h, fun j hj hl => ?_⟩ <;> (try simp -implicitDefEqProofs only [go_sem, LeTs_undef, LeTs_same, LeTs_nil])
        rcases Nat.lt_succ_iff_lt_or_eq.1 hl with hl | rfl
        · exact hz j hj hl
        · exact he'
      · have : xs ≠ ys := fun e => by subst e; simp at he
        simp [this]
    · have : xs = ys := List.ext_getElem hl fun j h1 h2 => hz j h1 (by simp at h; omega)
      simp [this]
  · have : xs ≠ ys := fun e => by subst e; simp at h
    simp [this]
theorem p_qxWaits : Plain Try.prog 23 := ⟨_, Try.func23, rfl, by decide⟩
theorem s_qxWaits (xs ys : List Wt) (hx : xs.length < 4611686018427387904) : Spec Try.prog 23 [.t (.list false 5 (xs.map Wt.row)), .t (.list false 5 (ys.map Wt.row))] (fun r => r = Bo (decide (xs = ys))) := by
  refine Spec.of tysOk mixed Try.func23 rfl (by decide) ?_
  simp -implicitDefEqProofs only [go_sem, Try.f23]
  refine BrA_i (fun h => ?_) (fun h => ?_) <;> simp -implicitDefEqProofs only [go_sem]
  · have hl : xs.length = ys.length := by have := of_decide_eq_true h; omega
    refine LoopW.slotsM [true, true, false, false, false, true, false, false, false, false, false, false, false, false, false, false, false, false, false, false, false, false, false, false, false, false] (α := Nat) (fun i => [(5, I i)]) (fun _ => []) (fun i => xs.length - i) (fun i => i ≤ xs.length ∧ ∀ j (h : j < xs.length), j < i → xs[j] = ys[j]) 0 (by simp -implicitDefEqProofs only [go_sem, LeTs_undef, LeTs_same, LeTs_nil]; try simp [LeTs]) rfl (by simp) ?_
    rintro i ⟨hi, hz⟩
    simp -implicitDefEqProofs only [go_sem]
    refine BrA_i (fun h => ?_) (fun h => ?_) <;> simp -implicitDefEqProofs only [go_sem]
    · have h : i < xs.length := by simp at h; omega
      have h' : i < ys.length := by omega
      have h0i : (0 : Int) ≤ i := by omega
      have h1i : (i : Int) < xs.length := by omega
      have h2i : (i : Int) < ys.length := by omega
      have wi : IntKind.i64.wrap ((i : Int) + 1) = ((i + 1 : Nat) : Int) := by rw [wrap64 (by omega) (by omega)]; omega
      have r1 := row_getD Wt.row xs h
      have r2 := row_getD Wt.row ys h'
      try simp only [Wt.row] at r1 r2
      refine RegD_of sch_23_6 tysOk (by kernel_rfl) ?_
      simp -implicitDefEqProofs only [go_sem, h0i, h1i, h2i, r1, r2, h, h']
      refine BrA_i (fun he => ?_) (fun he => ?_) <;> simp -implicitDefEqProofs only [go_sem, wi]
      · have he' : xs[i] = ys[i] := by
          simp only [Bool.and_eq_true, decide_eq_true_eq] at he; exact Wt.ext (Idt.ext (by simp [he]) (by simp [he])) (by simp [he]) (by simp [he]) (by simp [he])
        refine .to [] (i + 1) rfl ?_ ?_ (by omega) ⟨h, fun j hj hl => ?_⟩ <;> (try simp -implicitDefEqProofs only [go_sem, LeTs_undef, LeTs_same, LeTs_nil])
        rcases Nat.lt_succ_iff_lt_or_eq.1 hl with hl | rfl
        · exact hz j hj hl
        · exact he'
      · have : xs ≠ ys := fun e => by subst e; simp at he
        simp [this]
    · have : xs = ys := List.ext_getElem hl fun j h1 h2 => hz j h1 (by simp at h; omega)
      simp [this]
  · have : xs ≠ ys := fun e => by subst e; simp at h
    simp [this]
theorem p_qxItems : Plain Try.prog 26 := ⟨_, Try.func26, rfl, by decide⟩
theorem s_qxItems (xs ys : List It) (hx : xs.length < 4611686018427387904) (hs : ∀ x ∈ xs, x.sm) : Spec Try.prog 26 [.t (.list false 3 (xs.map It.row)), .t (.list false 3 (ys.map It.row))] (fun r => r = Bo (decide (xs = ys))) := by
  refine Spec.of tysOk mixed Try.func26 rfl (by decide) ?_
  simp -implicitDefEqProofs only [go_sem, Try.f26]
  refine BrA_i (fun h => ?_) (fun h => ?_) <;> simp -implicitDefEqProofs only [go_sem]
  · have hl : xs.length = ys.length := by have := of_decide_eq_true h; omega
    refine LoopW.slotsM [true, true, false, false, false, true, false, false, false, false, false, false, false, false, false, false, false, false, false, false, false, false, false, false, false, false, false, false, false, false, false, false, false, false, false, false, false, false, false, false, false, false] (α := Nat) (fun i => [(5, I i)]) (fun _ => []) (fun i => xs.length - i) (fun i => i ≤ xs.length ∧ ∀ j (h : j < xs.length), j < i → xs[j] = ys[j]) 0 (by simp -implicitDefEqProofs only [go_sem, LeTs_undef, LeTs_same, LeTs_nil]; try simp [LeTs]) rfl (by simp) ?_
    rintro i ⟨hi, hz⟩
    simp -implicitDefEqProofs only [go_sem]
    refine BrA_i (fun h => ?_) (fun h => ?_) <;> simp -implicitDefEqProofs only [go_sem]
    · have h : i < xs.length := by simp at h; omega
      have h' : i < ys.length := by omega
      have h0i : (0 : Int) ≤ i := by omega
      have h1i : (i : Int) < xs.length := by omega
      have h2i : (i : Int) < ys.length := by omega
      have wi : IntKind.i64.wrap ((i : Int) + 1) = ((i + 1 : Nat) : Int) := by rw [wrap64 (by omega) (by omega)]; omega
      have r1 := row_getD It.row xs h
      have r2 := row_getD It.row ys h'
      simp only [It.row] at r1 r2
      have hsx : (xs[i]).fields.length < 4611686018427387904 := hs _ (List.getElem_mem h)
      (try refine RegD_of sch_26_6 tysOk (by kernel_rfl) ?_)
      simp -implicitDefEqProofs only [go_sem, h0i, h1i, h2i, r1, r2, h, h']
      refine BrA_i (fun he => ?_) (fun he => ?_) <;> simp -implicitDefEqProofs only [go_sem, h0i, h1i, h2i, r1, r2, h, h']
      · simp only [Bool.and_eq_true, decide_eq_true_eq] at he
        refine CallW.one (s_qxFields xs[i].fields ys[i].fields hsx) p_qxFields (by first | (simp -implicitDefEqProofs only [go_sem]; done) | ((conv => lhs; simp -implicitDefEqProofs only [go_sem]); done) | (simp -implicitDefEqProofs only [go_sem]; rfl) | rfl) (by first | trivial | (simp [DeepR, DeepV, DeepVs, DeepC, DeepCs, T.scal]; done)) ?_
        simp -implicitDefEqProofs only [go_sem]
        refine BrA_i (fun hf => ?_) (fun hf => ?_) <;> simp -implicitDefEqProofs only [go_sem, wi]
        · have hf := of_decide_eq_true hf
          have he' : xs[i] = ys[i] := It.ext (Idt.ext he.1 he.2) hf
          refine .to [313, 314, 315] (i + 1) rfl ?_ ?_ (by omega) ⟨h, fun j hj hl => ?_⟩ <;> (try simp -implicitDefEqProofs only [go_sem, LeTs_undef, LeTs_same, LeTs_nil])
          rcases Nat.lt_succ_iff_lt_or_eq.1 hl with hl | rfl
          · exact hz j hj hl
          · exact he'
        · have : xs ≠ ys := fun e => by subst e; simp at hf
          simp [this]
      · have : xs ≠ ys := fun e => by subst e; simp at he
        simp [this]
    · have : xs = ys := List.ext_getElem hl fun j h1 h2 => hz j h1 (by simp at h; omega)
      simp [this]
  · have : xs ≠ ys := fun e => by subst e; simp at h
    simp [this]
theorem p_qxStream : Plain Try.prog 9 := ⟨_, Try.func9, rfl, by decide⟩
theorem s_qxStream (x y : Stm) (hx : x.sm) : Spec Try.prog 9 [x.av, y.av] (fun r => r = Bo (decide (x = y))) := by
  obtain ⟨x1, x2, x3, x4⟩ := hx
  refine Spec.of tysOk mixed Try.func9 rfl (by decide) ?_
  simp -implicitDefEqProofs only [go_sem, Try.f9]
  refine BrA_i (fun h1 => ?_) (fun h1 => ?_) <;> simp -implicitDefEqProofs only [go_sem, h1]
  · refine CallW.one (s_qxItems x.items y.items x1 x3) p_qxItems (by first | (simp -implicitDefEqProofs only [go_sem]; done) | ((conv => lhs; simp -implicitDefEqProofs only [go_sem]); done) | (simp -implicitDefEqProofs only [go_sem]; rfl) | rfl) (by first | trivial | (simp [DeepR, DeepV, DeepVs, DeepC, DeepCs, T.scal]; done)) ?_
    simp -implicitDefEqProofs only [go_sem, h1]
    refine BrA_i (fun h2 => ?_) (fun h2 => ?_) <;> simp -implicitDefEqProofs only [go_sem, h1, h2]
    · refine BrA_i (fun h3 => ?_) (fun h3 => ?_) <;> simp -implicitDefEqProofs only [go_sem, h1, h2, h3]
      · have hl : x.groups.length = y.groups.length := by have := of_decide_eq_true h3; omega
        refine LoopW.slotsM [false, false, true, true, false, true, false, false, false, false, false, false, false, false, false, false, false, false, false, false, false, false, false, false, false, false, false, false, false, false, false, false, false, false, false, false, false, false, false, false, false, false, false, false, false, false, false, false, false, false, false, false, false, false, false, false, false, false, false, false, false, false, false, false, false, false, false, false, false, false, false, false, false, false, false, false, false, false, false] (α := Nat) (fun i => [(5, I i)]) (fun _ => []) (fun i => x.groups.length - i) (fun i => i ≤ x.groups.length ∧ ∀ j (h : j < x.groups.length), j < i → x.groups[j] = y.groups[j]) 0 (by simp -implicitDefEqProofs only [go_sem, LeTs_undef, LeTs_same, LeTs_nil]; try simp [LeTs]) rfl (by simp) ?_
        rintro i ⟨hi, hz⟩
        simp -implicitDefEqProofs only [go_sem]
        refine BrA_i (fun h => ?_) (fun h => ?_) <;> simp -implicitDefEqProofs only [go_sem]
        · have h : i < x.groups.length := by simp at h; omega
          have h' : i < y.groups.length := by omega
          have h0i : (0 : Int) ≤ i := by omega
          have h1i : (i : Int) < x.groups.length := by omega
          have h2i : (i : Int) < y.groups.length := by omega
          have wi : IntKind.i64.wrap ((i : Int) + 1) = ((i + 1 : Nat) : Int) := by rw [wrap64 (by omega) (by omega)]; omega
          have r1 := row_getD Gr.row x.groups h
          have r2 := row_getD Gr.row y.groups h'
          simp only [Gr.row] at r1 r2
          have hsx : (x.groups[i]).waits.length < 4611686018427387904 := x4 _ (List.getElem_mem h)
          have no : ∀ (e : x.groups[i] = y.groups[i] → False), AV.t (T.bool false) = Bo (decide (x = y)) := fun e => by
            have : x ≠ y := fun e' => e (by subst e'; rfl)
            simp [this]
          refine RegD_of sch_9_6 tysOk (by kernel_rfl) ?_
          simp -implicitDefEqProofs only [go_sem, h0i, h1i, h2i, r1, r2, h, h']
          refine BrA_i (fun he => ?_) (fun he => ?_) <;> simp -implicitDefEqProofs only [go_sem, h0i, h1i, h2i, r1, r2, h, h', he]
          · refine BrA_i (fun hf => ?_) (fun hf => ?_) <;> simp -implicitDefEqProofs only [go_sem, h0i, h1i, h2i, r1, r2, h, h', he, hf]
            · refine CallW.one (s_qxWaits x.groups[i].waits y.groups[i].waits hsx) p_qxWaits (by first | (simp -implicitDefEqProofs only [go_sem]; done) | ((conv => lhs; simp -implicitDefEqProofs only [go_sem]); done) | (simp -implicitDefEqProofs only [go_sem]; rfl) | rfl) (by first | trivial | (simp [DeepR, DeepV, DeepVs, DeepC, DeepCs, T.scal]; done)) ?_
              simp -implicitDefEqProofs only [go_sem, he, hf]
              refine BrA_i (fun hg => ?_) (fun hg => ?_) <;> simp -implicitDefEqProofs only [go_sem, wi]
              · simp only [Bool.and_eq_true, decide_eq_true_eq] at he hf hg
                have he' : x.groups[i] = y.groups[i] := Gr.ext he (Idt.ext hf.1 hf.2) hg
                refine .to [609, 610, 611] (i + 1) rfl ?_ ?_ (by omega) ⟨h, fun j hj hl => ?_⟩ <;> (try simp -implicitDefEqProofs only [go_sem, LeTs_undef, LeTs_same, LeTs_nil])
                rcases Nat.lt_succ_iff_lt_or_eq.1 hl with hl | rfl
                · exact hz j hj hl
                · exact he'
              · exact no fun e => by rw [e] at hg; simp at hg
            · exact no fun e => by rw [e] at hf; simp at hf
          · exact no fun e => by rw [e] at he; simp at he
        · have e3 : x.groups = y.groups := List.ext_getElem hl fun j h1 h2 => hz j h1 (by simp at h; omega)
          simp only [Bool.and_eq_true, decide_eq_true_eq] at h1 h2
          have : x = y := Stm.ext (Idt.ext h1.1 h1.2) h2 e3
          simp [this]
      · have : x ≠ y := fun e => by subst e; simp at h3
        simp [this]
    · have : x ≠ y := fun e => by subst e; simp at h2
      simp [this]
  · have : x ≠ y := fun e => by subst e; simp at h1
    simp [this]
end Go.Proofs.Ytaajnbfnaoecnaa.Am
namespace Go.Proofs.Ytaajnbfnaoecnaa.Am
open Go Go.ChangeShapes Go.WideShapes Go.RowKit
def RdRow (w : World) (ts : List T) (cs : List Value) : Prop := ts.length = cs.length ∧ ∀ (j : Nat) (t : T) (v : Value), ts[j]? = some t → cs[j]? = some v → Rd w (fun b => b < w.heap.size) t v
structure Opn (P : Program) (t : TypeId) (sz : Nat) {α : Type} (row : α → List T) (G : α → Prop) : Prop where
  len : ∀ x, (row x).length = sz
  op : ∀ {H : Type} {enc : TypeId × Value → H} {W : World} {fuel : Nat} {cs : List Value} {D : DataW H} {ps : List MemPlace},
    DataW.trod enc P W 0 (fun _ => true) true fuel t cs = some (D, ps) → (∀ n ∈ DataW.weights P t D, n ≤ reachBytes) → ∃ x, RdRow W (row x) cs ∧ G x
theorem RdRow.one {w : World} {t : T} {v : Value} (h : Rd w (fun b => b < w.heap.size) t v) : RdRow w [t] [v] :=
  ⟨rfl, fun j t' v' h1 h2 => by
    cases j with
    | zero => simp at h1 h2; subst h1 h2; exact h
    | succ j => simp at h1⟩
theorem RdRow.append {w : World} {a b : List T} {c d : List Value} (h : RdRow w a c) (h' : RdRow w b d) : RdRow w (a ++ b) (c ++ d) :=
  ⟨by simp [h.1, h'.1], fun j t v h1 h2 => by
    rw [List.getElem?_append] at h1 h2
    have := h.1
    split at h1
    · rename_i hj
      rw [if_pos (by omega)] at h2
      exact h.2 j t v h1 h2
    · rename_i hj
      rw [if_neg (by omega)] at h2
      rw [this] at h1
      exact h'.2 _ t v h1 h2⟩
section
variable {P : Program} {t : TypeId}
theorem Opn.int {k : IntKind} (hu : P.underlying t = some (.int k)) : Opn P t 1 (fun x : Int => [T.int k x]) (fun x => (Lit.int k x).wf = true) where
  len := fun _ => rfl
  op := fun h _ => by
    obtain ⟨m, rfl, _, hw⟩ := DataW.trod_int hu h
    exact ⟨m, .one (.int _ _), hw⟩
theorem Opn.bool (hu : P.underlying t = some .bool) : Opn P t 1 (fun x : Bool => [T.bool x]) (fun _ => True) where
  len := fun _ => rfl
  op := fun h _ => by
    obtain ⟨m, rfl, _⟩ := DataW.trod_bool hu h
    exact ⟨m, .one (.bool _), trivial⟩
theorem Opn.string (hu : P.underlying t = some .string) : Opn P t 1 (fun x : ByteArray => [T.str x]) (fun x => x.size ≤ 140737488351232) where
  len := fun _ => rfl
  op := fun h hz => by
    obtain ⟨m, rfl, e, _⟩ := DataW.trod_string hu h
    obtain ⟨rfl, _⟩ := Prod.mk.inj e
    refine ⟨m, .one (.str _), ?_⟩
    have := hz m.data.toList.length (by simp [DataW.weights])
    simpa [reachBytes] using this
theorem Opn.slice {e : TypeId} {sz : Nat} {α : Type} {row : α → List T} {G : α → Prop} (he : Opn P e sz row G) (hu : P.underlying t = some (.slice e)) (hc : P.cellsOf e = sz) (hs : 0 < sz) {B : Nat} (hB : P.bytesOf e = B) :
    Opn P t 1 (fun xs : List α => [T.list false sz (xs.map row)]) (fun xs => xs.length * B ≤ 140737488351232 ∧ ∀ x ∈ xs, G x) where
  len := fun _ => rfl
  op := fun {H enc W fuel cs D ps} h hz => by
    rcases DataW.trod_slice hu h with ⟨rfl, _⟩ | ⟨a, len, cap, elems, rest, n, _, rfl, hx, hb, hl, hm, hlen, hel, hsp, _⟩
    · exact ⟨[], .one (.nil ..), by simp, by simp⟩
    · obtain ⟨rfl, _⟩ := Prod.mk.inj hx
      have hw0 := hz ((elems.map (·.1)).length + (rest.map (·.1)).length |>.mul (P.bytesOf e)) (by simp [DataW.weights, hu])
      have each : ∀ i, i < len → ∃ x c, RdRow W (row x) c ∧ G x ∧ c.length = sz ∧ ∀ j u, c[j]? = some u → W.cell? (a.add (i * sz + j)) = some u := by
        intro i hi
        have h1 := hel i hi
        have hil : i < elems.length := by omega
        rw [List.getElem?_eq_getElem hil] at h1
        rw [Option.bind_eq_some_iff] at h1
        obtain ⟨c, hcs, hy⟩ := h1
        have hD : ∀ m ∈ DataW.weights P e (elems[i]).1, m ≤ reachBytes := by
          intro m hmem
          refine hz m ?_
          simp only [DataW.weights, hu]
          refine List.mem_cons_of_mem _ (List.mem_append_left _ ?_)
          have : ∀ (l : List (DataW H)) (y : DataW H), y ∈ l → m ∈ DataW.weights P e y → m ∈ DataW.weightsAll P e l := by
            intro l
            induction l with
            | nil => intro y hy; cases hy
            | cons z l ih =>
              intro y hy hm2
              simp only [DataW.weightsAll, List.mem_append]
              rcases List.mem_cons.1 hy with rfl | hy
              · exact Or.inl hm2
              · exact Or.inr (ih y hy hm2)
          exact this _ _ (List.mem_map.2 ⟨elems[i], List.getElem_mem hil, rfl⟩) hmem
        obtain ⟨x, hK, hG⟩ := he.op (show DataW.trod enc P W 0 (fun _ => true) true n e c = some ((elems[i]).1, (elems[i]).2) from hy) hD
        obtain ⟨hb1, hb2, hb3⟩ := World.cells?_some hcs
        have hlen2 : c.length = sz := by rw [← hK.1, he.len]
        refine ⟨x, c, hK, hG, hlen2, fun j u hu2 => ?_⟩
        have hj := (List.getElem?_eq_some_iff.1 hu2).1
        have h3 := hb3 j (by rw [hc]; omega)
        rw [hu2] at h3
        rw [← h3, hc, Addr.add_add]
      have pick : ∀ l, l ≤ len → ∃ xs : List α, xs.length = l ∧ (∀ x ∈ xs, G x) ∧ ∀ j p, xs[j]? = some p → ∃ c, c.length = sz ∧ RdRow W (row p) c ∧ ∀ i u, c[i]? = some u → W.cell? (a.add (j * sz + i)) = some u := by
        intro l
        induction l with
        | zero => exact fun _ => ⟨[], rfl, by simp, fun j p h => by simp at h⟩
        | succ l ih =>
          intro hll
          obtain ⟨xs, h1, h2, h3⟩ := ih (by omega)
          obtain ⟨x, c, q1, q2, q3, q4⟩ := each l (by omega)
          refine ⟨xs ++ [x], by simp [h1], ?_, ?_⟩
          · intro y hy
            rcases List.mem_append.1 hy with hy | hy
            · exact h2 y hy
            · obtain rfl := List.mem_singleton.1 hy
              exact q2
          · intro j p hj
            by_cases hjl : j < xs.length
            · exact h3 j p (by rwa [List.getElem?_append_left hjl] at hj)
            · rw [List.getElem?_append_right (by omega)] at hj
              have : j - xs.length = 0 := by
                have := (List.getElem?_eq_some_iff.1 hj).1
                simpa using this
              rw [this] at hj
              have hjl2 : j = l := by omega
              subst hjl2
              obtain rfl : x = p := by simpa using hj
              exact ⟨c, q3, q1, q4⟩
      obtain ⟨xs, h1, h2, h3⟩ := pick len (Nat.le_refl _)
      subst h1
      refine ⟨xs, .one ?_, ?_, h2⟩
      · obtain ⟨ab, ao, asp⟩ := a
        have at0 : ∀ (j : Nat) (p : α), xs[j]? = some p → ∀ i, i < sz → ∃ u, W.cell? ⟨ab, ao + (j * sz + i), none⟩ = some u ∧ ∀ x, (row p)[i]? = some x → Rd W (fun b => b < W.heap.size) x u := by
          intro j p hj i hi
          obtain ⟨c, c1, c2, c3⟩ := h3 j p hj
          obtain ⟨u, hu2⟩ : ∃ u, c[i]? = some u := ⟨c[i]'(by omega), List.getElem?_eq_getElem _⟩
          have h4 := c3 i u hu2
          refine ⟨u, ?_, fun x hx => c2.2 i x u hx hu2⟩
          by_cases h0 : j * sz + i = 0
          · rw [h0] at h4 ⊢
            have : asp = none := by
              unfold World.cell? at h4
              simp only [Addr.add] at h4
              cases asp with
              | none => rfl
              | some q => simp at h4; split at h4 <;> simp at h4
            subst this
            exact h4
          · unfold Addr.add at h4
            rw [if_neg h0] at h4
            exact h4
        cases xs with
        | nil => exact .nil ..
        | cons x0 xs0 =>
          obtain ⟨u0, hu0, _⟩ := at0 0 x0 rfl 0 hs
          have hab : ab < W.heap.size := by
            unfold World.cell? at hu0
            simp only at hu0
            split at hu0
            · rename_i hh
              exact (Array.getElem?_eq_some_iff.1 hh).1
            · cases hu0
          have e1 : asp = none := by
            obtain ⟨c, c1, c2, c3⟩ := h3 0 x0 rfl
            have h4 := c3 0 (c[0]'(by omega)) (List.getElem?_eq_getElem _)
            simp only [Nat.zero_mul, Nat.add_zero, Addr.add, if_pos] at h4
            unfold World.cell? at h4
            cases asp with
            | none => rfl
            | some q => simp at h4; split at h4 <;> simp at h4
          subst e1
          have hrow : ∀ (i : Nat) (r : List T), ((x0 :: xs0).map row)[i]? = some r → ∃ p, (x0 :: xs0)[i]? = some p ∧ r = row p := by
            intro i r hr
            rw [List.getElem?_map] at hr
            cases hp : (x0 :: xs0)[i]? with
            | none => rw [hp] at hr; cases hr
            | some p => rw [hp] at hr; cases hr; exact ⟨p, rfl, rfl⟩
          have hfin := @Rd.list W (fun b => b < W.heap.size) false sz ((x0 :: xs0).map row) ab ao cap (fun i j => (W.cell? ⟨ab, ao + (i * sz + j), none⟩).getD Go.undef) (by simpa using hl) hab
            (fun i r hr => by obtain ⟨p, _, rfl⟩ := hrow i r hr; exact he.len p)
            (fun i r j x hr hx => by
              obtain ⟨p, hp, rfl⟩ := hrow i r hr
              obtain ⟨u, hu1, _⟩ := at0 i p hp j (by have := (List.getElem?_eq_some_iff.1 hx).1; rw [he.len] at this; exact this)
              simp only [hu1, Option.getD_some])
            (fun i r j x hr hx => by
              obtain ⟨p, hp, rfl⟩ := hrow i r hr
              obtain ⟨u, hu1, hu2⟩ := at0 i p hp j (by have := (List.getElem?_eq_some_iff.1 hx).1; rw [he.len] at this; exact this)
              simp only [hu1, Option.getD_some]
              exact hu2 x hx)
          rwa [List.length_map] at hfin
      have hw1 : (elems.length + rest.length) * P.bytesOf e ≤ reachBytes := by simpa using hw0
      rw [hB] at hw1
      rw [← hlen]
      exact Nat.le_trans (Nat.mul_le_mul_right _ (Nat.le_add_right _ _)) hw1
structure OpnF (P : Program) (fs : List Field) (o sz : Nat) {α : Type} (row : α → List T) (G : α → Prop) : Prop where
  len : ∀ x, (row x).length = sz
  op : ∀ {H : Type} {enc : TypeId × Value → H} {W : World} {fuel : Nat} {cs : List Value} {xs : List (DataW H × List MemPlace)},
    xs.length = fs.length → (∀ (i : Nat) (f : Field), fs[i]? = some f → DataW.trod enc P W 0 (fun _ => true) true fuel f.type ((cs.drop f.offset).take (P.cellsOf f.type)) = xs[i]?) →
    (∀ n ∈ DataW.weightsEach P (fs.map (·.type)) (xs.map (·.1)), n ≤ reachBytes) → cs.length = o + sz → ∃ x, RdRow W (row x) (cs.drop o) ∧ G x
theorem OpnF.one {f : Field} {o sz : Nat} {α : Type} {row : α → List T} {G : α → Prop} (he : Opn P f.type sz row G) (ho : f.offset = o) (hc : P.cellsOf f.type = sz) : OpnF P [f] o sz row G where
  len := he.len
  op := fun {H enc W fuel cs xs} hx h hz hl => by
    match xs, hx with
    | [y], _ =>
      have hy := h 0 f rfl
      rw [ho, hc, List.take_of_length_le (by simp; omega)] at hy
      exact he.op (show _ = some (y.1, y.2) from hy) (fun n hn => hz n (by simp only [List.map_cons, List.map_nil, DataW.weightsEach]; exact List.mem_append_left _ hn))
theorem OpnF.cons {f : Field} {r : List Field} {o sz sz2 : Nat} {α β : Type} {row : α → List T} {row2 : β → List T} {G : α → Prop} {G2 : β → Prop} (he : Opn P f.type sz row G) (ho : f.offset = o) (hc : P.cellsOf f.type = sz) (hr : OpnF P r (o + sz) sz2 row2 G2) :
    OpnF P (f :: r) o (sz + sz2) (fun x : α × β => row x.1 ++ row2 x.2) (fun x => G x.1 ∧ G2 x.2) where
  len := fun x => by rw [List.length_append, he.len, hr.len]
  op := fun {H enc W fuel cs xs} hx h hz hl => by
    match xs, hx with
    | y :: ys, hx =>
      have hl2 : cs.length = o + sz + sz2 := by omega
      have hy := h 0 f rfl
      rw [ho, hc] at hy
      obtain ⟨x, hK, hG⟩ := he.op (show _ = some (y.1, y.2) from hy) (fun n hn => hz n (by simp only [List.map_cons, DataW.weightsEach]; exact List.mem_append_left _ hn))
      obtain ⟨x2, hK2, hG2⟩ := hr.op (xs := ys) (by simpa using hx) (fun i g hg => h (i + 1) g hg) (fun n hn => hz n (by simp only [List.map_cons, DataW.weightsEach]; exact List.mem_append_right _ hn)) hl2
      refine ⟨(x, x2), ?_, hG, hG2⟩
      have := hK.append hK2
      rwa [← List.drop_drop, List.take_append_drop] at this
theorem Opn.struct {fs : Array Field} {sz : Nat} {α β : Type} {row : α → List T} {row2 : β → List T} {G : α → Prop} {G2 : β → Prop} (g : α → β) (hf : OpnF P fs.toList 0 sz row G) (hu : P.underlying t = some (.struct fs)) (hg : ∀ a, row2 (g a) = row a) (hG2 : ∀ a, G a → G2 (g a)) (hlen : ∀ b, (row2 b).length = sz) (hc : P.cellsOf t = sz) :
    Opn P t sz row2 G2 where
  len := hlen
  op := fun {H enc W fuel cs D ps} h hz => by
    obtain ⟨xs, n, _, hx, hl, hm, he⟩ := DataW.trod_struct hu h
    obtain ⟨rfl, _⟩ := Prod.mk.inj hx
    obtain ⟨x, hK, hG⟩ := hf.op (xs := xs) (by simpa using hm) (fun i f hf => he i f (by simpa using hf)) (fun n hn => hz n (by simp only [DataW.weights, hu]; exact hn)) (by omega)
    exact ⟨g x, by rw [hg]; simpa using hK, hG2 x hG⟩
end
theorem each_of {H : Type} {P : Program} {ts : List TypeId} {ds : List (DataW H)} (h : (DataW.weightsEach P ts ds).all (· ≤ reachBytes) = true) {j : Nat} {t : TypeId} {D : DataW H} (ht : ts[j]? = some t) (hd : ds[j]? = some D) : ∀ n ∈ DataW.weights P t D, n ≤ reachBytes := by
  intro n hn
  have := List.all_eq_true.1 h _ (DataW.weights_mem_each ht hd n hn)
  simpa using this
theorem arg_one {W : World} {t : T} {v : Value} (hv : v.cells.toList = [v]) (h : RdRow W [t] v.cells.toList) : AVr (inCx W fun b => b < W.heap.size) (.t t) v := by
  rw [hv] at h
  exact h.2 0 t v rfl rfl
theorem out_bool {w w' : World} {D : Dm} {b : Bool} {v : Value} (h : Out w D w' (.t (.bool b)) v) : v = .bool b ∧ Below w.heap.size w w' := by
  obtain ⟨h1, col, _, h2⟩ := h
  refine ⟨?_, h1.os, h1.tape, h1.output, h1.size, fun k hk => h1.block k hk (by simp)⟩
  have h3 : Rd (outCx w D w' col).w (outCx w D w' col).Dp (.bool b) v := h2
  cases h3
  rfl
end Go.Proofs.Ytaajnbfnaoecnaa.Am
namespace Go.Proofs.Ytaajnbfnaoecnaa.Am
open Go
set_option linter.unusedVariables false
set_option linter.unusedSimpArgs false
set_option maxRecDepth 100000
theorem lG_mk {α : Type} {G : α → Prop} {B : Nat} {xs : List α} (hB : 1 ≤ B) (h : xs.length * B ≤ 140737488351232 ∧ ∀ x ∈ xs, G x) : lG G xs :=
  ⟨Nat.le_trans (Nat.le_mul_of_pos_right _ hB) h.1, h.2⟩
def Stm.row (x : Stm) : List T := [.int .i64 x.last.t, .int .i64 x.last.n, .list false 3 (x.items.map It.row), .list false 4 (x.groups.map Gr.row)]
theorem Opn.weaken {P : Program} {t : TypeId} {sz : Nat} {α : Type} {row : α → List T} {G G' : α → Prop} (h : Opn P t sz row G) (hg : ∀ x, G x → G' x) : Opn P t sz row G' :=
  ⟨h.len, fun h1 h2 => by obtain ⟨x, a, b⟩ := h.op h1 h2; exact ⟨x, a, hg x b⟩⟩
end Go.Proofs.Ytaajnbfnaoecnaa.Am
namespace Go.Proofs.Ytaajnbfnaoecnaa.Am
open Go
set_option linter.unusedVariables false
set_option linter.unusedSimpArgs false
set_option maxRecDepth 100000
def isB (x : Int) : Prop := 0 ≤ x ∧ x ≤ 255
theorem opn_byte : Opn Try.prog 5 1 (fun x : Int => [T.int .u8 x]) isB :=
  (Opn.int Try.underlying5).weaken fun x h => by
    simp [Lit.wf, IntKind.min, IntKind.max, IntKind.signed, IntKind.bits] at h
    unfold isB; omega
theorem opn_bytes : Opn Try.prog 22 1 (fun xs : List Int => [T.list false 1 (xs.map fun b => [T.int .u8 b])]) (lG isB) :=
  (Opn.slice opn_byte Try.underlying22 (by kernel_rfl) (by omega) (B := 1) (by kernel_rfl)).weaken fun _ => lG_mk (by omega)
end Go.Proofs.Ytaajnbfnaoecnaa.Am
namespace Go.Proofs.Ytaajnbfnaoecnaa.Am
open Go
set_option maxRecDepth 100000
set_option maxHeartbeats 4000000
set_option linter.unusedSimpArgs false
set_option linter.unusedVariables false
theorem newM_not {s : Stm} (hok : streamOkM s = true) {name : ByteArray} {fr : Idt} (h : (newM s name fr).2 = false) : (newM s name fr).1 = s := by
  unfold newM at h ⊢
  rw [if_pos hok] at h ⊢
  split at h
  · simp at h
  · rename_i hx; rw [if_neg hx]
theorem s_FnGroupNew (bs : List Int) (hb : lG isB bs) : Spec Try.prog 5 [by8 bs] (fun r => r = Bo true) := by
  refine Spec.of tysOk mixed Try.func5 rfl (by decide) ?_
  simp -implicitDefEqProofs only [go_sem, Try.f5]
  refine BrA_i (fun h1 => ?_) (fun h1 => ?_) <;> simp -implicitDefEqProofs only [go_sem]
  have h1 : bs.length ≤ 1048576 := by have := of_decide_eq_false h1; omega
  refine CallW.psm (s_DrawGroupNew bs hb.2 h1) p_DrawGroupNew (by first | (simp -implicitDefEqProofs only [go_sem]; done) | ((conv => lhs; simp -implicitDefEqProofs only [go_sem]); done) | (simp -implicitDefEqProofs only [go_sem]; rfl) | rfl) rfl ?_
  rintro r ⟨s, name, fr, e, hs⟩
  rw [e]
  clear e r
  simp -implicitDefEqProofs only [go_sem]
  have hsm : s.sm := hs.md.sm.1
  have hd := newM_md hs.md name fr
  have hdw : ∀ g ∈ (newM s name fr).1.groups, g.waits.length < 2000000 := fun g hg => by have := hd.2.2.2 g hg; omega
  refine CallW.ps (s_GroupNew s name fr hs.md hs.hw) p_GroupNew (by first | (simp -implicitDefEqProofs only [go_sem]; done) | ((conv => lhs; simp -implicitDefEqProofs only [go_sem]); done) | (simp -implicitDefEqProofs only [go_sem]; rfl) | rfl) rfl ?_
  rintro _ rfl
  simp -implicitDefEqProofs only [go_sem]
  refine CallW.ps (s_sGroupNew s name fr hs.md hs.hw) p_sGroupNew (by first | (simp -implicitDefEqProofs only [go_sem]; done) | ((conv => lhs; simp -implicitDefEqProofs only [go_sem]); done) | (simp -implicitDefEqProofs only [go_sem]; rfl) | rfl) rfl ?_
  intro r hr
  rw [newR_share s name fr r hr]
  clear hr r
  simp -implicitDefEqProofs only [go_sem, eq_self, decide_true, beq_self_eq_true, Bool.not_true]
  refine CallW.one (s_qxStream (newM s name fr).1 (newM s name fr).1 hd.sm.1) p_qxStream (by first | (simp -implicitDefEqProofs only [go_sem]; done) | ((conv => lhs; simp -implicitDefEqProofs only [go_sem]); done) | (simp -implicitDefEqProofs only [go_sem]; rfl) | rfl) (by first | trivial | (simp [DeepR, DeepV, DeepVs, DeepC, DeepCs, T.scal]; done)) ?_
  simp -implicitDefEqProofs only [go_sem, eq_self, decide_true, Bool.not_true]
  refine CallW.one (s_sStreamOk s hsm hs.hw) p_sStreamOk (by first | (simp -implicitDefEqProofs only [go_sem]; done) | ((conv => lhs; simp -implicitDefEqProofs only [go_sem]); done) | (simp -implicitDefEqProofs only [go_sem]; rfl) | rfl) (by first | trivial | (simp [DeepR, DeepV, DeepVs, DeepC, DeepCs, T.scal]; done)) ?_
  cases hok : streamOkM s
  · simp -implicitDefEqProofs only [go_sem, Bool.not_false, eq_self, decide_true, beq_self_eq_true]
    refine CallW.one (s_qxStream (newM s name fr).1 (newM s name fr).1 hd.sm.1) p_qxStream (by first | (simp -implicitDefEqProofs only [go_sem]; done) | ((conv => lhs; simp -implicitDefEqProofs only [go_sem]); done) | (simp -implicitDefEqProofs only [go_sem]; rfl) | rfl) (by first | trivial | (simp [DeepR, DeepV, DeepVs, DeepC, DeepCs, T.scal]; done)) ?_
    simp -implicitDefEqProofs only [go_sem, eq_self, decide_true, Bool.not_true]
  · simp -implicitDefEqProofs only [go_sem, Bool.not_true]
    cases hn : (newM s name fr).2
    · have hN := newM_not hok hn
      simp -implicitDefEqProofs only [go_sem, Bool.not_false]
      refine CallW.one (s_qxStream (newM s name fr).1 s hd.sm.1) p_qxStream (by first | (simp -implicitDefEqProofs only [go_sem]; done) | ((conv => lhs; simp -implicitDefEqProofs only [go_sem]); done) | (simp -implicitDefEqProofs only [go_sem]; rfl) | rfl) (by first | trivial | (simp [DeepR, DeepV, DeepVs, DeepC, DeepCs, T.scal]; done)) ?_
      simp -implicitDefEqProofs only [go_sem, hN, eq_self, decide_true]
    obtain ⟨X, hX⟩ : ∃ X, X = (newM s name fr).1 := ⟨_, rfl⟩
    have hNX : newM s name fr = (X, true) := by rw [hX, ← hn]
    obtain ⟨f1, f2, f3, f4, f5, f6⟩ := newM_facts hok name fr hNX
    rw [← hX] at hd hdw
    rw [← hX]
    simp -implicitDefEqProofs only [go_sem, Bool.not_true]
    refine CallW.ps (s_GroupNew X name fr hd hdw) p_GroupNew (by first | (simp -implicitDefEqProofs only [go_sem]; done) | ((conv => lhs; simp -implicitDefEqProofs only [go_sem]); done) | (simp -implicitDefEqProofs only [go_sem]; rfl) | rfl) rfl ?_
    rintro _ rfl
    simp -implicitDefEqProofs only [go_sem, f2]
    refine CallW.ps (s_GroupRead X name ⟨#[97, 110, 110]⟩ 0 100 hd hdw) p_GroupRead (by first | (simp -implicitDefEqProofs only [go_sem]; done) | ((conv => lhs; simp -implicitDefEqProofs only [go_sem]); done) | (simp -implicitDefEqProofs only [go_sem]; rfl) | rfl) rfl ?_
    rintro _ rfl
    simp -implicitDefEqProofs only [go_sem, f3]
    have hgl := hs.2.1
    have hil := hs.1
    refine LoopW.slotsM [false, false, false, true, true, true, true, false, false, false, false, true, false, true, true, false, false, false, false, false, false, false, false, false, false, false, false, false, false, false, false, false, false, false, false, false, false, false, false, false, false, false, false, false, false, false, false, false, false, false, false, false, false, false, false, false, false, false, false, false, false, false, false, false, false, false, false, false, false, false, false, false, false, false, false, false, false, false, false, false, false, false, false, false, false, false, false, false, false, false, false, false, false, false, false, false, false, false, false, false, false, false, false, false, false, false, false, false, false, false, false, false, false, false, false, false, false, false, false, false, false, false, false, false, false, false, false, false, false, false, false, false, false, false, false, false, false, false, false, false, false, false, false, false, false, false, false, false, false, false, false, false, false, false, false] (α := Nat) (fun i => [(14, I i)]) (fun i => []) (fun i => s.groups.length - i) (fun i => i ≤ s.groups.length) 0 (by simp -implicitDefEqProofs only [go_sem, LeTs_undef, LeTs_same, LeTs_nil]; try simp [LeTs]) rfl (by omega) ?_
    intro i hi
    simp -implicitDefEqProofs only [go_sem]
    refine BrA_i (fun h => ?_) (fun h => ?_) <;> simp -implicitDefEqProofs only [go_sem]
    · skip
      have h : i < s.groups.length := by simp at h; omega
      have h0i : (0 : Int) ≤ i := by omega
      have h1i : (i : Int) < s.groups.length := by omega
      have wi : IntKind.i64.wrap ((i : Int) + 1) = ((i + 1 : Nat) : Int) := by rw [wrap64 (by omega) (by omega)]; omega
      have r1 := row_getD Gr.row s.groups h
      simp only [Gr.row] at r1
      have hwi := f4 _ (List.getElem_mem h)
      have hsz := hs.hw _ (List.getElem_mem h)
      refine RegD_of sch_5_15 tysOk (by kernel_rfl) ?_
      simp -implicitDefEqProofs only [go_sem, h0i, h1i, r1, h]
      (repeat' (with_reducible refine And.intro ?_ ?_))
      all_goals
        refine CallW.ps (s_GroupWaits X s.groups[i].name ⟨#[]⟩ hd hdw) p_GroupWaits (by first | (simp -implicitDefEqProofs only [go_sem]; done) | ((conv => lhs; simp -implicitDefEqProofs only [go_sem]); done) | (simp -implicitDefEqProofs only [go_sem]; rfl) | rfl) rfl ?_
        rintro _ rfl
        simp -implicitDefEqProofs only [go_sem, hwi, h0i, h1i, r1, h]
      (repeat' (with_reducible refine And.intro ?_ ?_))
      all_goals
        refine CallW.one (s_qxWaits s.groups[i].waits s.groups[i].waits (by omega)) p_qxWaits (by first | (simp -implicitDefEqProofs only [go_sem]; done) | ((conv => lhs; simp -implicitDefEqProofs only [go_sem]); done) | (simp -implicitDefEqProofs only [go_sem]; rfl) | rfl) (by first | trivial | (simp [DeepR, DeepV, DeepVs, DeepC, DeepCs, T.scal]; done)) ?_
        simp -implicitDefEqProofs only [go_sem, eq_self, decide_true, Bool.not_true, wi]
        refine .to [753, 754, 755, 809, 810, 811] (i + 1) rfl ?_ ?_ (by omega) (by omega) <;> simp -implicitDefEqProofs only [go_sem, LeTs_undef, LeTs_same, LeTs_nil]
    · refine LoopW.slotsM [false, false, false, true, true, true, true, false, false, false, false, true, false, true, false, true, true, false, false, false, false, false, false, false, false, false, false, false, false, false, false, false, false, false, false, false, false, false, false, false, false, false, false, false, false, false, false, false, false, false, false, false, false, false, false, false, false, false, false, false, false, false, false, false, false, false, false, false, false, false, false, false, false, false, false, false, false, false, false, false, false, false, false, false, false, false, false, false, false, false, false, false, false, false, false, false, false, false, false, false, false, false, false, false, false, false, false, false, false, false, false, false, false, false, false, false, false, false, false, false, false, false, false, false, false, false, false, false, false, false, false, false, false, false, false, false, false, false, false, false, false, false, false, false, false, false, false, false, false, false, false, false, false, false, false] (α := Nat) (fun i => [(16, I i)]) (fun i => [(824, .rows 3 (((s.items.take i).filter (fun x => ltM fr x.id)).map It.row))]) (fun i => s.items.length - i) (fun i => i ≤ s.items.length) 0 (by simp -implicitDefEqProofs only [go_sem, LeTs_undef, LeTs_same, LeTs_nil]; try simp [LeTs]) (by simp -implicitDefEqProofs only [go_sem, List.take_zero, List.filter_nil, List.map_nil]) (by omega) ?_
      clear hi h
      intro i hi
      simp -implicitDefEqProofs only [go_sem]
      refine BrA_i (fun h => ?_) (fun h => ?_) <;> simp -implicitDefEqProofs only [go_sem]
      · skip
        have h : i < s.items.length := by simp at h; omega
        have h0i : (0 : Int) ≤ i := by omega
        have h1i : (i : Int) < s.items.length := by omega
        have wi : IntKind.i64.wrap ((i : Int) + 1) = ((i + 1 : Nat) : Int) := by rw [wrap64 (by omega) (by omega)]; omega
        have hr := row_getD It.row s.items h
        simp only [It.row] at hr
        have ft := filter_take (fun x : It => ltM fr x.id) s.items h
        have hle : ((s.items.take i).filter (fun x => ltM fr x.id)).length ≤ i := Nat.le_trans (List.length_filter_le _ _) (by simp; omega)
        have hroom : roomy (((s.items.take i).filter (fun x => ltM fr x.id)).length + 1) 40 := by unfold roomy; omega
        refine RegD_of sch_5_21 tysOk (by kernel_rfl) ?_
        simp -implicitDefEqProofs only [go_sem, h0i, h1i, hr, h]
        (repeat' (with_reducible refine And.intro ?_ ?_))
        all_goals
          refine CallW.one (s_IdLess fr.t fr.n s.items[i].id.t s.items[i].id.n) p_IdLess (by first | (simp -implicitDefEqProofs only [go_sem]; done) | ((conv => lhs; simp -implicitDefEqProofs only [go_sem]); done) | (simp -implicitDefEqProofs only [go_sem]; rfl) | rfl) (by first | trivial | (simp [DeepR, DeepV, DeepVs, DeepC, DeepCs, T.scal]; done)) ?_
          simp -implicitDefEqProofs only [go_sem]
        all_goals
          refine BrA_i (fun ha => ?_) (fun ha => ?_) <;> simp -implicitDefEqProofs only [go_sem, ha, h0i, h1i, hr, h, hroom]
          · have hp : ltM fr s.items[i].id = true := ha
            have ef : (s.items.take (i + 1)).filter (fun x => ltM fr x.id) = (s.items.take i).filter (fun x => ltM fr x.id) ++ [s.items[i]] := by rw [ft, if_pos hp]
            have e2 : ((s.items.take i).filter (fun x => ltM fr x.id)).map It.row ++ [[T.int .i64 s.items[i].id.t, T.int .i64 s.items[i].id.n, T.list false 2 (s.items[i].fields.map Pr.row)]] = ((s.items.take (i + 1)).filter (fun x => ltM fr x.id)).map It.row := by rw [ef, List.map_append]; rfl
            simp -implicitDefEqProofs only [go_sem, wi, e2]
            try refine ⟨hroom, ?_⟩
            refine .to [1000, 1008, 945, 946, 947] (i + 1) rfl ?_ ?_ (by omega) (by omega) <;> simp -implicitDefEqProofs only [go_sem, LeTs_undef, LeTs_same, LeTs_nil, e2]
          · have hp : ltM fr s.items[i].id = false := ha
            have ef : (s.items.take (i + 1)).filter (fun x => ltM fr x.id) = (s.items.take i).filter (fun x => ltM fr x.id) := by rw [ft, if_neg (by simp [hp]), List.append_nil]
            simp -implicitDefEqProofs only [go_sem, wi]
            refine .to [1000, 1008, 945, 946, 947] (i + 1) rfl ?_ ?_ (by omega) (by omega) <;> simp -implicitDefEqProofs only [go_sem, LeTs_undef, LeTs_same, LeTs_nil, ef]
      · have h : i = s.items.length := by simp at h; omega
        subst h
        rw [List.take_length] at *
        have hF : (s.items.filter (fun x => ltM fr x.id)).length ≤ s.items.length := List.length_filter_le _ _
        have hFs : ∀ x ∈ s.items.filter (fun x => ltM fr x.id), x.sm := fun x hx => hsm.2.2.1 x (List.mem_filter.1 hx).1
        have wl : IntKind.i64.wrap ((s.groups.length : Int) + 1) = (s.groups.length : Int) + 1 := wrap64 (by omega) (by omega)
        have hle : ((X.groups.length : Int) = (s.groups.length : Int) + 1) = True := eq_true (by omega)
        refine CallW.one (s_StreamOk X hd.sm.1 hdw) p_StreamOk (by first | (simp -implicitDefEqProofs only [go_sem]; done) | ((conv => lhs; simp -implicitDefEqProofs only [go_sem]); done) | (simp -implicitDefEqProofs only [go_sem]; rfl) | rfl) (by first | trivial | (simp [DeepR, DeepV, DeepVs, DeepC, DeepCs, T.scal]; done)) ?_
        simp -implicitDefEqProofs only [go_sem, f1, Bool.not_false]
        refine CallW.ps (s_GroupWaits X name ⟨#[]⟩ hd hdw) p_GroupWaits (by first | (simp -implicitDefEqProofs only [go_sem]; done) | ((conv => lhs; simp -implicitDefEqProofs only [go_sem]); done) | (simp -implicitDefEqProofs only [go_sem]; rfl) | rfl) rfl ?_
        rintro _ rfl
        have z0 : (((0 : Nat) : Int) = 0) = True := eq_true rfl
        simp -implicitDefEqProofs only [go_sem, f5, List.map_nil, List.length_nil, z0, eq_self, decide_true]
        refine CallW.one (s_qxItems (s.items.filter (fun x => ltM fr x.id)) (s.items.filter (fun x => ltM fr x.id)) (by omega) hFs) p_qxItems (by first | (simp -implicitDefEqProofs only [go_sem]; done) | ((conv => lhs; simp -implicitDefEqProofs only [go_sem]); done) | (simp -implicitDefEqProofs only [go_sem]; rfl) | rfl) (by first | trivial | (simp [DeepR, DeepV, DeepVs, DeepC, DeepCs, T.scal]; done)) ?_
        simp -implicitDefEqProofs only [go_sem, eq_self, decide_true, wl, hle, beq_self_eq_true]
        try (simp; omega)
end Go.Proofs.Ytaajnbfnaoecnaa.Am
