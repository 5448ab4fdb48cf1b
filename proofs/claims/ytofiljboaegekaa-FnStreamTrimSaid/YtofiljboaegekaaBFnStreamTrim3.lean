/- Texts of this claim, packed: walks and laws that its row stands on. Each states its own conditions. -/
import Derived.Below
import Derived.ChangeArms
import Derived.ChangeOld
import Derived.ChangeSlices
import Derived.DataElems
import Derived.OpenShut
import Derived.ProofKit
import Derived.ShutString
import Derived.SizedLaws
import Derived.Test.YtofiljboaegekaaBFnStreamTrim2
namespace Go.Proofs.Ytofiljboaegekaa.Am
open Go
set_option maxRecDepth 100000
set_option maxHeartbeats 1000000
set_option linter.unusedSimpArgs false
set_option linter.unusedVariables false
theorem p_qxFields : Plain Try.prog 38 := ⟨_, Try.func38, rfl, by decide⟩
theorem s_qxFields (xs ys : List Pr) (hx : xs.length < 4611686018427387904) : Spec Try.prog 38 [.t (.list false 2 (xs.map Pr.row)), .t (.list false 2 (ys.map Pr.row))] (fun r => r = Bo (decide (xs = ys))) := by
  refine Spec.of tysOk mixed Try.func38 rfl (by decide) ?_
  simp -implicitDefEqProofs only [go_sem, Try.f38]
  refine BrA_i (fun h => ?_) (fun h => ?_) <;> simp -implicitDefEqProofs only [go_sem]
  · have hl : xs.length = ys.length := by have := of_decide_eq_true h; omega
    refine LoopW.slotsM [true, true, false, false, false, true, false, false, false, false, false, false, false, false, false, false, false, false, false, false, false, false, false, false, false, false] (α := Nat) (fun i => [(5, I i)]) (fun _ => []) (fun i => xs.length - i) (fun i => i ≤ xs.length ∧ ∀ j (h : j < xs.length), j < i → xs[j] = ys[j]) 0 (by simp -implicitDefEqProofs only [go_sem, LeTs_undef, LeTs_same, LeTs_nil]; try simp [LeTs]) rfl (by simp) ?_
    rintro i ⟨hi, hz⟩
    simp -implicitDefEqProofs only [go_sem]
    refine BrA_i (fun h => ?_) (fun h => ?_) <;> simp -implicitDefEqProofs only [go_sem]
    · have h : i < xs.length := by simp at h; omega
      have h' : i < ys.length := by omega
      have h0i : (0 : Int) ≤ i := by omega
      have h1i : (i : Int) < xs.length := by omega
      have h2i : (i : Int) < ys.length := by omega
      have wi : IntKind.i64.wrap ((i : Int) + 1) = ((i + 1 : Nat) : Int) := by rw [wrap64 (by omega) (by omega)]; omega
      have r1 := row_getD Pr.row xs h
      have r2 := row_getD Pr.row ys h'
      try simp only [Pr.row] at r1 r2
      refine RegD_of sch_38_6 tysOk (by kernel_rfl) ?_
      simp -implicitDefEqProofs only [go_sem, h0i, h1i, h2i, r1, r2, h, h']
      refine BrA_i (fun he => ?_) (fun he => ?_) <;> simp -implicitDefEqProofs only [go_sem, wi]
      · have he' : xs[i] = ys[i] := by
          simp only [Bool.and_eq_true, decide_eq_true_eq] at he; exact Pr.ext he.1 he.2
        refine .to [] (i + 1) rfl ?_ ?_ (by omega) ⟨h, fun j hj hl => ?_⟩ <;> (try simp -implicitDefEqProofs only [go_sem, LeTs_undef, LeTs_same, LeTs_nil])
        rcases Nat.lt_succ_iff_lt_or_eq.1 hl with hl | rfl
        · exact hz j hj hl
        · exact he'
      · have : xs ≠ ys := fun e => by subst e; simp at he
        simp [this]
    · have : xs = ys := List.ext_getElem hl fun j h1 h2 => hz j h1 (by simp at h; omega)
      simp [this]
  · have : xs ≠ ys := fun e => by subst e; simp at h
    simp [this]
theorem p_qxWaits : Plain Try.prog 27 := ⟨_, Try.func27, rfl, by decide⟩
theorem s_qxWaits (xs ys : List Wt) (hx : xs.length < 4611686018427387904) : Spec Try.prog 27 [.t (.list false 5 (xs.map Wt.row)), .t (.list false 5 (ys.map Wt.row))] (fun r => r = Bo (decide (xs = ys))) := by
  refine Spec.of tysOk mixed Try.func27 rfl (by decide) ?_
  simp -implicitDefEqProofs only [go_sem, Try.f27]
  refine BrA_i (fun h => ?_) (fun h => ?_) <;> simp -implicitDefEqProofs only [go_sem]
  · have hl : xs.length = ys.length := by have := of_decide_eq_true h; omega
    refine LoopW.slotsM [true, true, false, false, false, true, false, false, false, false, false, false, false, false, false, false, false, false, false, false, false, false, false, false, false, false] (α := Nat) (fun i => [(5, I i)]) (fun _ => []) (fun i => xs.length - i) (fun i => i ≤ xs.length ∧ ∀ j (h : j < xs.length), j < i → xs[j] = ys[j]) 0 (by simp -implicitDefEqProofs only [go_sem, LeTs_undef, LeTs_same, LeTs_nil]; try simp [LeTs]) rfl (by simp) ?_
    rintro i ⟨hi, hz⟩
    simp -implicitDefEqProofs only [go_sem]
    refine BrA_i (fun h => ?_) (fun h => ?_) <;> simp -implicitDefEqProofs only [go_sem]
    · have h : i < xs.length := by simp at h; omega
      have h' : i < ys.length := by omega
      have h0i : (0 : Int) ≤ i := by omega
      have h1i : (i : Int) < xs.length := by omega
      have h2i : (i : Int) < ys.length := by omega
      have wi : IntKind.i64.wrap ((i : Int) + 1) = ((i + 1 : Nat) : Int) := by rw [wrap64 (by omega) (by omega)]; omega
      have r1 := row_getD Wt.row xs h
      have r2 := row_getD Wt.row ys h'
      try simp only [Wt.row] at r1 r2
      refine RegD_of sch_27_6 tysOk (by kernel_rfl) ?_
      simp -implicitDefEqProofs only [go_sem, h0i, h1i, h2i, r1, r2, h, h']
      refine BrA_i (fun he => ?_) (fun he => ?_) <;> simp -implicitDefEqProofs only [go_sem, wi]
      · have he' : xs[i] = ys[i] := by
          simp only [Bool.and_eq_true, decide_eq_true_eq] at he; exact Wt.ext (Idt.ext (by simp [he]) (by simp [he])) (by simp [he]) (by simp [he]) (by simp [he])
        refine .to [] (i + 1) rfl ?_ ?_ (by omega) ⟨h, fun j hj hl => ?_⟩ <;> (try simp -implicitDefEqProofs only [go_sem, LeTs_undef, LeTs_same, LeTs_nil])
        rcases Nat.lt_succ_iff_lt_or_eq.1 hl with hl | rfl
        · exact hz j hj hl
        · exact he'
      · have : xs ≠ ys := fun e => by subst e; simp at he
        simp [this]
    · have : xs = ys := List.ext_getElem hl fun j h1 h2 => hz j h1 (by simp at h; omega)
      simp [this]
  · have : xs ≠ ys := fun e => by subst e; simp at h
    simp [this]
theorem p_qxItems : Plain Try.prog 31 := ⟨_, Try.func31, rfl, by decide⟩
theorem s_qxItems (xs ys : List It) (hx : xs.length < 4611686018427387904) (hs : ∀ x ∈ xs, x.sm) : Spec Try.prog 31 [.t (.list false 3 (xs.map It.row)), .t (.list false 3 (ys.map It.row))] (fun r => r = Bo (decide (xs = ys))) := by
  refine Spec.of tysOk mixed Try.func31 rfl (by decide) ?_
  simp -implicitDefEqProofs only [go_sem, Try.f31]
  refine BrA_i (fun h => ?_) (fun h => ?_) <;> simp -implicitDefEqProofs only [go_sem]
  · have hl : xs.length = ys.length := by have := of_decide_eq_true h; omega
    refine LoopW.slotsM [true, true, false, false, false, true, false, false, false, false, false, false, false, false, false, false, false, false, false, false, false, false, false, false, false, false, false, false, false, false, false, false, false, false, false, false, false, false, false, false, false, false] (α := Nat) (fun i => [(5, I i)]) (fun _ => []) (fun i => xs.length - i) (fun i => i ≤ xs.length ∧ ∀ j (h : j < xs.length), j < i → xs[j] = ys[j]) 0 (by simp -implicitDefEqProofs only [go_sem, LeTs_undef, LeTs_same, LeTs_nil]; try simp [LeTs]) rfl (by simp) ?_
    rintro i ⟨hi, hz⟩
    simp -implicitDefEqProofs only [go_sem]
    refine BrA_i (fun h => ?_) (fun h => ?_) <;> simp -implicitDefEqProofs only [go_sem]
    · have h : i < xs.length := by simp at h; omega
      have h' : i < ys.length := by omega
      have h0i : (0 : Int) ≤ i := by omega
      have h1i : (i : Int) < xs.length := by omega
      have h2i : (i : Int) < ys.length := by omega
      have wi : IntKind.i64.wrap ((i : Int) + 1) = ((i + 1 : Nat) : Int) := by rw [wrap64 (by omega) (by omega)]; omega
      have r1 := row_getD It.row xs h
      have r2 := row_getD It.row ys h'
      simp only [It.row] at r1 r2
      have hsx : (xs[i]).fields.length < 4611686018427387904 := hs _ (List.getElem_mem h)
      (try refine RegD_of sch_31_6 tysOk (by kernel_rfl) ?_)
      simp -implicitDefEqProofs only [go_sem, h0i, h1i, h2i, r1, r2, h, h']
      refine BrA_i (fun he => ?_) (fun he => ?_) <;> simp -implicitDefEqProofs only [go_sem, h0i, h1i, h2i, r1, r2, h, h']
      · simp only [Bool.and_eq_true, decide_eq_true_eq] at he
        refine CallW.one (s_qxFields xs[i].fields ys[i].fields hsx) p_qxFields (by first | (simp -implicitDefEqProofs only [go_sem]; done) | ((conv => lhs; simp -implicitDefEqProofs only [go_sem]); done) | (simp -implicitDefEqProofs only [go_sem]; rfl) | rfl) (by first | trivial | (simp [DeepR, DeepV, DeepVs, DeepC, DeepCs, T.scal]; done)) ?_
        simp -implicitDefEqProofs only [go_sem]
        refine BrA_i (fun hf => ?_) (fun hf => ?_) <;> simp -implicitDefEqProofs only [go_sem, wi]
        · have hf := of_decide_eq_true hf
          have he' : xs[i] = ys[i] := It.ext (Idt.ext he.1 he.2) hf
          refine .to [313, 314, 315] (i + 1) rfl ?_ ?_ (by omega) ⟨h, fun j hj hl => ?_⟩ <;> (try simp -implicitDefEqProofs only [go_sem, LeTs_undef, LeTs_same, LeTs_nil])
          rcases Nat.lt_succ_iff_lt_or_eq.1 hl with hl | rfl
          · exact hz j hj hl
          · exact he'
        · have : xs ≠ ys := fun e => by subst e; simp at hf
          simp [this]
      · have : xs ≠ ys := fun e => by subst e; simp at he
        simp [this]
    · have : xs = ys := List.ext_getElem hl fun j h1 h2 => hz j h1 (by simp at h; omega)
      simp [this]
  · have : xs ≠ ys := fun e => by subst e; simp at h
    simp [this]
theorem p_qxStream : Plain Try.prog 37 := ⟨_, Try.func37, rfl, by decide⟩
theorem s_qxStream (x y : Stm) (hx : x.sm) : Spec Try.prog 37 [x.av, y.av] (fun r => r = Bo (decide (x = y))) := by
  obtain ⟨x1, x2, x3, x4⟩ := hx
  refine Spec.of tysOk mixed Try.func37 rfl (by decide) ?_
  simp -implicitDefEqProofs only [go_sem, Try.f37]
  refine BrA_i (fun h1 => ?_) (fun h1 => ?_) <;> simp -implicitDefEqProofs only [go_sem, h1]
  · refine CallW.one (s_qxItems x.items y.items x1 x3) p_qxItems (by first | (simp -implicitDefEqProofs only [go_sem]; done) | ((conv => lhs; simp -implicitDefEqProofs only [go_sem]); done) | (simp -implicitDefEqProofs only [go_sem]; rfl) | rfl) (by first | trivial | (simp [DeepR, DeepV, DeepVs, DeepC, DeepCs, T.scal]; done)) ?_
    simp -implicitDefEqProofs only [go_sem, h1]
    refine BrA_i (fun h2 => ?_) (fun h2 => ?_) <;> simp -implicitDefEqProofs only [go_sem, h1, h2]
    · refine BrA_i (fun h3 => ?_) (fun h3 => ?_) <;> simp -implicitDefEqProofs only [go_sem, h1, h2, h3]
      · have hl : x.groups.length = y.groups.length := by have := of_decide_eq_true h3; omega
        refine LoopW.slotsM [false, false, true, true, false, true, false, false, false, false, false, false, false, false, false, false, false, false, false, false, false, false, false, false, false, false, false, false, false, false, false, false, false, false, false, false, false, false, false, false, false, false, false, false, false, false, false, false, false, false, false, false, false, false, false, false, false, false, false, false, false, false, false, false, false, false, false, false, false, false, false, false, false, false, false, false, false, false, false] (α := Nat) (fun i => [(5, I i)]) (fun _ => []) (fun i => x.groups.length - i) (fun i => i ≤ x.groups.length ∧ ∀ j (h : j < x.groups.length), j < i → x.groups[j] = y.groups[j]) 0 (by simp -implicitDefEqProofs only [go_sem, LeTs_undef, LeTs_same, LeTs_nil]; try simp [LeTs]) rfl (by simp) ?_
        rintro i ⟨hi, hz⟩
        simp -implicitDefEqProofs only [go_sem]
        refine BrA_i (fun h => ?_) (fun h => ?_) <;> simp -implicitDefEqProofs only [go_sem]
        · have h : i < x.groups.length := by simp at h; omega
          have h' : i < y.groups.length := by omega
          have h0i : (0 : Int) ≤ i := by omega
          have h1i : (i : Int) < x.groups.length := by omega
          have h2i : (i : Int) < y.groups.length := by omega
          have wi : IntKind.i64.wrap ((i : Int) + 1) = ((i + 1 : Nat) : Int) := by rw [wrap64 (by omega) (by omega)]; omega
          have r1 := row_getD Gr.row x.groups h
          have r2 := row_getD Gr.row y.groups h'
          simp only [Gr.row] at r1 r2
          have hsx : (x.groups[i]).waits.length < 4611686018427387904 := x4 _ (List.getElem_mem h)
          have no : ∀ (e : x.groups[i] = y.groups[i] → False), AV.t (T.bool false) = Bo (decide (x = y)) := fun e => by
            have : x ≠ y := fun e' => e (by subst e'; rfl)
            simp [this]
          refine RegD_of sch_37_6 tysOk (by kernel_rfl) ?_
          simp -implicitDefEqProofs only [go_sem, h0i, h1i, h2i, r1, r2, h, h']
          refine BrA_i (fun he => ?_) (fun he => ?_) <;> simp -implicitDefEqProofs only [go_sem, h0i, h1i, h2i, r1, r2, h, h', he]
          · refine BrA_i (fun hf => ?_) (fun hf => ?_) <;> simp -implicitDefEqProofs only [go_sem, h0i, h1i, h2i, r1, r2, h, h', he, hf]
            · refine CallW.one (s_qxWaits x.groups[i].waits y.groups[i].waits hsx) p_qxWaits (by first | (simp -implicitDefEqProofs only [go_sem]; done) | ((conv => lhs; simp -implicitDefEqProofs only [go_sem]); done) | (simp -implicitDefEqProofs only [go_sem]; rfl) | rfl) (by first | trivial | (simp [DeepR, DeepV, DeepVs, DeepC, DeepCs, T.scal]; done)) ?_
              simp -implicitDefEqProofs only [go_sem, he, hf]
              refine BrA_i (fun hg => ?_) (fun hg => ?_) <;> simp -implicitDefEqProofs only [go_sem, wi]
              · simp only [Bool.and_eq_true, decide_eq_true_eq] at he hf hg
                have he' : x.groups[i] = y.groups[i] := Gr.ext he (Idt.ext hf.1 hf.2) hg
                refine .to [609, 610, 611] (i + 1) rfl ?_ ?_ (by omega) ⟨h, fun j hj hl => ?_⟩ <;> (try simp -implicitDefEqProofs only [go_sem, LeTs_undef, LeTs_same, LeTs_nil])
                rcases Nat.lt_succ_iff_lt_or_eq.1 hl with hl | rfl
                · exact hz j hj hl
                · exact he'
              · exact no fun e => by rw [e] at hg; simp at hg
            · exact no fun e => by rw [e] at hf; simp at hf
          · exact no fun e => by rw [e] at he; simp at he
        · have e3 : x.groups = y.groups := List.ext_getElem hl fun j h1 h2 => hz j h1 (by simp at h; omega)
          simp only [Bool.and_eq_true, decide_eq_true_eq] at h1 h2
          have : x = y := Stm.ext (Idt.ext h1.1 h1.2) h2 e3
          simp [this]
      · have : x ≠ y := fun e => by subst e; simp at h3
        simp [this]
    · have : x ≠ y := fun e => by subst e; simp at h2
      simp [this]
  · have : x ≠ y := fun e => by subst e; simp at h1
    simp [this]
end Go.Proofs.Ytofiljboaegekaa.Am
namespace Go.Proofs.Ytofiljboaegekaa.Am
open Go Go.ChangeShapes Go.WideShapes Go.RowKit
def RdRow (w : World) (ts : List T) (cs : List Value) : Prop := ts.length = cs.length ∧ ∀ (j : Nat) (t : T) (v : Value), ts[j]? = some t → cs[j]? = some v → Rd w (fun b => b < w.heap.size) t v
structure Opn (P : Program) (t : TypeId) (sz : Nat) {α : Type} (row : α → List T) (G : α → Prop) : Prop where
  len : ∀ x, (row x).length = sz
  op : ∀ {H : Type} {enc : TypeId × Value → H} {W : World} {fuel : Nat} {cs : List Value} {D : DataW H} {ps : List MemPlace},
    DataW.trod enc P W 0 (fun _ => true) true fuel t cs = some (D, ps) → (∀ n ∈ DataW.weights P t D, n ≤ reachBytes) → ∃ x, RdRow W (row x) cs ∧ G x
theorem RdRow.one {w : World} {t : T} {v : Value} (h : Rd w (fun b => b < w.heap.size) t v) : RdRow w [t] [v] :=
  ⟨rfl, fun j t' v' h1 h2 => by
    cases j with
    | zero => simp at h1 h2; subst h1 h2; exact h
    | succ j => simp at h1⟩
theorem RdRow.append {w : World} {a b : List T} {c d : List Value} (h : RdRow w a c) (h' : RdRow w b d) : RdRow w (a ++ b) (c ++ d) :=
  ⟨by simp [h.1, h'.1], fun j t v h1 h2 => by
    rw [List.getElem?_append] at h1 h2
    have := h.1
    split at h1
    · rename_i hj
      rw [if_pos (by omega)] at h2
      exact h.2 j t v h1 h2
    · rename_i hj
      rw [if_neg (by omega)] at h2
      rw [this] at h1
      exact h'.2 _ t v h1 h2⟩
section
variable {P : Program} {t : TypeId}
theorem Opn.int {k : IntKind} (hu : P.underlying t = some (.int k)) : Opn P t 1 (fun x : Int => [T.int k x]) (fun x => (Lit.int k x).wf = true) where
  len := fun _ => rfl
  op := fun h _ => by
    obtain ⟨m, rfl, _, hw⟩ := DataW.trod_int hu h
    exact ⟨m, .one (.int _ _), hw⟩
theorem Opn.bool (hu : P.underlying t = some .bool) : Opn P t 1 (fun x : Bool => [T.bool x]) (fun _ => True) where
  len := fun _ => rfl
  op := fun h _ => by
    obtain ⟨m, rfl, _⟩ := DataW.trod_bool hu h
    exact ⟨m, .one (.bool _), trivial⟩
theorem Opn.string (hu : P.underlying t = some .string) : Opn P t 1 (fun x : ByteArray => [T.str x]) (fun x => x.size ≤ 140737488351232) where
  len := fun _ => rfl
  op := fun h hz => by
    obtain ⟨m, rfl, e, _⟩ := DataW.trod_string hu h
    obtain ⟨rfl, _⟩ := Prod.mk.inj e
    refine ⟨m, .one (.str _), ?_⟩
    have := hz m.data.toList.length (by simp [DataW.weights])
    simpa [reachBytes] using this
theorem Opn.slice {e : TypeId} {sz : Nat} {α : Type} {row : α → List T} {G : α → Prop} (he : Opn P e sz row G) (hu : P.underlying t = some (.slice e)) (hc : P.cellsOf e = sz) (hs : 0 < sz) {B : Nat} (hB : P.bytesOf e = B) :
    Opn P t 1 (fun xs : List α => [T.list false sz (xs.map row)]) (fun xs => xs.length * B ≤ 140737488351232 ∧ ∀ x ∈ xs, G x) where
  len := fun _ => rfl
  op := fun {H enc W fuel cs D ps} h hz => by
    rcases DataW.trod_slice hu h with ⟨rfl, _⟩ | ⟨a, len, cap, elems, rest, n, _, rfl, hx, hb, hl, hm, hlen, hel, hsp, _⟩
    · exact ⟨[], .one (.nil ..), by simp, by simp⟩
    · obtain ⟨rfl, _⟩ := Prod.mk.inj hx
      have hw0 := hz ((elems.map (·.1)).length + (rest.map (·.1)).length |>.mul (P.bytesOf e)) (by simp [DataW.weights, hu])
      have each : ∀ i, i < len → ∃ x c, RdRow W (row x) c ∧ G x ∧ c.length = sz ∧ ∀ j u, c[j]? = some u → W.cell? (a.add (i * sz + j)) = some u := by
        intro i hi
        have h1 := hel i hi
        have hil : i < elems.length := by omega
        rw [List.getElem?_eq_getElem hil] at h1
        rw [Option.bind_eq_some_iff] at h1
        obtain ⟨c, hcs, hy⟩ := h1
        have hD : ∀ m ∈ DataW.weights P e (elems[i]).1, m ≤ reachBytes := by
          intro m hmem
          refine hz m ?_
          simp only [DataW.weights, hu]
          refine List.mem_cons_of_mem _ (List.mem_append_left _ ?_)
          have : ∀ (l : List (DataW H)) (y : DataW H), y ∈ l → m ∈ DataW.weights P e y → m ∈ DataW.weightsAll P e l := by
            intro l
            induction l with
            | nil => intro y hy; cases hy
            | cons z l ih =>
              intro y hy hm2
              simp only [DataW.weightsAll, List.mem_append]
              rcases List.mem_cons.1 hy with rfl | hy
              · exact Or.inl hm2
              · exact Or.inr (ih y hy hm2)
          exact this _ _ (List.mem_map.2 ⟨elems[i], List.getElem_mem hil, rfl⟩) hmem
        obtain ⟨x, hK, hG⟩ := he.op (show DataW.trod enc P W 0 (fun _ => true) true n e c = some ((elems[i]).1, (elems[i]).2) from hy) hD
        obtain ⟨hb1, hb2, hb3⟩ := World.cells?_some hcs
        have hlen2 : c.length = sz := by rw [← hK.1, he.len]
        refine ⟨x, c, hK, hG, hlen2, fun j u hu2 => ?_⟩
        have hj := (List.getElem?_eq_some_iff.1 hu2).1
        have h3 := hb3 j (by rw [hc]; omega)
        rw [hu2] at h3
        rw [← h3, hc, Addr.add_add]
      have pick : ∀ l, l ≤ len → ∃ xs : List α, xs.length = l ∧ (∀ x ∈ xs, G x) ∧ ∀ j p, xs[j]? = some p → ∃ c, c.length = sz ∧ RdRow W (row p) c ∧ ∀ i u, c[i]? = some u → W.cell? (a.add (j * sz + i)) = some u := by
        intro l
        induction l with
        | zero => exact fun _ => ⟨[], rfl, by simp, fun j p h => by simp at h⟩
        | succ l ih =>
          intro hll
          obtain ⟨xs, h1, h2, h3⟩ := ih (by omega)
          obtain ⟨x, c, q1, q2, q3, q4⟩ := each l (by omega)
          refine ⟨xs ++ [x], by simp [h1], ?_, ?_⟩
          · intro y hy
            rcases List.mem_append.1 hy with hy | hy
            · exact h2 y hy
            · obtain rfl := List.mem_singleton.1 hy
              exact q2
          · intro j p hj
            by_cases hjl : j < xs.length
            · exact h3 j p (by rwa [List.getElem?_append_left hjl] at hj)
            · rw [List.getElem?_append_right (by omega)] at hj
              have : j - xs.length = 0 := by
                have := (List.getElem?_eq_some_iff.1 hj).1
                simpa using this
              rw [this] at hj
              have hjl2 : j = l := by omega
              subst hjl2
              obtain rfl : x = p := by simpa using hj
              exact ⟨c, q3, q1, q4⟩
      obtain ⟨xs, h1, h2, h3⟩ := pick len (Nat.le_refl _)
      subst h1
      refine ⟨xs, .one ?_, ?_, h2⟩
      · obtain ⟨ab, ao, asp⟩ := a
        have at0 : ∀ (j : Nat) (p : α), xs[j]? = some p → ∀ i, i < sz → ∃ u, W.cell? ⟨ab, ao + (j * sz + i), none⟩ = some u ∧ ∀ x, (row p)[i]? = some x → Rd W (fun b => b < W.heap.size) x u := by
          intro j p hj i hi
          obtain ⟨c, c1, c2, c3⟩ := h3 j p hj
          obtain ⟨u, hu2⟩ : ∃ u, c[i]? = some u := ⟨c[i]'(by omega), List.getElem?_eq_getElem _⟩
          have h4 := c3 i u hu2
          refine ⟨u, ?_, fun x hx => c2.2 i x u hx hu2⟩
          by_cases h0 : j * sz + i = 0
          · rw [h0] at h4 ⊢
            have : asp = none := by
              unfold World.cell? at h4
              simp only [Addr.add] at h4
              cases asp with
              | none => rfl
              | some q => simp at h4; split at h4 <;> simp at h4
            subst this
            exact h4
          · unfold Addr.add at h4
            rw [if_neg h0] at h4
            exact h4
        cases xs with
        | nil => exact .nil ..
        | cons x0 xs0 =>
          obtain ⟨u0, hu0, _⟩ := at0 0 x0 rfl 0 hs
          have hab : ab < W.heap.size := by
            unfold World.cell? at hu0
            simp only at hu0
            split at hu0
            · rename_i hh
              exact (Array.getElem?_eq_some_iff.1 hh).1
            · cases hu0
          have e1 : asp = none := by
            obtain ⟨c, c1, c2, c3⟩ := h3 0 x0 rfl
            have h4 := c3 0 (c[0]'(by omega)) (List.getElem?_eq_getElem _)
            simp only [Nat.zero_mul, Nat.add_zero, Addr.add, if_pos] at h4
            unfold World.cell? at h4
            cases asp with
            | none => rfl
            | some q => simp at h4; split at h4 <;> simp at h4
          subst e1
          have hrow : ∀ (i : Nat) (r : List T), ((x0 :: xs0).map row)[i]? = some r → ∃ p, (x0 :: xs0)[i]? = some p ∧ r = row p := by
            intro i r hr
            rw [List.getElem?_map] at hr
            cases hp : (x0 :: xs0)[i]? with
            | none => rw [hp] at hr; cases hr
            | some p => rw [hp] at hr; cases hr; exact ⟨p, rfl, rfl⟩
          have hfin := @Rd.list W (fun b => b < W.heap.size) false sz ((x0 :: xs0).map row) ab ao cap (fun i j => (W.cell? ⟨ab, ao + (i * sz + j), none⟩).getD Go.undef) (by simpa using hl) hab
            (fun i r hr => by obtain ⟨p, _, rfl⟩ := hrow i r hr; exact he.len p)
            (fun i r j x hr hx => by
              obtain ⟨p, hp, rfl⟩ := hrow i r hr
              obtain ⟨u, hu1, _⟩ := at0 i p hp j (by have := (List.getElem?_eq_some_iff.1 hx).1; rw [he.len] at this; exact this)
              simp only [hu1, Option.getD_some])
            (fun i r j x hr hx => by
              obtain ⟨p, hp, rfl⟩ := hrow i r hr
              obtain ⟨u, hu1, hu2⟩ := at0 i p hp j (by have := (List.getElem?_eq_some_iff.1 hx).1; rw [he.len] at this; exact this)
              simp only [hu1, Option.getD_some]
              exact hu2 x hx)
          rwa [List.length_map] at hfin
      have hw1 : (elems.length + rest.length) * P.bytesOf e ≤ reachBytes := by simpa using hw0
      rw [hB] at hw1
      rw [← hlen]
      exact Nat.le_trans (Nat.mul_le_mul_right _ (Nat.le_add_right _ _)) hw1
structure OpnF (P : Program) (fs : List Field) (o sz : Nat) {α : Type} (row : α → List T) (G : α → Prop) : Prop where
  len : ∀ x, (row x).length = sz
  op : ∀ {H : Type} {enc : TypeId × Value → H} {W : World} {fuel : Nat} {cs : List Value} {xs : List (DataW H × List MemPlace)},
    xs.length = fs.length → (∀ (i : Nat) (f : Field), fs[i]? = some f → DataW.trod enc P W 0 (fun _ => true) true fuel f.type ((cs.drop f.offset).take (P.cellsOf f.type)) = xs[i]?) →
    (∀ n ∈ DataW.weightsEach P (fs.map (·.type)) (xs.map (·.1)), n ≤ reachBytes) → cs.length = o + sz → ∃ x, RdRow W (row x) (cs.drop o) ∧ G x
theorem OpnF.one {f : Field} {o sz : Nat} {α : Type} {row : α → List T} {G : α → Prop} (he : Opn P f.type sz row G) (ho : f.offset = o) (hc : P.cellsOf f.type = sz) : OpnF P [f] o sz row G where
  len := he.len
  op := fun {H enc W fuel cs xs} hx h hz hl => by
    match xs, hx with
    | [y], _ =>
      have hy := h 0 f rfl
      rw [ho, hc, List.take_of_length_le (by simp; omega)] at hy
      exact he.op (show _ = some (y.1, y.2) from hy) (fun n hn => hz n (by simp only [List.map_cons, List.map_nil, DataW.weightsEach]; exact List.mem_append_left _ hn))
theorem OpnF.cons {f : Field} {r : List Field} {o sz sz2 : Nat} {α β : Type} {row : α → List T} {row2 : β → List T} {G : α → Prop} {G2 : β → Prop} (he : Opn P f.type sz row G) (ho : f.offset = o) (hc : P.cellsOf f.type = sz) (hr : OpnF P r (o + sz) sz2 row2 G2) :
    OpnF P (f :: r) o (sz + sz2) (fun x : α × β => row x.1 ++ row2 x.2) (fun x => G x.1 ∧ G2 x.2) where
  len := fun x => by rw [List.length_append, he.len, hr.len]
  op := fun {H enc W fuel cs xs} hx h hz hl => by
    match xs, hx with
    | y :: ys, hx =>
      have hl2 : cs.length = o + sz + sz2 := by omega
      have hy := h 0 f rfl
      rw [ho, hc] at hy
      obtain ⟨x, hK, hG⟩ := he.op (show _ = some (y.1, y.2) from hy) (fun n hn => hz n (by simp only [List.map_cons, DataW.weightsEach]; exact List.mem_append_left _ hn))
      obtain ⟨x2, hK2, hG2⟩ := hr.op (xs := ys) (by simpa using hx) (fun i g hg => h (i + 1) g hg) (fun n hn => hz n (by simp only [List.map_cons, DataW.weightsEach]; exact List.mem_append_right _ hn)) hl2
      refine ⟨(x, x2), ?_, hG, hG2⟩
      have := hK.append hK2
      rwa [← List.drop_drop, List.take_append_drop] at this
theorem Opn.struct {fs : Array Field} {sz : Nat} {α β : Type} {row : α → List T} {row2 : β → List T} {G : α → Prop} {G2 : β → Prop} (g : α → β) (hf : OpnF P fs.toList 0 sz row G) (hu : P.underlying t = some (.struct fs)) (hg : ∀ a, row2 (g a) = row a) (hG2 : ∀ a, G a → G2 (g a)) (hlen : ∀ b, (row2 b).length = sz) (hc : P.cellsOf t = sz) :
    Opn P t sz row2 G2 where
  len := hlen
  op := fun {H enc W fuel cs D ps} h hz => by
    obtain ⟨xs, n, _, hx, hl, hm, he⟩ := DataW.trod_struct hu h
    obtain ⟨rfl, _⟩ := Prod.mk.inj hx
    obtain ⟨x, hK, hG⟩ := hf.op (xs := xs) (by simpa using hm) (fun i f hf => he i f (by simpa using hf)) (fun n hn => hz n (by simp only [DataW.weights, hu]; exact hn)) (by omega)
    exact ⟨g x, by rw [hg]; simpa using hK, hG2 x hG⟩
end
theorem each_of {H : Type} {P : Program} {ts : List TypeId} {ds : List (DataW H)} (h : (DataW.weightsEach P ts ds).all (· ≤ reachBytes) = true) {j : Nat} {t : TypeId} {D : DataW H} (ht : ts[j]? = some t) (hd : ds[j]? = some D) : ∀ n ∈ DataW.weights P t D, n ≤ reachBytes := by
  intro n hn
  have := List.all_eq_true.1 h _ (DataW.weights_mem_each ht hd n hn)
  simpa using this
theorem arg_one {W : World} {t : T} {v : Value} (hv : v.cells.toList = [v]) (h : RdRow W [t] v.cells.toList) : AVr (inCx W fun b => b < W.heap.size) (.t t) v := by
  rw [hv] at h
  exact h.2 0 t v rfl rfl
theorem out_bool {w w' : World} {D : Dm} {b : Bool} {v : Value} (h : Out w D w' (.t (.bool b)) v) : v = .bool b ∧ Below w.heap.size w w' := by
  obtain ⟨h1, col, _, h2⟩ := h
  refine ⟨?_, h1.os, h1.tape, h1.output, h1.size, fun k hk => h1.block k hk (by simp)⟩
  have h3 : Rd (outCx w D w' col).w (outCx w D w' col).Dp (.bool b) v := h2
  cases h3
  rfl
end Go.Proofs.Ytofiljboaegekaa.Am
namespace Go.Proofs.Ytofiljboaegekaa.Am
open Go
set_option linter.unusedVariables false
set_option linter.unusedSimpArgs false
set_option maxRecDepth 100000
theorem lG_mk {α : Type} {G : α → Prop} {B : Nat} {xs : List α} (hB : 1 ≤ B) (h : xs.length * B ≤ 140737488351232 ∧ ∀ x ∈ xs, G x) : lG G xs :=
  ⟨Nat.le_trans (Nat.le_mul_of_pos_right _ hB) h.1, h.2⟩
def Stm.row (x : Stm) : List T := [.int .i64 x.last.t, .int .i64 x.last.n, .list false 3 (x.items.map It.row), .list false 4 (x.groups.map Gr.row)]
theorem Opn.weaken {P : Program} {t : TypeId} {sz : Nat} {α : Type} {row : α → List T} {G G' : α → Prop} (h : Opn P t sz row G) (hg : ∀ x, G x → G' x) : Opn P t sz row G' :=
  ⟨h.len, fun h1 h2 => by obtain ⟨x, a, b⟩ := h.op h1 h2; exact ⟨x, a, hg x b⟩⟩
end Go.Proofs.Ytofiljboaegekaa.Am
namespace Go.Proofs.Ytofiljboaegekaa.Am
open Go
set_option linter.unusedVariables false
set_option linter.unusedSimpArgs false
set_option maxRecDepth 100000
def isB (x : Int) : Prop := 0 ≤ x ∧ x ≤ 255
theorem opn_byte : Opn Try.prog 5 1 (fun x : Int => [T.int .u8 x]) isB :=
  (Opn.int Try.underlying5).weaken fun x h => by
    simp [Lit.wf, IntKind.min, IntKind.max, IntKind.signed, IntKind.bits] at h
    unfold isB; omega
theorem opn_bytes : Opn Try.prog 50 1 (fun xs : List Int => [T.list false 1 (xs.map fun b => [T.int .u8 b])]) (lG isB) :=
  (Opn.slice opn_byte Try.underlying50 (by kernel_rfl) (by omega) (B := 1) (by kernel_rfl)).weaken fun _ => lG_mk (by omega)
end Go.Proofs.Ytofiljboaegekaa.Am
namespace Go.Proofs.Ytofiljboaegekaa.Am
open Go
set_option maxRecDepth 100000
set_option maxHeartbeats 4000000
set_option linter.unusedSimpArgs false
set_option linter.unusedVariables false
theorem allAt_tail {α : Type} {good : α → Bool} {link : α → α → Bool} : ∀ {x : α} {l : List α}, allAt good link (x :: l) = true → allAt good link l = true
  | x, [], _ => allAt_nil _ _
  | x, y :: l, h => by rw [allAt_cons, Bool.and_eq_true] at h; exact h.2
theorem allAt_drop {α : Type} {good : α → Bool} {link : α → α → Bool} : ∀ (k : Nat) {l : List α}, allAt good link l = true → allAt good link (l.drop k) = true
  | 0, l, h => by simpa using h
  | k + 1, [], h => by simpa using h
  | k + 1, x :: l, h => by rw [List.drop_succ_cons]; exact allAt_drop k (allAt_tail h)
theorem dropOk {s : Stm} (hok : streamOkM s = true) (k : Nat) : streamOkM ⟨s.last, s.items.drop k, s.groups⟩ = true := by
  unfold streamOkM at hok ⊢
  simp only [Bool.and_eq_true, decide_eq_true_eq] at hok ⊢
  obtain ⟨⟨⟨⟨h0, h1⟩, h2⟩, h3⟩, h4⟩ := hok
  exact ⟨⟨⟨⟨h0, by rw [List.length_drop]; omega⟩, h2⟩, allAt_drop k h3⟩, h4⟩
theorem trimM_ok {s : Stm} (hok : streamOkM s = true) (most : Int) : ∃ k : Nat, k ≤ s.items.length ∧ trimM s most = (⟨s.last, s.items.drop k, s.groups⟩, (k : Int)) ∧ (0 ≤ most → (s.items.length : Int) - k ≤ most) := by
  unfold trimM
  rw [if_pos hok]
  split
  · exact ⟨0, Nat.zero_le _, by simp, fun h => by omega⟩
  · refine ⟨((s.items.length : Int) - most).toNat, by omega, ?_, fun h => by omega⟩
    have : (((s.items.length : Int) - most).toNat : Int) = (s.items.length : Int) - most := by omega
    rw [this]
theorem trimM_d2 {s : Stm} (hs : s.d2) (most : Int) : (trimM s most).1.d2 := by
  obtain ⟨h1, h2, h3, h4⟩ := hs
  unfold trimM
  split
  · split
    · exact ⟨h1, h2, h3, h4⟩
    · exact ⟨by simp only [List.length_drop]; omega, h2, fun i hi => h3 i (List.mem_of_mem_drop hi), h4⟩
  · exact z_dd.d2
theorem s_FnStreamTrim (bs : List Int) (hb : lG isB bs) : Spec Try.prog 8 [by8 bs] (fun r => r = Bo true) := by
  refine Spec.of tysOk mixed Try.func8 rfl (by decide) ?_
  simp -implicitDefEqProofs only [go_sem, Try.f8]
  refine BrA_i (fun h1 => ?_) (fun h1 => ?_) <;> simp -implicitDefEqProofs only [go_sem]
  have h1 : bs.length ≤ 1048576 := by have := of_decide_eq_false h1; omega
  refine CallW.ps (s_DrawStreamTrim bs hb.2 h1) p_DrawStreamTrim (by first | (simp -implicitDefEqProofs only [go_sem]; done) | ((conv => lhs; simp -implicitDefEqProofs only [go_sem]); done) | (simp -implicitDefEqProofs only [go_sem]; rfl) | rfl) rfl ?_
  rintro r ⟨s, most, e, hs, n0, n1⟩
  rw [e]
  clear e r
  simp -implicitDefEqProofs only [go_sem]
  refine CallW.ps (s_StreamTrim s most (by omega) hs.md hs.hw) p_StreamTrim (by first | (simp -implicitDefEqProofs only [go_sem]; done) | ((conv => lhs; simp -implicitDefEqProofs only [go_sem]); done) | (simp -implicitDefEqProofs only [go_sem]; rfl) | rfl) rfl ?_
  rintro _ rfl
  simp -implicitDefEqProofs only [go_sem]
  have hd := trimM_d2 hs most
  have hsm : s.sm := hs.md.sm.1
  refine CallW.ps (s_sStreamTrim s most (by omega) (by omega) hs.md hs.hw) p_sStreamTrim (by first | (simp -implicitDefEqProofs only [go_sem]; done) | ((conv => lhs; simp -implicitDefEqProofs only [go_sem]); done) | (simp -implicitDefEqProofs only [go_sem]; rfl) | rfl) rfl ?_
  rintro _ (rfl | rfl)
  all_goals
    simp -implicitDefEqProofs only [go_sem, eq_self, decide_true, Bool.not_true]
    refine CallW.one (s_qxStream (trimM s most).1 (trimM s most).1 hd.md.sm.1) p_qxStream (by first | (simp -implicitDefEqProofs only [go_sem]; done) | ((conv => lhs; simp -implicitDefEqProofs only [go_sem]); done) | (simp -implicitDefEqProofs only [go_sem]; rfl) | rfl) (by first | trivial | (simp [DeepR, DeepV, DeepVs, DeepC, DeepCs, T.scal]; done)) ?_
    simp -implicitDefEqProofs only [go_sem, eq_self, decide_true, Bool.not_true]
    refine CallW.one (s_sStreamOk s hsm hs.hw) p_sStreamOk (by first | (simp -implicitDefEqProofs only [go_sem]; done) | ((conv => lhs; simp -implicitDefEqProofs only [go_sem]); done) | (simp -implicitDefEqProofs only [go_sem]; rfl) | rfl) (by first | trivial | (simp [DeepR, DeepV, DeepVs, DeepC, DeepCs, T.scal]; done)) ?_
    cases hok : streamOkM s
    · simp -implicitDefEqProofs only [go_sem, Bool.not_false, eq_self, decide_true]
      refine CallW.one (s_qxStream (trimM s most).1 (trimM s most).1 hd.md.sm.1) p_qxStream (by first | (simp -implicitDefEqProofs only [go_sem]; done) | ((conv => lhs; simp -implicitDefEqProofs only [go_sem]); done) | (simp -implicitDefEqProofs only [go_sem]; rfl) | rfl) (by first | trivial | (simp [DeepR, DeepV, DeepVs, DeepC, DeepCs, T.scal]; done)) ?_
      simp -implicitDefEqProofs only [go_sem, eq_self, decide_true, Bool.not_true]
    · obtain ⟨k, hk, e1, e2⟩ := trimM_ok hok most
      have hok2 := dropOk hok k
      have hd' := hd
      rw [e1] at hd'
      simp only [e1]
      have hsl := hs.1
      have g0 : (0 : Int) ≤ k := by omega
      have g1 : (k : Int) ≤ s.items.length := by omega
      have w : IntKind.i64.wrap (((s.items.length - k : Nat) : Int) + k) = s.items.length := by rw [wrap64 (by omega) (by omega)]; omega
      have r2 : List.take (s.items.length - k) (List.drop k (s.items.map It.row)) = (s.items.drop k).map It.row := by
        rw [← List.map_drop, List.take_of_length_le (by simp)]
      have hm : ¬ most < 0 → decide (((s.items.length - k : Nat) : Int) ≤ most) = true := fun h => decide_eq_true (by have := e2 (by omega); omega)
      simp -implicitDefEqProofs only [go_sem, Bool.not_true]
      refine RegD_of sch_8_8 tysOk (by kernel_rfl) ?_
      simp -implicitDefEqProofs only [go_sem]
      refine CallW.one (s_StreamOk ⟨s.last, s.items.drop k, s.groups⟩ hd'.md.sm.1 hd'.hw) p_StreamOk (by first | (simp -implicitDefEqProofs only [go_sem]; done) | ((conv => lhs; simp -implicitDefEqProofs only [go_sem]); done) | (simp -implicitDefEqProofs only [go_sem]; rfl) | rfl) (by first | trivial | (simp [DeepR, DeepV, DeepVs, DeepC, DeepCs, T.scal]; done)) ?_
      simp -implicitDefEqProofs only [go_sem, hok2, List.length_drop, w, g0, g1, r2, eq_self, decide_true, Bool.and_self, Int.le_refl, true_and]
      refine CallW.one (s_qxItems (s.items.drop k) (s.items.drop k) (by rw [List.length_drop]; omega) (fun x hx => hsm.2.2.1 x (List.mem_of_mem_drop hx))) p_qxItems (by first | (simp -implicitDefEqProofs only [go_sem]; done) | ((conv => lhs; simp -implicitDefEqProofs only [go_sem]); done) | (simp -implicitDefEqProofs only [go_sem]; rfl) | rfl) (by first | trivial | (simp [DeepR, DeepV, DeepVs, DeepC, DeepCs, T.scal]; done)) ?_
      simp -implicitDefEqProofs only [go_sem, eq_self, decide_true]
      refine BrA_i (fun hm2 => ?_) (fun hm2 => ?_) <;> simp -implicitDefEqProofs only [go_sem, hm2, List.length_drop]
      rw [hm (of_decide_eq_false hm2)]
end Go.Proofs.Ytofiljboaegekaa.Am
