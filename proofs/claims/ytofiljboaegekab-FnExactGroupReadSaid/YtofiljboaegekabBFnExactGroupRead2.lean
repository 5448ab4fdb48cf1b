/- Texts of this claim, packed: walks and laws that its row stands on. Each states its own conditions. -/
import Derived.Below
import Derived.ChangeArms
import Derived.ChangeOld
import Derived.ChangeSlices
import Derived.DataElems
import Derived.OpenShut
import Derived.ProofKit
import Derived.ShutString
import Derived.SizedLaws
import Derived.Test.YtofiljboaegekabBFnExactGroupRead1
namespace Go.Proofs.Ytofiljboaegekab.Am
open Go
set_option linter.unusedVariables false
def LeTs : List AV → List AV → Prop
  | [], [] => True
  | a :: l, b :: m => (b = .undef ∨ a = b) ∧ LeTs l m
  | _, _ => False
theorem LeTs_nil : LeTs [] [] = True := rfl
theorem LeTs_undef (a : AV) (l m : List AV) : LeTs (a :: l) (.undef :: m) = LeTs l m := by simp [LeTs]
theorem LeTs_same (a : AV) (l m : List AV) : LeTs (a :: l) (a :: m) = LeTs l m := by simp [LeTs]
theorem LeTs_cons (a b : AV) (l m : List AV) (h : a = b) (h' : LeTs l m) : LeTs (a :: l) (b :: m) := ⟨.inr h, h'⟩
theorem LeTs_gt : ∀ {l m : List AV}, LeTs l m → l.length = m.length ∧ ∀ i, gt m i = .undef ∨ gt l i = gt m i
  | [], [], _ => ⟨rfl, fun i => .inr rfl⟩
  | a :: l, b :: m, h => by
    obtain ⟨h1, h2⟩ := LeTs_gt h.2
    refine ⟨by simp [h1], fun i => ?_⟩
    cases i with
    | zero => exact h.1
    | succ i => exact h2 i
  | [], _ :: _, h => h.elim
  | _ :: _, [], h => h.elim
theorem LeS.refl (s : St) : LeS s s := fun _ _ _ h => h
theorem LeS.trans {s1 s2 s3 : St} (h : LeS s1 s2) (h' : LeS s2 s3) : LeS s1 s3 := fun B a w hs => h' B a w (h B a w hs)
theorem LeS.drop (s : St) {k : Nat} (hk : k < pin) : LeS s (s.drop k) := by
  rintro B a w ⟨ρ, col, h⟩
  exact ⟨_, _, (h.drop k hk none (fun i j => (k, i, j)) (fun _ _ e => by cases e) (fun _ _ => ne_lim hk)).1⟩
theorem LeS.drops (s : St) : ∀ {ks : List Nat}, (∀ k ∈ ks, k < pin) → LeS s (s.drops ks)
  | [], _ => LeS.refl s
  | k :: ks, h => (LeS.drops s (ks := ks) fun k hk => h k (by simp [hk])).trans (LeS.drop _ (h k (by simp)))
theorem LeS.forget {s s' : St} (h : LeTs s.tm s'.tm) (hh : s.hp = s'.hp) : LeS s s' := by
  rintro B a w ⟨ρ, col, hs⟩
  obtain ⟨h1, h2⟩ := LeTs_gt h
  obtain ⟨tm, hp⟩ := s
  obtain ⟨tm', hp'⟩ := s'
  simp only at h1 h2 hh
  subst hh
  refine ⟨ρ, col, ⟨hs.defers, h1 ▸ hs.len, hs.keep, fun i => ?_, hs.hp, hs.dom, hs.inj, hs.sep, hs.lab, hs.colb, hs.pins, hs.nolim⟩⟩
  show AVr _ (gt tm' i) _
  rcases h2 i with e | e
  · rw [e]; trivial
  · rw [← e]; exact hs.tm i
theorem LeS.of {s s' : St} (ks : List Nat) (hk : (ks.all fun k => decide (k < pin)) = true) (h1 : LeTs (s.drops ks).tm s'.tm) (h2 : (s.drops ks).hp = s'.hp) : LeS s s' :=
  (LeS.drops s fun k hm => by simpa using List.all_eq_true.1 hk k hm).trans (LeS.forget h1 h2)
def pts (l : List AV) : List (Nat × AV) → List AV
  | [] => l
  | p :: r => pt (pts l r) p.1 p.2
def hputs (h : Hp) : List (Nat × Blk) → Hp
  | [] => h
  | p :: r => hput (hputs h r) p.1 p.2
def Iof {α : Type} (inv : α → St) (rank : α → Nat) (ok : α → Prop) (s : St) (n : Nat) : Prop := ∃ x, s = inv x ∧ n = rank x ∧ ok x
def Rnd {α : Type} (inv : α → St) (rank : α → Nat) (ok : α → Prop) (n : Nat) (s : St) : Prop := ∃ y, LeS s (inv y) ∧ rank y < n ∧ ok y
section
variable {α : Type} (inv : α → St) (rank : α → Nat) (ok : α → Prop) (n : Nat) (K : Exit → St → Prop) (s : St)
theorem Klp_normal : Klp (Iof inv rank ok) n K .normal s = Rnd inv rank ok n s := by
  apply propext
  constructor
  · rintro ⟨s', m, h1, h2, x, rfl, rfl, h3⟩; exact ⟨x, h1, h2, h3⟩
  · rintro ⟨x, h1, h2, h3⟩; exact ⟨_, _, h1, h2, x, rfl, rfl, h3⟩
theorem Klp_exit (I : St → Nat → Prop) (i : Nat) : Klp I n K (.exit i) s = K (.exit i) s := rfl
theorem Klp_ret (I : St → Nat → Prop) : Klp I n K .ret s = K .ret s := rfl
end
theorem LoopW.by {α : Type} {body : (Exit → St → Prop) → St → Prop} {K : Exit → St → Prop} {s : St} (inv : α → St) (rank : α → Nat) (ok : α → Prop) (x0 : α) (h0 : LeS s (inv x0)) (hok : ok x0)
    (hb : ∀ x, ok x → body (Klp (Iof inv rank ok) (rank x) K) (inv x)) : LoopW body K s :=
  ⟨Iof inv rank ok, ⟨_, _, h0, x0, rfl, rfl, hok⟩, fun s n ⟨x, hs, hn, ho⟩ => by subst hs hn; exact hb x ho⟩
theorem LoopW.slots {α : Type} {body : (Exit → St → Prop) → St → Prop} {K : Exit → St → Prop} {tm : List AV} {hp : Hp} (ut : α → List (Nat × AV)) (uh : α → List (Nat × Blk)) (rank : α → Nat) (ok : α → Prop) (x0 : α)
    (h1 : pts tm (ut x0) = tm) (h2 : hputs hp (uh x0) = hp) (hok : ok x0)
    (hb : ∀ x, ok x → body (Klp (Iof (fun x => ⟨pts tm (ut x), hputs hp (uh x)⟩) rank ok) (rank x) K) ⟨pts tm (ut x), hputs hp (uh x)⟩) : LoopW body K ⟨tm, hp⟩ :=
  LoopW.by (fun x => ⟨pts tm (ut x), hputs hp (uh x)⟩) rank ok x0 (by rw [h1, h2]; exact LeS.refl _) hok hb
theorem LoopW.slotsL {α : Type} {body : (Exit → St → Prop) → St → Prop} {K : Exit → St → Prop} {tm : List AV} {hp : Hp} (ut : α → List (Nat × AV)) (uh : α → List (Nat × Blk)) (rank : α → Nat) (ok : α → Prop) (x0 : α)
    (h1 : LeTs tm (pts tm (ut x0))) (h2 : hputs hp (uh x0) = hp) (hok : ok x0)
    (hb : ∀ x, ok x → body (Klp (Iof (fun x => ⟨pts tm (ut x), hputs hp (uh x)⟩) rank ok) (rank x) K) ⟨pts tm (ut x), hputs hp (uh x)⟩) : LoopW body K ⟨tm, hp⟩ :=
  LoopW.by (fun x => ⟨pts tm (ut x), hputs hp (uh x)⟩) rank ok x0 (by rw [h2]; exact LeS.forget h1 rfl) hok hb
def msk : List Bool → List AV → List AV
  | true :: bs, a :: l => a :: msk bs l
  | false :: bs, _ :: l => .undef :: msk bs l
  | _, l => l
theorem LoopW.slotsM {α : Type} {body : (Exit → St → Prop) → St → Prop} {K : Exit → St → Prop} {tm : List AV} {hp : Hp} (bs : List Bool) (ut : α → List (Nat × AV)) (uh : α → List (Nat × Blk)) (rank : α → Nat) (ok : α → Prop) (x0 : α)
    (h1 : LeTs tm (pts (msk bs tm) (ut x0))) (h2 : hputs hp (uh x0) = hp) (hok : ok x0)
    (hb : ∀ x, ok x → body (Klp (Iof (fun x => ⟨pts (msk bs tm) (ut x), hputs hp (uh x)⟩) rank ok) (rank x) K) ⟨pts (msk bs tm) (ut x), hputs hp (uh x)⟩) : LoopW body K ⟨tm, hp⟩ :=
  LoopW.by (fun x => ⟨pts (msk bs tm) (ut x), hputs hp (uh x)⟩) rank ok x0 (by rw [h2]; exact LeS.forget h1 rfl) hok hb
theorem Rnd.to {α : Type} {inv : α → St} {rank : α → Nat} {ok : α → Prop} {n : Nat} {s : St} (ks : List Nat) (y : α) (hk : (ks.all fun k => decide (k < pin)) = true) (h1 : LeTs (s.drops ks).tm (inv y).tm) (h2 : (s.drops ks).hp = (inv y).hp) (hr : rank y < n) (ho : ok y) : Rnd inv rank ok n s :=
  ⟨y, LeS.of ks hk h1 h2, hr, ho⟩
theorem RegD.mono {P : Program} {id : Nat} {ops : Array Oper} {K K' : St → Prop} {s : St} (h : RegD P id ops K s) (hk : ∀ s', K s' → K' s') : RegD P id ops K' s :=
  fun B a w Q hs hp hn => h B a w Q hs hp fun s' a' w' h1 h2 => hn s' a' w' (hk s' h1) h2
theorem RegD_to {P : Program} {Γ : Env} {id : Nat} {ops : Array Oper} {K : St → Prop} {s : St} (t : Sch) (s0 : St) (hΓ : TysOk P Γ) (hb : (guardsB ops && Region.noSelect ops && schB Γ ops ops.size (Array.replicate ops.size false) t) = true) (h : Wsch P Γ ops.toList t (fun s' => s' = s0) s) (hK : K s0) : RegD P id ops K s :=
  (RegD_of t hΓ hb h).mono fun s' e => e ▸ hK
def nilB (s : St) : List (Nat × Nat × Nat × Nat) → Option St
  | [] => some s
  | (k, j, m, sz) :: l => match hget s.hp k with
    | some (.box cs) => match gt cs j with
      | .nils _ => if hget s.hp m = none ∧ m < pin ∧ k ≠ m then nilB ⟨s.tm, hput (hput s.hp k (.box (pt cs j (.refw m)))) m (.rows sz [])⟩ l else none
      | _ => none
    | _ => none
theorem AVrs_pt {c : Cx} {v : AV} : ∀ {xs : List AV} {vs : List Value} {j : Nat}, AVr.AVrs c xs vs → (∀ u, AVr c (gt xs j) u → AVr c v u) → AVr.AVrs c (pt xs j v) vs
  | [], [], _, _, _ => trivial
  | x :: xs, u :: us, 0, h, hv => ⟨hv u h.1, h.2⟩
  | x :: xs, u :: us, j + 1, h, hv => ⟨h.1, AVrs_pt h.2 hv⟩
  | [], _ :: _, _, h, _ => h.elim
  | _ :: _, [], _, h, _ => h.elim
theorem nilB_le : ∀ {l : List (Nat × Nat × Nat × Nat)} {s s' : St}, nilB s l = some s' → LeS s s'
  | [], s, s', h => by simp [nilB] at h; subst h; exact LeS.refl _
  | (k, j, m, sz) :: l, s, s', h => by
    unfold nilB at h
    split at h
    · rename_i cs hk
      split at h
      · rename_i z hz
        split at h
        · rename_i hc
          obtain ⟨hm, hp, hkm⟩ := hc
          refine LeS.trans ?_ (nilB_le h)
          rintro B a w ⟨ρ, col, hs⟩
          have hgp : ∀ n, hget (hput (hput s.hp k (.box (pt cs j (.refw m)))) m (.rows sz [])) n = if m = n then some (.rows sz []) else if k = n then some (.box (pt cs j (.refw m))) else hget s.hp n := by
            intro n; rw [hget_hput, hget_hput]
          have hle : (cx B ρ col w s.hp).le (cx B ρ col w (hput (hput s.hp k (.box (pt cs j (.refw m)))) m (.rows sz []))) fun _ => True := by
            refine ⟨fun _ _ _ => rfl, fun n b _ hb => ?_, fun b hb => ⟨hb, rfl⟩, fun b hb => ⟨hb, rfl⟩, fun _ _ _ _ => rfl, fun _ _ _ _ _ => rfl⟩
            have hb' : hget s.hp n = some b := hb
            have h1 : m ≠ n := fun e => by rw [e, hb'] at hm; cases hm
            show ∃ b', hget (hput (hput s.hp k (.box (pt cs j (.refw m)))) m (.rows sz [])) n = some b' ∧ _
            rw [hgp, if_neg h1]
            split
            · rename_i e; subst e; rw [hk] at hb'; cases hb'; exact ⟨_, rfl, trivial⟩
            · exact ⟨b, hb', blk_sim_refl b⟩
          refine ⟨ρ, col, ⟨hs.defers, hs.len, hs.keep, fun i => AVr.mono hle _ _ (hs.tm i), fun n b hb => ?_, fun n hn => ?_, hs.inj, hs.sep, hs.lab, hs.colb, hs.pins, by rw [hgp, if_neg (ne_lim hp), if_neg (fun e => by rw [e, hs.nolim] at hk; cases hk), hs.nolim]⟩⟩
          · have hb1 := hb
            simp only at hb1
            rw [hgp] at hb1
            split at hb1
            · rename_i e; subst e; cases hb1
              exact ⟨fun i r hi => by simp at hi, .inr ⟨rfl, hs.dom m hm⟩⟩
            · split at hb1
              · rename_i e; subst e; cases hb1
                obtain ⟨b, vs, e, fr, f1, f2, f3, f4⟩ := hs.hp k _ hk
                refine ⟨b, vs, e, fr, f1, f2, f3, AVrs_pt (AVrs.mono hle _ _ f4) (fun u hu => ?_)⟩
                rw [hz] at hu
                have hu' : u = .slice none 0 0 := hu
                subst hu'
                exact ⟨sz, [], by show hget (hput _ _ _) m = _; rw [hgp, if_pos rfl], .inr ⟨rfl, _, rfl⟩⟩
              · exact (hs.hp n b hb1).mono hle rfl (fun _ _ => rfl) (fun _ _ _ h => ⟨h, rfl⟩)
          · have hn1 := hn
            simp only at hn1
            rw [hgp] at hn1
            split at hn1
            · cases hn1
            · split at hn1
              · cases hn1
              · exact hs.dom n hn1
        · cases h
      · cases h
    · cases h
theorem LoopW.le {body : (Exit → St → Prop) → St → Prop} {K : Exit → St → Prop} {s s0 : St} (h : LeS s s0) (hl : LoopW body K s0) : LoopW body K s := by
  obtain ⟨I, ⟨s1, n, h1, h2⟩, h3⟩ := hl
  exact ⟨I, ⟨s1, n, h.trans h1, h2⟩, h3⟩
theorem LoopW.nil {body : (Exit → St → Prop) → St → Prop} {K : Exit → St → Prop} {s s0 : St} (l : List (Nat × Nat × Nat × Nat)) (h : nilB s l = some s0) (hl : LoopW body K s0) : LoopW body K s := hl.le (nilB_le h)
attribute [go_sem] nilB
attribute [go_sem] msk Klp_normal Klp_exit Klp_ret pts hputs
end Go.Proofs.Ytofiljboaegekab.Am
namespace Go.Proofs.Ytofiljboaegekab.Am
open Go
theorem row_getD {α : Type} (f : α → List T) (l : List α) {i : Nat} (h : i < l.length) : (l.map f).getD i [] = f l[i] := by
  simp [List.getD_eq_getElem?_getD, List.getElem?_eq_getElem h]
theorem wrap64 {n : Int} (h1 : -9223372036854775808 ≤ n) (h2 : n ≤ 9223372036854775807) : IntKind.i64.wrap n = n := by
  simp [IntKind.wrap, IntKind.signed, IntKind.bits]
  omega
def fillR {α : Type} (f : α → List T) (z : List T) (l : List α) (i : Nat) : List (List T) := (l.take i).map f ++ List.replicate (l.length - i) z
theorem fill_0 {α : Type} (f : α → List T) (z : List T) (l : List α) : fillR f z l 0 = List.replicate l.length z := by simp [fillR]
theorem fill_len {α : Type} (f : α → List T) (z : List T) (l : List α) {i : Nat} (h : i ≤ l.length) : (fillR f z l i).length = l.length := by simp [fillR]; omega
theorem fill_getD {α : Type} (f : α → List T) (z : List T) (l : List α) {i : Nat} (h : i < l.length) : (fillR f z l i).getD i [] = z := by
  have : (l.take i).length = i := by simp; omega
  simp only [fillR, List.getD_eq_getElem?_getD]
  rw [List.getElem?_append_right (by simp; omega)]
  rw [List.getElem?_replicate]
  have h2 : i - (List.map f (l.take i)).length = 0 := by simp; omega
  rw [h2, if_pos (by omega)]; rfl
theorem fill_set {α : Type} (f : α → List T) (z : List T) (l : List α) {i : Nat} (h : i < l.length) : (fillR f z l i).set i (f l[i]) = fillR f z l (i + 1) := by
  have h1 : (List.map f (l.take i)).length = i := by simp; omega
  simp only [fillR]
  rw [List.set_append_right _ _ (by omega), h1, Nat.sub_self, show l.length - i = (l.length - (i + 1)) + 1 by omega, List.replicate_succ, List.set_cons_zero, List.take_succ_eq_append_getElem h, List.map_append]
  simp
theorem fill_all {α : Type} (f : α → List T) (z : List T) (l : List α) : fillR f z l l.length = l.map f := by simp [fillR]
abbrev I (n : Int) : AV := .t (.int .i64 n)
abbrev Bo (b : Bool) : AV := .t (.bool b)
theorem int_bne (a b : Int) : (a != b) = !decide (a = b) := by by_cases h : a = b <;> simp [h]
theorem int_beq (a b : Int) : (a == b) = decide (a = b) := by by_cases h : a = b <;> simp [h]
attribute [go_sem] int_bne int_beq List.length_map Int.toNat_natCast decide_eq_true_eq Int.reduceEq Int.reduceNe Int.reduceLT Int.reduceLE List.size_toArray List.set_set List.length_set not_false_eq_true
end Go.Proofs.Ytofiljboaegekab.Am
namespace Go.Proofs.Ytofiljboaegekab.Am
open Go
set_option linter.unusedVariables false
def mixR (new old : List (List T)) (i : Nat) : List (List T) := new.take i ++ old.drop i
theorem mix_0 (new old : List (List T)) : mixR new old 0 = old := by simp [mixR]
theorem mix_all {new old : List (List T)} (h : new.length = old.length) : mixR new old old.length = new := by simp [mixR, ← h]
theorem mix_len {new old : List (List T)} {i : Nat} (h : new.length = old.length) (hi : i ≤ old.length) : (mixR new old i).length = old.length := by simp [mixR]; omega
theorem mix_getD {new old : List (List T)} {i : Nat} (h : new.length = old.length) (hi : i < old.length) : (mixR new old i).getD i [] = old.getD i [] := by
  have h1 : (new.take i).length = i := by simp; omega
  simp only [mixR, List.getD_eq_getElem?_getD]
  rw [List.getElem?_append_right (by omega), h1, Nat.sub_self]
  simp
theorem mix_set {new old : List (List T)} {i : Nat} (h : new.length = old.length) (hi : i < old.length) : (mixR new old i).set i (new.getD i []) = mixR new old (i + 1) := by
  have h1 : (new.take i).length = i := by simp; omega
  simp only [mixR]
  rw [List.set_append_right _ _ (by omega), h1, Nat.sub_self, List.take_succ_eq_append_getElem (by omega), List.append_assoc]
  congr 1
  rw [List.drop_eq_getElem_cons hi, List.set_cons_zero]
  simp [List.getD_eq_getElem?_getD, List.getElem?_eq_getElem (show i < new.length by omega)]
theorem set_getD {l : List (List T)} {i : Nat} (h : i < l.length) (r : List T) : (l.set i r).getD i [] = r := by
  simp [List.getD_eq_getElem?_getD, h]
def wSum {α : Type} (w : α → Nat) (l : List α) : Nat := (l.map w).sum
def wAll {α : Type} (w : α → Nat) (l : List α) : Nat := l.length + wSum w l
theorem wSum_take {α : Type} (w : α → Nat) (l : List α) {i : Nat} (h : i < l.length) : wSum w (l.take (i + 1)) = wSum w (l.take i) + w l[i] := by
  rw [List.take_succ_eq_append_getElem h]; unfold wSum; rw [List.map_append, List.sum_append]; simp only [List.map_cons, List.map_nil, List.sum_cons, List.sum_nil, Nat.add_zero]
theorem wSum_le {α : Type} (w : α → Nat) (l : List α) (i : Nat) : wSum w (l.take i) ≤ wSum w l := by
  have : l = l.take i ++ l.drop i := (List.take_append_drop i l).symm
  have h2 : wSum w l = wSum w (l.take i) + wSum w (l.drop i) := by
    conv => lhs; rw [this]
    unfold wSum; rw [List.map_append, List.sum_append]
  omega
theorem wSum_cons {α : Type} (w : α → Nat) (x : α) (l : List α) : wSum w (x :: l) = w x + wSum w l := by simp [wSum]
theorem wSum_mem {α : Type} (w : α → Nat) {l : List α} {x : α} (h : x ∈ l) : w x ≤ wSum w l := by
  induction l with
  | nil => cases h
  | cons y l ih =>
    rw [wSum_cons]
    rcases List.mem_cons.1 h with rfl | h
    · omega
    · have := ih h; omega
theorem wSum_len {α : Type} {w : α → Nat} (h : ∀ x, 1 ≤ w x) (l : List α) : l.length ≤ wSum w l := by
  induction l with
  | nil => exact Nat.zero_le _
  | cons y l ih => rw [wSum_cons, List.length_cons]; have := h y; omega
def mkAll {α : Type} (m : α → Int → α) (w : α → Nat) : List α → Int → List α
  | [], _ => []
  | x :: xs, k => m x k :: mkAll m w xs (k + w x)
theorem mkAll_len {α : Type} (m : α → Int → α) (w : α → Nat) : ∀ (xs : List α) (k : Int), (mkAll m w xs k).length = xs.length
  | [], _ => rfl
  | x :: xs, k => by simp [mkAll, mkAll_len m w xs]
theorem mkAll_get {α : Type} (m : α → Int → α) (w : α → Nat) : ∀ (xs : List α) (k : Int) (i : Nat) (h : i < xs.length), (mkAll m w xs k)[i]'(by rw [mkAll_len]; exact h) = m xs[i] (k + wSum w (xs.take i))
  | x :: xs, k, 0, _ => by simp [mkAll, wSum]
  | x :: xs, k, i + 1, h => by
    simp only [mkAll, List.getElem_cons_succ, List.take_succ_cons, wSum_cons]
    rw [mkAll_get m w xs _ i (by simpa using h)]
    congr 1
    omega
theorem mkAll_getD {α : Type} (f : α → List T) (m : α → Int → α) (w : α → Nat) (xs : List α) (k : Int) {i : Nat} (h : i < xs.length) : ((mkAll m w xs k).map f).getD i [] = f (m xs[i] (k + wSum w (xs.take i))) := by
  rw [row_getD f _ (by rw [mkAll_len]; exact h), mkAll_get m w xs k i h]
end Go.Proofs.Ytofiljboaegekab.Am
namespace Go.Proofs.Ytofiljboaegekab.Am
open Go
@[ext] structure Pr where
  k : ByteArray
  v : ByteArray
deriving DecidableEq
@[ext] structure Idt where
  t : Int
  n : Int
deriving DecidableEq
@[ext] structure It where
  id : Idt
  fields : List Pr
deriving DecidableEq
@[ext] structure Wt where
  id : Idt
  who : ByteArray
  at' : Int
  tm : Int
deriving DecidableEq
@[ext] structure Gr where
  name : ByteArray
  last : Idt
  waits : List Wt
deriving DecidableEq
@[ext] structure Stm where
  last : Idt
  items : List It
  groups : List Gr
deriving DecidableEq
def Pr.row (x : Pr) : List T := [.str x.k, .str x.v]
def It.row (x : It) : List T := [.int .i64 x.id.t, .int .i64 x.id.n, .list false 2 (x.fields.map Pr.row)]
def Wt.row (x : Wt) : List T := [.int .i64 x.id.t, .int .i64 x.id.n, .str x.who, .int .i64 x.at', .int .i64 x.tm]
def Gr.row (x : Gr) : List T := [.str x.name, .int .i64 x.last.t, .int .i64 x.last.n, .list false 5 (x.waits.map Wt.row)]
def It.rowO (x : It) : List T := [.int .i64 x.id.t, .int .i64 x.id.n, .list true 2 (x.fields.map Pr.row)]
def Gr.rowO (x : Gr) : List T := [.str x.name, .int .i64 x.last.t, .int .i64 x.last.n, .list true 5 (x.waits.map Wt.row)]
def It.sm (x : It) : Prop := x.fields.length < 4611686018427387904
def Gr.sm (x : Gr) : Prop := x.waits.length < 4611686018427387904
def Stm.sm (x : Stm) : Prop := x.items.length < 4611686018427387904 ∧ x.groups.length < 4611686018427387904 ∧ (∀ i ∈ x.items, i.sm) ∧ ∀ g ∈ x.groups, g.sm
def cutM (n : Int) (w : Nat) : Int := if n < w then -1 else n - w
theorem cutM_lt (n : Int) (w : Nat) : cutM n w < 0 ↔ n < w := by unfold cutM; split <;> omega
theorem cutM_ge {n : Int} {w : Nat} (h : ¬ n < w) : cutM n w = n - w := by simp [cutM, h]
def Pr.w (x : Pr) : Nat := x.k.size + x.v.size
def It.w (x : It) : Nat := wAll Pr.w x.fields
def Wt.w (x : Wt) : Nat := x.who.size
def Gr.w (x : Gr) : Nat := x.name.size + wAll Wt.w x.waits
def Stm.w (x : Stm) : Nat := wAll It.w x.items + wAll Gr.w x.groups
def ts (l : List T) : List AV := l.map .t
abbrev Pr.av (x : Pr) : AV := .agg [.t (.str x.k), .t (.str x.v)]
abbrev Idt.av (x : Idt) : AV := .agg [I x.t, I x.n]
abbrev It.av (x : It) : AV := .agg [I x.id.t, I x.id.n, .t (.list false 2 (x.fields.map Pr.row))]
abbrev Wt.av (x : Wt) : AV := .agg [I x.id.t, I x.id.n, .t (.str x.who), I x.at', I x.tm]
abbrev Gr.av (x : Gr) : AV := .agg [.t (.str x.name), I x.last.t, I x.last.n, .t (.list false 5 (x.waits.map Wt.row))]
abbrev Stm.av (x : Stm) : AV := .agg [I x.last.t, I x.last.n, .t (.list false 3 (x.items.map It.row)), .t (.list false 4 (x.groups.map Gr.row))]
theorem bytesEq_iff (a b : ByteArray) : bytesEq a b = decide (a = b) := by
  unfold bytesEq
  rw [ByteArray.toList_eq, ByteArray.toList_eq]
  obtain ⟨⟨x⟩⟩ := a
  obtain ⟨⟨y⟩⟩ := b
  by_cases h : x = y
  · subst h; simp
  · have h1 : (x == y) = false := by simpa using h
    simp [h, h1]
theorem mk_rows {α : Type} (f : α → List T) (h : ∀ x, (f x).map (T.mk false) = f x) (l : List α) : (l.map f).map (List.map (T.mk false)) = l.map f := by
  rw [List.map_map]
  exact List.map_congr_left fun x _ => h x
theorem Pr.mk_rows (l : List Pr) : (l.map Pr.row).map (List.map (T.mk false)) = l.map Pr.row := Am.mk_rows _ (fun _ => rfl) l
theorem Wt.mk_rows (l : List Wt) : (l.map Wt.row).map (List.map (T.mk false)) = l.map Wt.row := Am.mk_rows _ (fun _ => rfl) l
theorem It.mk_rows (l : List It) : (l.map It.row).map (List.map (T.mk false)) = l.map It.row := Am.mk_rows _ (fun x => by simp only [It.row, List.map_cons, List.map_nil, T.mk_list, T.mk_int, Pr.mk_rows]) l
theorem Gr.mk_rows (l : List Gr) : (l.map Gr.row).map (List.map (T.mk false)) = l.map Gr.row := Am.mk_rows _ (fun x => by simp only [Gr.row, List.map_cons, List.map_nil, T.mk_list, T.mk_int, T.mk_str, Wt.mk_rows]) l
attribute [go_sem] bytesEq_iff Pr.mk_rows Wt.mk_rows It.mk_rows Gr.mk_rows
end Go.Proofs.Ytofiljboaegekab.Am
namespace Go.Proofs.Ytofiljboaegekab.Am
open Go
set_option maxRecDepth 100000
set_option linter.unusedSimpArgs false
set_option linter.unusedVariables false
def dig (n : Nat) : ByteArray := ⟨#[UInt8.ofNat (IntKind.u8.wrap (48 + (n : Int))).toNat]⟩
def mtL (n : Nat) (out : ByteArray) : ByteArray := if h : n = 0 then out else mtL (n / 10) (dig (n % 10) ++ out)
termination_by n
decreasing_by omega
theorem mtL_pos {n : Nat} (h : 0 < n) (out : ByteArray) : mtL n out = mtL (n / 10) (dig (n % 10) ++ out) := by rw [mtL, dif_neg (by omega)]
theorem mtL_0 (out : ByteArray) : mtL 0 out = out := by rw [mtL, dif_pos rfl]
def mt (k : Int) : ByteArray := if k ≤ 0 then "m0".toUTF8 else "m".toUTF8 ++ mtL k.toNat .empty
theorem p_markText : Plain Try.prog 85 := ⟨_, Try.func85, rfl, by decide⟩
theorem s_markText (k : Int) (hk : k < 1000000000000000000) : Spec Try.prog 85 [I k] (fun r => r = .t (.str (mt k))) := by
  refine Spec.of tysOk mixed Try.func85 rfl (by decide) ?_
  simp -implicitDefEqProofs only [go_sem, Try.f85]
  refine BrA_i (fun h => ?_) (fun h => ?_) <;> simp -implicitDefEqProofs only [go_sem]
  · have h : k ≤ 0 := by simpa using h
    simp only [mt, if_pos h]; rfl
  · have h : 0 < k := by simpa using h
    refine LoopW.slotsL (α := Nat × ByteArray × Nat) (fun p => [(0, I p.1), (3, .t (.str p.2.1))]) (fun _ => []) (fun p => p.1) (fun p => mtL p.1 p.2.1 = mtL k.toNat .empty ∧ p.1 < 10 ^ p.2.2 ∧ p.2.1.size + p.2.2 ≤ 100 ∧ p.1 ≤ k.toNat) (k.toNat, .empty, 18) ?_ rfl ?_ ?_
    · simp -implicitDefEqProofs only [go_sem, LeTs_undef, LeTs_same, LeTs_nil, Int.toNat_of_nonneg (show 0 ≤ k by omega)]
      simp [LeTs]; rfl
    · refine ⟨rfl, ?_, ?_, Nat.le_refl _⟩
      · show k.toNat < 10 ^ 18; omega
      · show (0 + 18 ≤ 100); omega
    rintro ⟨n, out, f⟩ ⟨h1, h2, h3, h4⟩
    simp -implicitDefEqProofs only [go_sem]
    refine BrA_i (fun h => ?_) (fun h => ?_) <;> simp -implicitDefEqProofs only [go_sem]
    · have h : 0 < n := by simp at h; omega
      simp only at h1 h2 h3 h4
      have e1 : IntKind.i64.wrap (48 + (n : Int).tmod 10) = 48 + ((n % 10 : Nat) : Int) := by
        have : (n : Int).tmod 10 = ((n % 10 : Nat) : Int) := rfl
        rw [this, wrap64 (by omega) (by omega)]
      have e2 : IntKind.i64.wrap ((n : Int).tdiv 10) = ((n / 10 : Nat) : Int) := by
        have h0 : (n : Int).tdiv 10 = ((n / 10 : Nat) : Int) := rfl
        rw [h0, wrap64 (by omega) (by omega)]
      have ed : (⟨#[UInt8.ofNat (IntKind.u8.wrap (48 + ((n % 10 : Nat) : Int))).toNat]⟩ : ByteArray) = dig (n % 10) := rfl
      rw [e1, e2, ed]
      have hf : f ≠ 0 := fun e => by subst e; simp at h2; omega
      obtain ⟨f, rfl⟩ : ∃ g, f = g + 1 := ⟨f - 1, by omega⟩
      have hsz : (dig (n % 10) ++ out).size = out.size + 1 := by
        rw [ByteArray.size_append]; show 1 + out.size = _; omega
      refine ⟨by unfold strMax; omega, .to [96] (n / 10, dig (n % 10) ++ out, f) rfl ?_ rfl ?_ ⟨?_, ?_, ?_, ?_⟩⟩
      · simp -implicitDefEqProofs only [go_sem, LeTs_undef, LeTs_same, LeTs_nil]
      · show n / 10 < n; omega
      · show mtL (n / 10) (dig (n % 10) ++ out) = _
        rw [← h1, mtL_pos h]
      · show n / 10 < 10 ^ f
        rw [Nat.pow_succ] at h2; omega
      · show (dig (n % 10) ++ out).size + f ≤ 100; omega
      · show n / 10 ≤ k.toNat; omega
    · have h : n = 0 := by simp at h; omega
      subst h
      simp only at h1 h2 h3 h4
      rw [mtL_0] at h1
      refine ⟨by unfold strMax; omega, ?_⟩
      have hk0 : ¬ k ≤ 0 := by omega
      simp only [mt, if_neg hk0, ← h1]
      rfl
end Go.Proofs.Ytofiljboaegekab.Am
namespace Go.Proofs.Ytofiljboaegekab.Am
open Go
set_option maxRecDepth 100000
set_option linter.unusedSimpArgs false
set_option linter.unusedVariables false
def Pr.mw (x : Pr) : Nat := 2
def Pr.m (x : Pr) (k : Int) : Pr := ⟨mt (k), mt (k + 1)⟩
theorem p_markPairS : Plain Try.prog 58 := ⟨_, Try.func58, rfl, by decide⟩
theorem s_markPairS (xs : List Pr) (k : Int) (hk : 0 ≤ k) (hb : k + (wSum Pr.mw xs : Nat) < 10000000000000000) (hx : xs.length < 10000000000000000) : SpecO Try.prog 58 [.refw 9000, I k] [(9000, .rows 2 (xs.map Pr.row))]
    (fun r h => r = I (k + (wSum Pr.mw xs : Nat)) ∧ h = [(9000, .rows 2 ((mkAll Pr.m Pr.mw xs k).map Pr.row))]) := by
  refine SpecO.of tysOk mixed Try.func58 rfl (by decide) ?_
  have hl : ((mkAll Pr.m Pr.mw xs k).map Pr.row).length = (xs.map Pr.row).length := by rw [List.length_map, List.length_map, mkAll_len]
  simp -implicitDefEqProofs only [go_sem, Try.f58]
  refine LoopW.slotsL (α := Nat) (fun i => [(5, I i), (1, I (k + (wSum Pr.mw (xs.take i) : Nat)))]) (fun i => [(9000, .rows 2 (mixR ((mkAll Pr.m Pr.mw xs k).map Pr.row) (xs.map Pr.row) i))]) (fun i => xs.length - i) (fun i => i ≤ xs.length) 0 ?_ ?_ (by omega) ?_
  · simp -implicitDefEqProofs only [go_sem, LeTs_undef, LeTs_same, LeTs_nil]
    simp [LeTs, wSum]
  · simp -implicitDefEqProofs only [go_sem, mix_0]
  intro i hi
  have hw := wSum_le Pr.mw xs i
  have hml : (mixR ((mkAll Pr.m Pr.mw xs k).map Pr.row) (xs.map Pr.row) i).length = xs.length := by rw [mix_len hl (by simpa using hi), List.length_map]
  simp -implicitDefEqProofs only [go_sem, hml]
  refine BrA_i (fun h => ?_) (fun h => ?_) <;> simp -implicitDefEqProofs only [go_sem]
  · have h : i < xs.length := by simp at h; omega
    have hw1 := wSum_take Pr.mw xs h
    have hw2 := wSum_le Pr.mw xs (i + 1)
    obtain ⟨K, hK⟩ : ∃ K : Int, K = k + (wSum Pr.mw (xs.take i) : Nat) := ⟨_, rfl⟩
    have hK1 : k + (wSum Pr.mw (xs.take (i + 1)) : Nat) = K + (Pr.mw xs[i] : Nat) := by rw [hw1, hK]; omega
    rw [← hK]
    have hmw : Pr.mw xs[i] = 2 := rfl
    have h0i : (0 : Int) ≤ i := by omega
    have h1i : (i : Int) < xs.length := by omega
    have hg : (mixR ((mkAll Pr.m Pr.mw xs k).map Pr.row) (xs.map Pr.row) i).getD i [] = [.str xs[i].k, .str xs[i].v] := by rw [mix_getD hl (by simpa using h), row_getD _ _ h]; rfl
    have hn : ((mkAll Pr.m Pr.mw xs k).map Pr.row).getD i [] = [.str (mt (K)), .str (mt (K + 1))] := by rw [mkAll_getD _ _ _ _ _ h, ← hK]; rfl
    have hst := mix_set hl (i := i) (by simpa using h)
    rw [hn] at hst
    have hsg : ∀ r, ((mixR ((mkAll Pr.m Pr.mw xs k).map Pr.row) (xs.map Pr.row) i).set i r).getD i [] = r := fun r => set_getD (by omega) r
    have wi : IntKind.i64.wrap ((i : Int) + 1) = ((i + 1 : Nat) : Int) := by rw [wrap64 (by omega) (by omega)]; omega
    have w0 : IntKind.i64.wrap (K + 1) = K + 1 := by rw [wrap64 (by omega) (by omega)]
    have w1 : IntKind.i64.wrap (K + 1 + 1) = K + 2 := by rw [wrap64 (by omega) (by omega)]; omega
    simp -implicitDefEqProofs only [go_sem, hml, h0i, h1i, h, hg, hsg, wi, w0, w1]
    refine .one (s_markText _ (by omega)) p_markText rfl trivial ?_
    simp -implicitDefEqProofs only [go_sem, hml, h0i, h1i, h, hg, hsg, wi, w0, w1]
    refine .one (s_markText _ (by omega)) p_markText rfl trivial ?_
    simp -implicitDefEqProofs only [go_sem, hml, h0i, h1i, h, hg, hsg, wi, w0, w1]
    refine .to [] (i + 1) rfl ?_ ?_ (by omega) (by omega)
    · simp -implicitDefEqProofs only [go_sem, LeTs_undef, LeTs_same, LeTs_nil, hK1, hmw]
      try simp [LeTs]
      try omega
    · try simp -implicitDefEqProofs only [go_sem, hst]
  · have h : i = xs.length := by simp at h; omega
    subst h
    have hm : mixR ((mkAll Pr.m Pr.mw xs k).map Pr.row) (xs.map Pr.row) xs.length = ((mkAll Pr.m Pr.mw xs k).map Pr.row) := by
      have := mix_all hl; rwa [List.length_map] at this
    simp -implicitDefEqProofs only [go_sem, hm, List.take_length, mkAll_len]
theorem p_heldPairS : Plain Try.prog 140 := ⟨_, Try.func140, rfl, by decide⟩
theorem s_heldPairS (xs : List Pr) (k : Int) (hk : 0 ≤ k) (hb : k + (wSum Pr.mw xs : Nat) < 10000000000000000) (hx : xs.length < 10000000000000000) : Spec Try.prog 140 [.t (.list false 2 ((mkAll Pr.m Pr.mw xs k).map Pr.row)), I k]
    (fun r => r = I (k + (wSum Pr.mw xs : Nat))) := by
  refine Spec.of tysOk mixed Try.func140 rfl (by decide) ?_
  simp -implicitDefEqProofs only [go_sem, Try.f140, mkAll_len]
  refine LoopW.slotsL (α := Nat) (fun i => [(5, I i), (1, I (k + (wSum Pr.mw (xs.take i) : Nat)))]) (fun i => []) (fun i => xs.length - i) (fun i => i ≤ xs.length) 0 ?_ rfl (by omega) ?_
  · simp -implicitDefEqProofs only [go_sem, LeTs_undef, LeTs_same, LeTs_nil]
    simp [LeTs, wSum]
  intro i hi
  have hw := wSum_le Pr.mw xs i
  simp -implicitDefEqProofs only [go_sem, mkAll_len]
  refine BrA_i (fun h => ?_) (fun h => ?_) <;> simp -implicitDefEqProofs only [go_sem]
  · have h : i < xs.length := by simp at h; omega
    have hw1 := wSum_take Pr.mw xs h
    have hw2 := wSum_le Pr.mw xs (i + 1)
    obtain ⟨K, hK⟩ : ∃ K : Int, K = k + (wSum Pr.mw (xs.take i) : Nat) := ⟨_, rfl⟩
    have hK1 : k + (wSum Pr.mw (xs.take (i + 1)) : Nat) = K + (Pr.mw xs[i] : Nat) := by rw [hw1, hK]; omega
    rw [← hK]
    have hmw : Pr.mw xs[i] = 2 := rfl
    have h0i : (0 : Int) ≤ i := by omega
    have h1i : (i : Int) < xs.length := by omega
    have hn : ((mkAll Pr.m Pr.mw xs k).map Pr.row).getD i [] = [.str (mt (K)), .str (mt (K + 1))] := by rw [mkAll_getD _ _ _ _ _ h, ← hK]; rfl
    have wi : IntKind.i64.wrap ((i : Int) + 1) = ((i + 1 : Nat) : Int) := by rw [wrap64 (by omega) (by omega)]; omega
    have w0 : IntKind.i64.wrap (K + 1) = K + 1 := by rw [wrap64 (by omega) (by omega)]
    have w1 : IntKind.i64.wrap (K + 1 + 1) = K + 2 := by rw [wrap64 (by omega) (by omega)]; omega
    simp -implicitDefEqProofs only [go_sem, mkAll_len, h0i, h1i, h, hn, wi, w0, w1]
    (first | refine RegD_of sch_140_4 tysOk (by decide +kernel) ?_ | refine RegD_of sch_140_7 tysOk (by decide +kernel) ?_)
    simp -implicitDefEqProofs only [go_sem, mkAll_len, h0i, h1i, h, hn, wi, w0, w1]
    refine .one (s_markText _ (by omega)) p_markText rfl trivial ?_
    simp -implicitDefEqProofs only [go_sem, mkAll_len, h0i, h1i, h, hn, wi, w0, w1]
    (first | refine RegD_of sch_140_4 tysOk (by decide +kernel) ?_ | refine RegD_of sch_140_7 tysOk (by decide +kernel) ?_)
    simp -implicitDefEqProofs only [go_sem, mkAll_len, h0i, h1i, h, hn, wi, w0, w1]
    refine .one (s_markText _ (by omega)) p_markText rfl trivial ?_
    simp -implicitDefEqProofs only [go_sem, mkAll_len, h0i, h1i, h, hn, wi, w0, w1]
    refine .to [] (i + 1) rfl ?_ rfl (by omega) (by omega)
    · simp -implicitDefEqProofs only [go_sem, LeTs_undef, LeTs_same, LeTs_nil, hK1, hmw]
      try simp [LeTs]
      try omega
  · have h : i = xs.length := by simp at h; omega
    subst h
    simp -implicitDefEqProofs only [go_sem, List.take_length, mkAll_len]
def It.mw (x : It) : Nat := 2 + wSum Pr.mw x.fields
def It.m (x : It) (k : Int) : It := ⟨⟨k, k + 1⟩, mkAll Pr.m Pr.mw x.fields (k + 2)⟩
theorem p_markItemS : Plain Try.prog 65 := ⟨_, Try.func65, rfl, by decide⟩
theorem s_markItemS (xs : List It) (k : Int) (hk : 0 ≤ k) (hb : k + (wSum It.mw xs : Nat) < 10000000000000000) (hx : xs.length < 10000000000000000) : SpecO Try.prog 65 [.refw 9000, I k] [(9000, .rows 3 (xs.map It.rowO))]
    (fun r h => r = I (k + (wSum It.mw xs : Nat)) ∧ h = [(9000, .rows 3 ((mkAll It.m It.mw xs k).map It.rowO))]) := by
  refine SpecO.of tysOk mixed Try.func65 rfl (by decide) ?_
  have hl : ((mkAll It.m It.mw xs k).map It.rowO).length = (xs.map It.rowO).length := by rw [List.length_map, List.length_map, mkAll_len]
  simp -implicitDefEqProofs only [go_sem, Try.f65]
  refine LoopW.slotsL (α := Nat) (fun i => [(5, I i), (1, I (k + (wSum It.mw (xs.take i) : Nat)))]) (fun i => [(9000, .rows 3 (mixR ((mkAll It.m It.mw xs k).map It.rowO) (xs.map It.rowO) i))]) (fun i => xs.length - i) (fun i => i ≤ xs.length) 0 ?_ ?_ (by omega) ?_
  · simp -implicitDefEqProofs only [go_sem, LeTs_undef, LeTs_same, LeTs_nil]
    simp [LeTs, wSum]
  · simp -implicitDefEqProofs only [go_sem, mix_0]
  intro i hi
  have hw := wSum_le It.mw xs i
  have hml : (mixR ((mkAll It.m It.mw xs k).map It.rowO) (xs.map It.rowO) i).length = xs.length := by rw [mix_len hl (by simpa using hi), List.length_map]
  simp -implicitDefEqProofs only [go_sem, hml]
  refine BrA_i (fun h => ?_) (fun h => ?_) <;> simp -implicitDefEqProofs only [go_sem]
  · have h : i < xs.length := by simp at h; omega
    have hw1 := wSum_take It.mw xs h
    have hw2 := wSum_le It.mw xs (i + 1)
    obtain ⟨K, hK⟩ : ∃ K : Int, K = k + (wSum It.mw (xs.take i) : Nat) := ⟨_, rfl⟩
    have hK1 : k + (wSum It.mw (xs.take (i + 1)) : Nat) = K + (It.mw xs[i] : Nat) := by rw [hw1, hK]; omega
    rw [← hK]
    have hmw : It.mw xs[i] = 2 + wSum Pr.mw xs[i].fields := rfl
    have h0i : (0 : Int) ≤ i := by omega
    have h1i : (i : Int) < xs.length := by omega
    have hg : (mixR ((mkAll It.m It.mw xs k).map It.rowO) (xs.map It.rowO) i).getD i [] = [.int .i64 xs[i].id.t, .int .i64 xs[i].id.n, .list true 2 (xs[i].fields.map Pr.row)] := by rw [mix_getD hl (by simpa using h), row_getD _ _ h]; rfl
    have hn : ((mkAll It.m It.mw xs k).map It.rowO).getD i [] = [.int .i64 (K), .int .i64 (K + 1), .list true 2 ((mkAll Pr.m Pr.mw xs[i].fields (K + 2)).map Pr.row)] := by rw [mkAll_getD _ _ _ _ _ h, ← hK]; rfl
    have hst := mix_set hl (i := i) (by simpa using h)
    rw [hn] at hst
    have hsg : ∀ r, ((mixR ((mkAll It.m It.mw xs k).map It.rowO) (xs.map It.rowO) i).set i r).getD i [] = r := fun r => set_getD (by omega) r
    have wi : IntKind.i64.wrap ((i : Int) + 1) = ((i + 1 : Nat) : Int) := by rw [wrap64 (by omega) (by omega)]; omega
    have w0 : IntKind.i64.wrap (K + 1) = K + 1 := by rw [wrap64 (by omega) (by omega)]
    have w1 : IntKind.i64.wrap (K + 1 + 1) = K + 2 := by rw [wrap64 (by omega) (by omega)]; omega
    have z2 : wSum Pr.mw xs[i].fields ≤ It.mw xs[i] := by rw [hmw]; omega
    simp -implicitDefEqProofs only [go_sem, hml, h0i, h1i, h, hg, hsg, wi, w0, w1]
    refine CallW.n [(9000, 272)] [] [I (K + 2)] 272 rfl (by conv => lhs; simp -implicitDefEqProofs only [go_sem, hml, h0i, h1i, h, hg, hsg, wi, w0, w1]) (s_markPairS xs[i].fields (K + 2) (by omega) (by omega) (by have := wSum_len (w := Pr.mw) (fun _ => by unfold Pr.mw; omega) xs[i].fields; omega)) p_markPairS o58 rfl rfl (by conv => lhs; simp -implicitDefEqProofs only [go_sem]) (by simp -implicitDefEqProofs only [go_sem]) ?_
    rintro _ _ ⟨rfl, rfl⟩
    simp -implicitDefEqProofs only [go_sem, hml, h0i, h1i, h, hg, hsg, wi, w0, w1]
    refine .to [] (i + 1) rfl ?_ ?_ (by omega) (by omega)
    · simp -implicitDefEqProofs only [go_sem, LeTs_undef, LeTs_same, LeTs_nil, hK1, hmw]
      try simp [LeTs]
      try omega
    · try simp -implicitDefEqProofs only [go_sem, hst]
  · have h : i = xs.length := by simp at h; omega
    subst h
    have hm : mixR ((mkAll It.m It.mw xs k).map It.rowO) (xs.map It.rowO) xs.length = ((mkAll It.m It.mw xs k).map It.rowO) := by
      have := mix_all hl; rwa [List.length_map] at this
    simp -implicitDefEqProofs only [go_sem, hm, List.take_length, mkAll_len]
theorem p_heldItemS : Plain Try.prog 66 := ⟨_, Try.func66, rfl, by decide⟩
theorem s_heldItemS (xs : List It) (k : Int) (hk : 0 ≤ k) (hb : k + (wSum It.mw xs : Nat) < 10000000000000000) (hx : xs.length < 10000000000000000) : Spec Try.prog 66 [.t (.list false 3 ((mkAll It.m It.mw xs k).map It.row)), I k]
    (fun r => r = I (k + (wSum It.mw xs : Nat))) := by
  refine Spec.of tysOk mixed Try.func66 rfl (by decide) ?_
  simp -implicitDefEqProofs only [go_sem, Try.f66, mkAll_len]
  refine LoopW.slotsL (α := Nat) (fun i => [(5, I i), (1, I (k + (wSum It.mw (xs.take i) : Nat)))]) (fun i => []) (fun i => xs.length - i) (fun i => i ≤ xs.length) 0 ?_ rfl (by omega) ?_
  · simp -implicitDefEqProofs only [go_sem, LeTs_undef, LeTs_same, LeTs_nil]
    simp [LeTs, wSum]
  intro i hi
  have hw := wSum_le It.mw xs i
  simp -implicitDefEqProofs only [go_sem, mkAll_len]
  refine BrA_i (fun h => ?_) (fun h => ?_) <;> simp -implicitDefEqProofs only [go_sem]
  · have h : i < xs.length := by simp at h; omega
    have hw1 := wSum_take It.mw xs h
    have hw2 := wSum_le It.mw xs (i + 1)
    obtain ⟨K, hK⟩ : ∃ K : Int, K = k + (wSum It.mw (xs.take i) : Nat) := ⟨_, rfl⟩
    have hK1 : k + (wSum It.mw (xs.take (i + 1)) : Nat) = K + (It.mw xs[i] : Nat) := by rw [hw1, hK]; omega
    rw [← hK]
    have hmw : It.mw xs[i] = 2 + wSum Pr.mw xs[i].fields := rfl
    have h0i : (0 : Int) ≤ i := by omega
    have h1i : (i : Int) < xs.length := by omega
    have hn : ((mkAll It.m It.mw xs k).map It.row).getD i [] = [.int .i64 (K), .int .i64 (K + 1), .list false 2 ((mkAll Pr.m Pr.mw xs[i].fields (K + 2)).map Pr.row)] := by rw [mkAll_getD _ _ _ _ _ h, ← hK]; rfl
    have wi : IntKind.i64.wrap ((i : Int) + 1) = ((i + 1 : Nat) : Int) := by rw [wrap64 (by omega) (by omega)]; omega
    have w0 : IntKind.i64.wrap (K + 1) = K + 1 := by rw [wrap64 (by omega) (by omega)]
    have w1 : IntKind.i64.wrap (K + 1 + 1) = K + 2 := by rw [wrap64 (by omega) (by omega)]; omega
    have z2 : wSum Pr.mw xs[i].fields ≤ It.mw xs[i] := by rw [hmw]; omega
    simp -implicitDefEqProofs only [go_sem, mkAll_len, h0i, h1i, h, hn, wi, w0, w1]
    refine .one (s_heldPairS xs[i].fields (K + 2) (by omega) (by omega) (by have := wSum_len (w := Pr.mw) (fun _ => by unfold Pr.mw; omega) xs[i].fields; omega)) p_heldPairS (by simp -implicitDefEqProofs only [go_sem]) trivial ?_
    simp -implicitDefEqProofs only [go_sem, mkAll_len, h0i, h1i, h, hn, wi, w0, w1]
    refine BrA_i (fun h => ?_) (fun h => ?_)
    · exfalso; simp at h; omega
    simp -implicitDefEqProofs only [go_sem, mkAll_len, h0i, h1i, h, hn, wi, w0, w1]
    refine .to [] (i + 1) rfl ?_ rfl (by omega) (by omega)
    · simp -implicitDefEqProofs only [go_sem, LeTs_undef, LeTs_same, LeTs_nil, hK1, hmw]
      try simp [LeTs]
      try omega
  · have h : i = xs.length := by simp at h; omega
    subst h
    simp -implicitDefEqProofs only [go_sem, List.take_length, mkAll_len]
def Wt.mw (x : Wt) : Nat := 5
def Wt.m (x : Wt) (k : Int) : Wt := ⟨⟨k, k + 1⟩, mt (k + 2), k + 3, k + 4⟩
theorem p_markWaitS : Plain Try.prog 170 := ⟨_, Try.func170, rfl, by decide⟩
theorem s_markWaitS (xs : List Wt) (k : Int) (hk : 0 ≤ k) (hb : k + (wSum Wt.mw xs : Nat) < 10000000000000000) (hx : xs.length < 10000000000000000) : SpecO Try.prog 170 [.refw 9000, I k] [(9000, .rows 5 (xs.map Wt.row))]
    (fun r h => r = I (k + (wSum Wt.mw xs : Nat)) ∧ h = [(9000, .rows 5 ((mkAll Wt.m Wt.mw xs k).map Wt.row))]) := by
  refine SpecO.of tysOk mixed Try.func170 rfl (by decide) ?_
  have hl : ((mkAll Wt.m Wt.mw xs k).map Wt.row).length = (xs.map Wt.row).length := by rw [List.length_map, List.length_map, mkAll_len]
  simp -implicitDefEqProofs only [go_sem, Try.f170]
  refine LoopW.slotsL (α := Nat) (fun i => [(5, I i), (1, I (k + (wSum Wt.mw (xs.take i) : Nat)))]) (fun i => [(9000, .rows 5 (mixR ((mkAll Wt.m Wt.mw xs k).map Wt.row) (xs.map Wt.row) i))]) (fun i => xs.length - i) (fun i => i ≤ xs.length) 0 ?_ ?_ (by omega) ?_
  · simp -implicitDefEqProofs only [go_sem, LeTs_undef, LeTs_same, LeTs_nil]
    simp [LeTs, wSum]
  · simp -implicitDefEqProofs only [go_sem, mix_0]
  intro i hi
  have hw := wSum_le Wt.mw xs i
  have hml : (mixR ((mkAll Wt.m Wt.mw xs k).map Wt.row) (xs.map Wt.row) i).length = xs.length := by rw [mix_len hl (by simpa using hi), List.length_map]
  simp -implicitDefEqProofs only [go_sem, hml]
  refine BrA_i (fun h => ?_) (fun h => ?_) <;> simp -implicitDefEqProofs only [go_sem]
  · have h : i < xs.length := by simp at h; omega
    have hw1 := wSum_take Wt.mw xs h
    have hw2 := wSum_le Wt.mw xs (i + 1)
    obtain ⟨K, hK⟩ : ∃ K : Int, K = k + (wSum Wt.mw (xs.take i) : Nat) := ⟨_, rfl⟩
    have hK1 : k + (wSum Wt.mw (xs.take (i + 1)) : Nat) = K + (Wt.mw xs[i] : Nat) := by rw [hw1, hK]; omega
    rw [← hK]
    have hmw : Wt.mw xs[i] = 5 := rfl
    have h0i : (0 : Int) ≤ i := by omega
    have h1i : (i : Int) < xs.length := by omega
    have hg : (mixR ((mkAll Wt.m Wt.mw xs k).map Wt.row) (xs.map Wt.row) i).getD i [] = [.int .i64 xs[i].id.t, .int .i64 xs[i].id.n, .str xs[i].who, .int .i64 xs[i].at', .int .i64 xs[i].tm] := by rw [mix_getD hl (by simpa using h), row_getD _ _ h]; rfl
    have hn : ((mkAll Wt.m Wt.mw xs k).map Wt.row).getD i [] = [.int .i64 (K), .int .i64 (K + 1), .str (mt (K + 2)), .int .i64 (K + 3), .int .i64 (K + 4)] := by rw [mkAll_getD _ _ _ _ _ h, ← hK]; rfl
    have hst := mix_set hl (i := i) (by simpa using h)
    rw [hn] at hst
    have hsg : ∀ r, ((mixR ((mkAll Wt.m Wt.mw xs k).map Wt.row) (xs.map Wt.row) i).set i r).getD i [] = r := fun r => set_getD (by omega) r
    have wi : IntKind.i64.wrap ((i : Int) + 1) = ((i + 1 : Nat) : Int) := by rw [wrap64 (by omega) (by omega)]; omega
    have w0 : IntKind.i64.wrap (K + 1) = K + 1 := by rw [wrap64 (by omega) (by omega)]
    have w1 : IntKind.i64.wrap (K + 1 + 1) = K + 2 := by rw [wrap64 (by omega) (by omega)]; omega
    have w2 : IntKind.i64.wrap (K + 2 + 1) = K + 3 := by rw [wrap64 (by omega) (by omega)]; omega
    have w3 : IntKind.i64.wrap (K + 3 + 1) = K + 4 := by rw [wrap64 (by omega) (by omega)]; omega
    have w4 : IntKind.i64.wrap (K + 4 + 1) = K + 5 := by rw [wrap64 (by omega) (by omega)]; omega
    simp -implicitDefEqProofs only [go_sem, hml, h0i, h1i, h, hg, hsg, wi, w0, w1, w2, w3, w4]
    refine .one (s_markText _ (by omega)) p_markText rfl trivial ?_
    simp -implicitDefEqProofs only [go_sem, hml, h0i, h1i, h, hg, hsg, wi, w0, w1, w2, w3, w4]
    refine .to [] (i + 1) rfl ?_ ?_ (by omega) (by omega)
    · simp -implicitDefEqProofs only [go_sem, LeTs_undef, LeTs_same, LeTs_nil, hK1, hmw]
      try simp [LeTs]
      try omega
    · try simp -implicitDefEqProofs only [go_sem, hst]
  · have h : i = xs.length := by simp at h; omega
    subst h
    have hm : mixR ((mkAll Wt.m Wt.mw xs k).map Wt.row) (xs.map Wt.row) xs.length = ((mkAll Wt.m Wt.mw xs k).map Wt.row) := by
      have := mix_all hl; rwa [List.length_map] at this
    simp -implicitDefEqProofs only [go_sem, hm, List.take_length, mkAll_len]
theorem p_heldWaitS : Plain Try.prog 171 := ⟨_, Try.func171, rfl, by decide⟩
theorem s_heldWaitS (xs : List Wt) (k : Int) (hk : 0 ≤ k) (hb : k + (wSum Wt.mw xs : Nat) < 10000000000000000) (hx : xs.length < 10000000000000000) : Spec Try.prog 171 [.t (.list false 5 ((mkAll Wt.m Wt.mw xs k).map Wt.row)), I k]
    (fun r => r = I (k + (wSum Wt.mw xs : Nat))) := by
  refine Spec.of tysOk mixed Try.func171 rfl (by decide) ?_
  simp -implicitDefEqProofs only [go_sem, Try.f171, mkAll_len]
  refine LoopW.slotsL (α := Nat) (fun i => [(5, I i), (1, I (k + (wSum Wt.mw (xs.take i) : Nat)))]) (fun i => []) (fun i => xs.length - i) (fun i => i ≤ xs.length) 0 ?_ rfl (by omega) ?_
  · simp -implicitDefEqProofs only [go_sem, LeTs_undef, LeTs_same, LeTs_nil]
    simp [LeTs, wSum]
  intro i hi
  have hw := wSum_le Wt.mw xs i
  simp -implicitDefEqProofs only [go_sem, mkAll_len]
  refine BrA_i (fun h => ?_) (fun h => ?_) <;> simp -implicitDefEqProofs only [go_sem]
  · have h : i < xs.length := by simp at h; omega
    have hw1 := wSum_take Wt.mw xs h
    have hw2 := wSum_le Wt.mw xs (i + 1)
    obtain ⟨K, hK⟩ : ∃ K : Int, K = k + (wSum Wt.mw (xs.take i) : Nat) := ⟨_, rfl⟩
    have hK1 : k + (wSum Wt.mw (xs.take (i + 1)) : Nat) = K + (Wt.mw xs[i] : Nat) := by rw [hw1, hK]; omega
    rw [← hK]
    have hmw : Wt.mw xs[i] = 5 := rfl
    have h0i : (0 : Int) ≤ i := by omega
    have h1i : (i : Int) < xs.length := by omega
    have hn : ((mkAll Wt.m Wt.mw xs k).map Wt.row).getD i [] = [.int .i64 (K), .int .i64 (K + 1), .str (mt (K + 2)), .int .i64 (K + 3), .int .i64 (K + 4)] := by rw [mkAll_getD _ _ _ _ _ h, ← hK]; rfl
    have wi : IntKind.i64.wrap ((i : Int) + 1) = ((i + 1 : Nat) : Int) := by rw [wrap64 (by omega) (by omega)]; omega
    have w0 : IntKind.i64.wrap (K + 1) = K + 1 := by rw [wrap64 (by omega) (by omega)]
    have w1 : IntKind.i64.wrap (K + 1 + 1) = K + 2 := by rw [wrap64 (by omega) (by omega)]; omega
    have w2 : IntKind.i64.wrap (K + 2 + 1) = K + 3 := by rw [wrap64 (by omega) (by omega)]; omega
    have w3 : IntKind.i64.wrap (K + 3 + 1) = K + 4 := by rw [wrap64 (by omega) (by omega)]; omega
    have w4 : IntKind.i64.wrap (K + 4 + 1) = K + 5 := by rw [wrap64 (by omega) (by omega)]; omega
    simp -implicitDefEqProofs only [go_sem, mkAll_len, h0i, h1i, h, hn, wi, w0, w1, w2, w3, w4]
    (first | refine RegD_of sch_171_10 tysOk (by decide +kernel) ?_)
    simp -implicitDefEqProofs only [go_sem, mkAll_len, h0i, h1i, h, hn, wi, w0, w1, w2, w3, w4]
    refine .one (s_markText _ (by omega)) p_markText rfl trivial ?_
    simp -implicitDefEqProofs only [go_sem, mkAll_len, h0i, h1i, h, hn, wi, w0, w1, w2, w3, w4]
    refine .to [] (i + 1) rfl ?_ rfl (by omega) (by omega)
    · simp -implicitDefEqProofs only [go_sem, LeTs_undef, LeTs_same, LeTs_nil, hK1, hmw]
      try simp [LeTs]
      try omega
  · have h : i = xs.length := by simp at h; omega
    subst h
    simp -implicitDefEqProofs only [go_sem, List.take_length, mkAll_len]
def Gr.mw (x : Gr) : Nat := 3 + wSum Wt.mw x.waits
def Gr.m (x : Gr) (k : Int) : Gr := ⟨mt (k), ⟨k + 1, k + 2⟩, mkAll Wt.m Wt.mw x.waits (k + 3)⟩
theorem p_markGroupS : Plain Try.prog 126 := ⟨_, Try.func126, rfl, by decide⟩
theorem s_markGroupS (xs : List Gr) (k : Int) (hk : 0 ≤ k) (hb : k + (wSum Gr.mw xs : Nat) < 10000000000000000) (hx : xs.length < 10000000000000000) : SpecO Try.prog 126 [.refw 9000, I k] [(9000, .rows 4 (xs.map Gr.rowO))]
    (fun r h => r = I (k + (wSum Gr.mw xs : Nat)) ∧ h = [(9000, .rows 4 ((mkAll Gr.m Gr.mw xs k).map Gr.rowO))]) := by
  refine SpecO.of tysOk mixed Try.func126 rfl (by decide) ?_
  have hl : ((mkAll Gr.m Gr.mw xs k).map Gr.rowO).length = (xs.map Gr.rowO).length := by rw [List.length_map, List.length_map, mkAll_len]
  simp -implicitDefEqProofs only [go_sem, Try.f126]
  refine LoopW.slotsL (α := Nat) (fun i => [(5, I i), (1, I (k + (wSum Gr.mw (xs.take i) : Nat)))]) (fun i => [(9000, .rows 4 (mixR ((mkAll Gr.m Gr.mw xs k).map Gr.rowO) (xs.map Gr.rowO) i))]) (fun i => xs.length - i) (fun i => i ≤ xs.length) 0 ?_ ?_ (by omega) ?_
  · simp -implicitDefEqProofs only [go_sem, LeTs_undef, LeTs_same, LeTs_nil]
    simp [LeTs, wSum]
  · simp -implicitDefEqProofs only [go_sem, mix_0]
  intro i hi
  have hw := wSum_le Gr.mw xs i
  have hml : (mixR ((mkAll Gr.m Gr.mw xs k).map Gr.rowO) (xs.map Gr.rowO) i).length = xs.length := by rw [mix_len hl (by simpa using hi), List.length_map]
  simp -implicitDefEqProofs only [go_sem, hml]
  refine BrA_i (fun h => ?_) (fun h => ?_) <;> simp -implicitDefEqProofs only [go_sem]
  · have h : i < xs.length := by simp at h; omega
    have hw1 := wSum_take Gr.mw xs h
    have hw2 := wSum_le Gr.mw xs (i + 1)
    obtain ⟨K, hK⟩ : ∃ K : Int, K = k + (wSum Gr.mw (xs.take i) : Nat) := ⟨_, rfl⟩
    have hK1 : k + (wSum Gr.mw (xs.take (i + 1)) : Nat) = K + (Gr.mw xs[i] : Nat) := by rw [hw1, hK]; omega
    rw [← hK]
    have hmw : Gr.mw xs[i] = 3 + wSum Wt.mw xs[i].waits := rfl
    have h0i : (0 : Int) ≤ i := by omega
    have h1i : (i : Int) < xs.length := by omega
    have hg : (mixR ((mkAll Gr.m Gr.mw xs k).map Gr.rowO) (xs.map Gr.rowO) i).getD i [] = [.str xs[i].name, .int .i64 xs[i].last.t, .int .i64 xs[i].last.n, .list true 5 (xs[i].waits.map Wt.row)] := by rw [mix_getD hl (by simpa using h), row_getD _ _ h]; rfl
    have hn : ((mkAll Gr.m Gr.mw xs k).map Gr.rowO).getD i [] = [.str (mt (K)), .int .i64 (K + 1), .int .i64 (K + 2), .list true 5 ((mkAll Wt.m Wt.mw xs[i].waits (K + 3)).map Wt.row)] := by rw [mkAll_getD _ _ _ _ _ h, ← hK]; rfl
    have hst := mix_set hl (i := i) (by simpa using h)
    rw [hn] at hst
    have hsg : ∀ r, ((mixR ((mkAll Gr.m Gr.mw xs k).map Gr.rowO) (xs.map Gr.rowO) i).set i r).getD i [] = r := fun r => set_getD (by omega) r
    have wi : IntKind.i64.wrap ((i : Int) + 1) = ((i + 1 : Nat) : Int) := by rw [wrap64 (by omega) (by omega)]; omega
    have w0 : IntKind.i64.wrap (K + 1) = K + 1 := by rw [wrap64 (by omega) (by omega)]
    have w1 : IntKind.i64.wrap (K + 1 + 1) = K + 2 := by rw [wrap64 (by omega) (by omega)]; omega
    have w2 : IntKind.i64.wrap (K + 2 + 1) = K + 3 := by rw [wrap64 (by omega) (by omega)]; omega
    have z3 : wSum Wt.mw xs[i].waits ≤ Gr.mw xs[i] := by rw [hmw]; omega
    simp -implicitDefEqProofs only [go_sem, hml, h0i, h1i, h, hg, hsg, wi, w0, w1, w2]
    refine .one (s_markText _ (by omega)) p_markText rfl trivial ?_
    simp -implicitDefEqProofs only [go_sem, hml, h0i, h1i, h, hg, hsg, wi, w0, w1, w2]
    refine CallW.n [(9000, 336)] [] [I (K + 3)] 336 rfl (by conv => lhs; simp -implicitDefEqProofs only [go_sem, hml, h0i, h1i, h, hg, hsg, wi, w0, w1, w2]) (s_markWaitS xs[i].waits (K + 3) (by omega) (by omega) (by have := wSum_len (w := Wt.mw) (fun _ => by unfold Wt.mw; omega) xs[i].waits; omega)) p_markWaitS o170 rfl rfl (by conv => lhs; simp -implicitDefEqProofs only [go_sem]) (by simp -implicitDefEqProofs only [go_sem]) ?_
    rintro _ _ ⟨rfl, rfl⟩
    simp -implicitDefEqProofs only [go_sem, hml, h0i, h1i, h, hg, hsg, wi, w0, w1, w2]
    refine .to [] (i + 1) rfl ?_ ?_ (by omega) (by omega)
    · simp -implicitDefEqProofs only [go_sem, LeTs_undef, LeTs_same, LeTs_nil, hK1, hmw]
      try simp [LeTs]
      try omega
    · try simp -implicitDefEqProofs only [go_sem, hst]
  · have h : i = xs.length := by simp at h; omega
    subst h
    have hm : mixR ((mkAll Gr.m Gr.mw xs k).map Gr.rowO) (xs.map Gr.rowO) xs.length = ((mkAll Gr.m Gr.mw xs k).map Gr.rowO) := by
      have := mix_all hl; rwa [List.length_map] at this
    simp -implicitDefEqProofs only [go_sem, hm, List.take_length, mkAll_len]
end Go.Proofs.Ytofiljboaegekab.Am
namespace Go.Proofs.Ytofiljboaegekab.Am
open Go
set_option maxRecDepth 100000
set_option linter.unusedSimpArgs false
set_option linter.unusedVariables false
theorem shared_Pr (xs : List Pr) : sharedRows (xs.map Pr.row) = xs.map Pr.row := by
  unfold sharedRows
  rw [List.map_map]
  exact List.map_congr_left fun x _ => rfl
theorem shared_Wt (xs : List Wt) : sharedRows (xs.map Wt.row) = xs.map Wt.row := by
  unfold sharedRows
  rw [List.map_map]
  exact List.map_congr_left fun x _ => rfl
theorem p_copiedPairs : Plain Try.prog 135 := ⟨_, Try.func135, rfl, by decide⟩
theorem s_copiedPairs (xs : List Pr) (hx : xs.length ≤ 2097152) : Spec Try.prog 135 [.t (.list false 2 (xs.map Pr.row))] (fun r => r = .own (.list true 2 (xs.map Pr.row))) := by
  refine Spec.of tysOk mixed Try.func135 rfl (by decide) ?_
  simp -implicitDefEqProofs only [go_sem, Try.f135, shared_Pr]
  (unfold roomy; omega)
theorem p_cloneWaits : Plain Try.prog 95 := ⟨_, Try.func95, rfl, by decide⟩
theorem s_cloneWaits (xs : List Wt) (hx : xs.length ≤ 2097152) : Spec Try.prog 95 [.t (.list false 5 (xs.map Wt.row))] (fun r => r = .own (.list true 5 (xs.map Wt.row))) := by
  refine Spec.of tysOk mixed Try.func95 rfl (by decide) ?_
  simp -implicitDefEqProofs only [go_sem, Try.f95, shared_Wt]
  (unfold roomy; omega)
theorem p_cloneItems : Plain Try.prog 96 := ⟨_, Try.func96, rfl, by decide⟩
theorem s_cloneItems (xs : List It) (hx : xs.length ≤ 2097152) (hs : ∀ x ∈ xs, x.fields.length ≤ 2097152) : Spec Try.prog 96 [.t (.list false 3 (xs.map It.row))] (fun r => r = .own (.list true 3 (xs.map It.rowO))) := by
  refine Spec.of tysOk mixed Try.func96 rfl (by decide) ?_
  simp -implicitDefEqProofs only [go_sem, Try.f96]
  refine LoopW.slotsL (α := Nat) (fun i => [(9, I i), (6, .undef)]) (fun i => [(48, .rows 3 ((xs.take i).map It.rowO))]) (fun i => xs.length - i) (fun i => i ≤ xs.length) 0 (by simp -implicitDefEqProofs only [go_sem, LeTs_undef, LeTs_same, LeTs_nil]; simp [LeTs]) rfl (by omega) ?_
  intro i hi
  simp -implicitDefEqProofs only [go_sem]
  refine BrA_i (fun h => ?_) (fun h => ?_)
  · have h : i < xs.length := by simp at h; omega
    have hw1 : IntKind.i64.wrap ((i : Int) + 1) = ((i + 1 : Nat) : Int) := by rw [wrap64 (by omega) (by omega)]; omega
    simp -implicitDefEqProofs only [go_sem, row_getD _ _ h, It.row]
    refine ⟨⟨by omega, by omega⟩, ?_⟩
    refine RegD_of sch_96_5 tysOk (by kernel_rfl) ?_
    simp -implicitDefEqProofs only [go_sem]
    refine .onep (s_copiedPairs xs[i].fields (hs _ (List.getElem_mem _))) p_copiedPairs (by simp -implicitDefEqProofs only [go_sem]) rfl ?_
    simp -implicitDefEqProofs only [go_sem]
    have e : (xs.take (i + 1)).map It.rowO = (xs.take i).map It.rowO ++ [[T.int .i64 xs[i].id.t, T.int .i64 xs[i].id.n, T.list true 2 (xs[i].fields.map Pr.row)]] := by
      rw [List.take_succ_eq_append_getElem h, List.map_append]; rfl
    refine ⟨by unfold roomy; simp; omega, .to [40] (i + 1) rfl ?_ ?_ (by omega) h⟩ <;> simp -implicitDefEqProofs only [go_sem, LeTs_undef, LeTs_same, LeTs_nil, hw1, e]
  · simp -implicitDefEqProofs only [go_sem]
    have h : i = xs.length := by simp at h; omega
    subst h
    rw [List.take_length]
    try exact ⟨by decide, rfl⟩
end Go.Proofs.Ytofiljboaegekab.Am
namespace Go.Proofs.Ytofiljboaegekab.Am
open Go
set_option maxRecDepth 100000
set_option linter.unusedSimpArgs false
set_option linter.unusedVariables false
abbrev Stm.avO (x : Stm) : AV := .agg [I x.last.t, I x.last.n, .own (.list true 3 (x.items.map It.rowO)), .own (.list true 4 (x.groups.map Gr.rowO))]
def Stm.md (s : Stm) : Prop := s.items.length ≤ 1048576 ∧ s.groups.length ≤ 1048576 ∧ (∀ i ∈ s.items, i.fields.length ≤ 1048576) ∧ ∀ g ∈ s.groups, g.waits.length ≤ 1048576
theorem p_cloneStream : Plain Try.prog 90 := ⟨_, Try.func90, rfl, by decide⟩
theorem s_cloneStream (s : Stm) (hs : s.md) : Spec Try.prog 90 [s.av] (fun r => r = s.avO) := by
  obtain ⟨hs1, hs2, hs3, hs4⟩ := hs
  refine Spec.of tysOk mixed Try.func90 rfl (by decide) ?_
  simp -implicitDefEqProofs only [go_sem, Try.f90]
  (first | refine RegD_to sch_90_1 ?sx tysOk (by decide +kernel) ?ga ?gb | refine RegD_to sch_90_5 ?sx tysOk (by decide +kernel) ?ga ?gb)
  case ga =>
    simp -implicitDefEqProofs only [go_sem]
    repeat' (first
      | (refine CallW.onep (s_cloneItems s.items (by omega) (fun x hx => by have := hs3 x hx; omega)) p_cloneItems (by simp -implicitDefEqProofs only [go_sem]) rfl ?_; simp -implicitDefEqProofs only [go_sem])
      | exact rfl
      | refine ⟨?_, ?_⟩)
  simp -implicitDefEqProofs only [go_sem]
  refine LoopW.slotsM [false, false, true, true, false, false, false, false, false, false, false, false, false, false, true, true, true, false, false, false, false, false, false, false, false, false, false, false, false, false, false, false, false, false, false] (α := Nat) (fun i => [(16, I i)]) (fun i => [(88, .rows 4 ((s.groups.take i).map Gr.rowO))]) (fun i => s.groups.length - i) (fun i => i ≤ s.groups.length) 0 (by simp -implicitDefEqProofs only [go_sem, LeTs_undef, LeTs_same, LeTs_nil]; try simp [LeTs]) (by simp -implicitDefEqProofs only [go_sem, List.take_zero]) (by omega) ?_
  intro i hi
  simp -implicitDefEqProofs only [go_sem]
  refine BrA_i (fun h => ?_) (fun h => ?_) <;> simp -implicitDefEqProofs only [go_sem]
  · have h : i < s.groups.length := by simp at h; omega
    have h0i : (0 : Int) ≤ i := by omega
    have h1i : (i : Int) < s.groups.length := by omega
    have wi : IntKind.i64.wrap ((i : Int) + 1) = ((i + 1 : Nat) : Int) := by rw [wrap64 (by omega) (by omega)]; omega
    have hf := hs4 _ (List.getElem_mem h)
    have e : (s.groups.take (i + 1)).map Gr.rowO = (s.groups.take i).map Gr.rowO ++ [[T.str s.groups[i].name, T.int .i64 s.groups[i].last.t, T.int .i64 s.groups[i].last.n, T.list true 5 (s.groups[i].waits.map Wt.row)]] := by
      rw [List.take_succ_eq_append_getElem h, List.map_append]; rfl
    simp -implicitDefEqProofs only [go_sem, h, h0i, h1i, row_getD _ _ h, Gr.row]
    (first | refine RegD_of sch_90_1 tysOk (by decide +kernel) ?_ | refine RegD_of sch_90_5 tysOk (by decide +kernel) ?_)
    simp -implicitDefEqProofs only [go_sem]
    refine CallW.onep (s_cloneWaits s.groups[i].waits (by omega)) p_cloneWaits (by simp -implicitDefEqProofs only [go_sem]) rfl ?_
    simp -implicitDefEqProofs only [go_sem, wi]
    refine ⟨by unfold roomy; simp; omega, .to [40, 240, 248, 225, 226, 227] (i + 1) rfl ?_ ?_ (by omega) h⟩ <;> simp -implicitDefEqProofs only [go_sem, LeTs_undef, LeTs_same, LeTs_nil, e]
  · have h : i = s.groups.length := by simp at h; omega
    subst h
    simp -implicitDefEqProofs only [go_sem, List.take_length]
theorem p_l9Item : Plain Try.prog 102 := ⟨_, Try.func102, rfl, by decide⟩
theorem s_l9Item (x : It) (hx : x.fields.length ≤ 2097152) : Spec Try.prog 102 [x.av] (fun r => r = .agg [I x.id.t, I x.id.n, .own (.list true 2 (x.fields.map Pr.row))]) := by
  refine Spec.of tysOk mixed Try.func102 rfl (by decide) ?_
  simp -implicitDefEqProofs only [go_sem, Try.f102]
  (first | refine RegD_of sch_102_1 tysOk (by decide +kernel) ?_)
  simp -implicitDefEqProofs only [go_sem, shared_Pr]
  (unfold roomy; omega)
theorem p_l9Copy : Plain Try.prog 97 := ⟨_, Try.func97, rfl, by decide⟩
theorem s_l9Copy (s : Stm) (hs : s.md) : Spec Try.prog 97 [s.av] (fun r => r = s.avO) := by
  obtain ⟨hs1, hs2, hs3, hs4⟩ := hs
  refine Spec.of tysOk mixed Try.func97 rfl (by decide) ?_
  simp -implicitDefEqProofs only [go_sem, Try.f97]
  refine LoopW.nil [(24, 2, 208, 3), (24, 3, 392, 4)] (by conv => lhs; simp -implicitDefEqProofs only [go_sem]) ?_
  refine LoopW.slotsM [false, true, true, true, true, false, false, false, false, false, false, false, false, false, false, false, false, false, false, false, false, false, false, false, false, false, false, false, false, false, false, false, false, false, false, false, false, false, false, false, false, false, false, false, false, false, false, false, false, false, false, false] (α := Nat) (fun i => [(4, I i)]) (fun i => [(208, .rows 3 ((s.items.take i).map It.rowO))]) (fun i => s.items.length - i) (fun i => i ≤ s.items.length) 0 (by simp -implicitDefEqProofs only [go_sem, LeTs_undef, LeTs_same, LeTs_nil]; try simp [LeTs]) (by simp -implicitDefEqProofs only [go_sem, List.take_zero, List.map_nil]) (by omega) ?_
  intro i hi
  simp -implicitDefEqProofs only [go_sem]
  refine BrA_i (fun h => ?_) (fun h => ?_) <;> simp -implicitDefEqProofs only [go_sem]
  · have h : i < s.items.length := by simp at h; omega
    have h0i : (0 : Int) ≤ i := by omega
    have h1i : (i : Int) < s.items.length := by omega
    have wi : IntKind.i64.wrap ((i : Int) + 1) = ((i + 1 : Nat) : Int) := by rw [wrap64 (by omega) (by omega)]; omega
    have hf := hs3 _ (List.getElem_mem h)
    have e : (s.items.take (i + 1)).map It.rowO = (s.items.take i).map It.rowO ++ [[T.int .i64 s.items[i].id.t, T.int .i64 s.items[i].id.n, T.list true 2 (s.items[i].fields.map Pr.row)]] := by
      rw [List.take_succ_eq_append_getElem h, List.map_append]; rfl
    refine RegD_of sch_97_5 tysOk (by kernel_rfl) ?_
    simp -implicitDefEqProofs only [go_sem, h, h0i, h1i, row_getD _ _ h, It.row]
    refine CallW.onep (s_l9Item s.items[i] (by omega)) p_l9Item (by simp -implicitDefEqProofs only [go_sem]) rfl ?_
    simp -implicitDefEqProofs only [go_sem, wi]
    refine ⟨by unfold roomy; simp; omega, .to [200, 193, 194, 195] (i + 1) rfl ?_ ?_ (by omega) h⟩ <;> simp -implicitDefEqProofs only [go_sem, LeTs_undef, LeTs_same, LeTs_nil, e]
  · have h : i = s.items.length := by simp at h; omega
    subst h
    clear hi
    simp -implicitDefEqProofs only [go_sem, List.take_length]
    refine LoopW.slotsM [false, true, true, true, false, true, false, false, false, false, false, false, false, false, false, false, false, false, false, false, false, false, false, false, false, false, false, false, false, false, false, false, false, false, false, false, false, false, false, false, false, false, false, false, false, false, false, false, false, false, false, false] (α := Nat) (fun i => [(5, I i)]) (fun i => [(392, .rows 4 ((s.groups.take i).map Gr.rowO))]) (fun i => s.groups.length - i) (fun i => i ≤ s.groups.length) 0 (by simp -implicitDefEqProofs only [go_sem, LeTs_undef, LeTs_same, LeTs_nil]; try simp [LeTs]) (by simp -implicitDefEqProofs only [go_sem, List.take_zero, List.map_nil]) (by omega) ?_
    intro i hi
    simp -implicitDefEqProofs only [go_sem]
    refine BrA_i (fun h => ?_) (fun h => ?_) <;> simp -implicitDefEqProofs only [go_sem]
    · have h : i < s.groups.length := by simp at h; omega
      have h0i : (0 : Int) ≤ i := by omega
      have h1i : (i : Int) < s.groups.length := by omega
      have wi : IntKind.i64.wrap ((i : Int) + 1) = ((i + 1 : Nat) : Int) := by rw [wrap64 (by omega) (by omega)]; omega
      have hf := hs4 _ (List.getElem_mem h)
      have e : (s.groups.take (i + 1)).map Gr.rowO = (s.groups.take i).map Gr.rowO ++ [[T.str s.groups[i].name, T.int .i64 s.groups[i].last.t, T.int .i64 s.groups[i].last.n, T.list true 5 (s.groups[i].waits.map Wt.row)]] := by
        rw [List.take_succ_eq_append_getElem h, List.map_append]; rfl
      have hr : roomy s.groups[i].waits.length 48 := by unfold roomy; omega
      simp -implicitDefEqProofs only [go_sem, h, h0i, h1i, row_getD _ _ h, Gr.row, shared_Wt, hr, wi]
      refine ⟨by unfold roomy; simp; omega, .to [48, 320, 344, 384] (i + 1) rfl ?_ ?_ (by omega) h⟩ <;> simp -implicitDefEqProofs only [go_sem, LeTs_undef, LeTs_same, LeTs_nil, e]
    · have h : i = s.groups.length := by simp at h; omega
      subst h
      simp -implicitDefEqProofs only [go_sem, List.take_length]
end Go.Proofs.Ytofiljboaegekab.Am
namespace Go.Proofs.Ytofiljboaegekab.Am
open Go
set_option maxRecDepth 100000
set_option linter.unusedSimpArgs false
set_option linter.unusedVariables false
theorem s_isNaN (n : Int) : Spec Try.prog 186 [I n] (fun r => r = Bo false) := by
  refine Spec.of tysOk mixed Try.func186 rfl (by decide) ?_
  simp -implicitDefEqProofs only [go_sem, Try.f186]
theorem p_isNaN : Plain Try.prog 186 := ⟨_, Try.func186, rfl, by decide⟩
def cmpM (a b : Int) : Int := if a < b then -1 else if b < a then 1 else 0
theorem s_compare (a b : Int) : Spec Try.prog 157 [I a, I b] (fun r => r = I (cmpM a b)) := by
  refine Spec.of tysOk mixed Try.func157 rfl (by decide) ?_
  simp -implicitDefEqProofs only [go_sem, Try.f157]
  refine .one (s_isNaN _) p_isNaN rfl trivial ?_
  simp -implicitDefEqProofs only [go_sem]
  refine .one (s_isNaN _) p_isNaN rfl trivial ?_
  simp -implicitDefEqProofs only [go_sem]
  refine BrA_i (fun h => ?_) (fun h => ?_)
  · simp -implicitDefEqProofs only [go_sem]; simp_all [cmpM]
  · simp -implicitDefEqProofs only [go_sem]
    refine BrA_i (fun h => ?_) (fun h => ?_) <;> simp -implicitDefEqProofs only [go_sem] <;> simp_all [cmpM] <;> omega
theorem p_compare : Plain Try.prog 157 := ⟨_, Try.func157, rfl, by decide⟩
def firstM (xs : List Int) : Int := (xs.find? (· != 0)).getD 0
theorem s_or (xs : List Int) (hx : xs.length < 1000000) : Spec Try.prog 156 [.t (.list false 1 (xs.map fun n => [T.int .i64 n]))] (fun r => r = I (firstM xs)) := by
  refine Spec.of tysOk mixed Try.func156 rfl (by decide) ?_
  simp -implicitDefEqProofs only [go_sem, Try.f156]
  refine LoopW.slots (α := Nat) (fun i => [(8, I i)]) (fun _ => []) (fun i => xs.length - i) (fun i => i ≤ xs.length ∧ (∀ n ∈ xs.take i, n = 0)) 0 rfl rfl (by simp) ?_
  rintro i ⟨hi, hz⟩
  simp -implicitDefEqProofs only [go_sem]
  refine BrA_i (fun h => ?_) (fun h => ?_)
  · have h : i < xs.length := by simp at h; omega
    simp -implicitDefEqProofs only [go_sem, row_getD _ _ h]
    refine ⟨⟨by omega, by omega⟩, BrA_i (fun h0 => ?_) (fun h0 => ?_)⟩
    rotate_left
    · simp -implicitDefEqProofs only [go_sem]
      have hz' : ∀ n ∈ xs.take i, ¬ ((n != 0) = true) := fun n hn => by simp [hz n hn]
      have : xs = xs.take i ++ xs[i] :: xs.drop (i + 1) := by simp
      have h0 : (xs[i] != 0) = true := by simpa using h0
      have h1 : xs.find? (· != 0) = some xs[i] := by
        rw [List.find?_eq_some_iff_append]
        exact ⟨h0, _, _, this, fun n hn => by simp [hz n hn]⟩
      unfold firstM; rw [h1]; rfl
    · simp -implicitDefEqProofs only [go_sem]
      refine .to [] (i + 1) rfl ?_ rfl (by omega) ⟨h, ?_⟩
      · simp -implicitDefEqProofs only [go_sem, LeTs_undef, LeTs_same]
        simp only [wrap64 (n := (i : Int) + 1) (by omega) (by omega)]
        simp [LeTs]
      · intro n hn
        simp at h0
        rw [List.take_succ_eq_append_getElem h, List.mem_append, List.mem_singleton] at hn
        rcases hn with hn | hn
        · exact hz n hn
        · rw [hn]; exact h0
  · simp -implicitDefEqProofs only [go_sem]
    have h : i = xs.length := by simp at h; omega
    subst h
    have : xs.find? (· != 0) = none := List.find?_eq_none.2 fun n hn => by simp [hz n (by simpa using hn)]
    simp [firstM, this]
theorem p_or : Plain Try.prog 156 := ⟨_, Try.func156, rfl, by decide⟩
def ordM (a b c d : Int) : Int := if cmpM a c = 0 then cmpM b d else cmpM a c
theorem find2 (x y : Int) : firstM [x, y] = if x = 0 then y else x := by
  unfold firstM
  by_cases h : x = 0 <;> by_cases h' : y = 0 <;> simp [List.find?_cons, h, h', bne]
  all_goals (split <;> simp_all)
theorem s_idOrder (a b c d : Int) : Spec Try.prog 109 [.agg [I a, I b], .agg [I c, I d]] (fun r => r = I (ordM a b c d)) := by
  refine Spec.of tysOk mixed Try.func109 rfl (by decide) ?_
  simp -implicitDefEqProofs only [go_sem, Try.f109]
  refine RegD_of sch_109_1 tysOk (by kernel_rfl) ?_
  simp -implicitDefEqProofs only [go_sem]
  refine .one (s_compare _ _) p_compare rfl trivial ?_
  simp -implicitDefEqProofs only [go_sem]
  refine .one (s_compare _ _) p_compare rfl trivial ?_
  simp -implicitDefEqProofs only [go_sem]
  refine .one (s_or [cmpM a c, cmpM b d] (by simp)) p_or rfl trivial ?_
  simp -implicitDefEqProofs only [go_sem]
  rw [find2]; rfl
theorem p_idOrder : Plain Try.prog 109 := ⟨_, Try.func109, rfl, by decide⟩
theorem s_IdLess (a b c d : Int) : Spec Try.prog 71 [.agg [I a, I b], .agg [I c, I d]] (fun r => r = Bo (decide (ordM a b c d < 0))) := by
  refine Spec.of tysOk mixed Try.func71 rfl (by decide) ?_
  simp -implicitDefEqProofs only [go_sem, Try.f71]
  refine .one (s_idOrder _ _ _ _) p_idOrder rfl trivial ?_
  simp -implicitDefEqProofs only [go_sem]
theorem p_IdLess : Plain Try.prog 71 := ⟨_, Try.func71, rfl, by decide⟩
def withinM (n lo hi : Int) : Bool := decide (lo ≤ n) && decide (n ≤ hi)
theorem s_within (n lo hi : Int) : Spec Try.prog 93 [I n, I lo, I hi] (fun r => r = Bo (withinM n lo hi)) := by
  refine Spec.of tysOk mixed Try.func93 rfl (by decide) ?_
  simp -implicitDefEqProofs only [go_sem, Try.f93]
  refine BrA_i (fun h => ?_) (fun h => ?_) <;> simp -implicitDefEqProofs only [go_sem] <;> simp_all [withinM] <;> omega
theorem p_within : Plain Try.prog 93 := ⟨_, Try.func93, rfl, by decide⟩
def keyOkM (b : ByteArray) : Bool := withinM b.size 1 12
theorem s_keyOk (b : ByteArray) : Spec Try.prog 92 [.t (.str b)] (fun r => r = Bo (keyOkM b)) := by
  refine Spec.of tysOk mixed Try.func92 rfl (by decide) ?_
  simp -implicitDefEqProofs only [go_sem, Try.f92]
  refine .one (s_within _ _ _) p_within rfl trivial ?_
  simp -implicitDefEqProofs only [go_sem]
  rfl
theorem p_keyOk : Plain Try.prog 92 := ⟨_, Try.func92, rfl, by decide⟩
def idOkM (a b : Int) : Bool := withinM a 0 1000000 && withinM b 0 1000000000
theorem s_idOk (a b : Int) : Spec Try.prog 108 [.agg [I a, I b]] (fun r => r = Bo (idOkM a b)) := by
  refine Spec.of tysOk mixed Try.func108 rfl (by decide) ?_
  simp -implicitDefEqProofs only [go_sem, Try.f108]
  refine .one (s_within _ _ _) p_within rfl trivial ?_
  simp -implicitDefEqProofs only [go_sem]
  refine BrA_i (fun h => ?_) (fun h => ?_)
  · simp -implicitDefEqProofs only [go_sem]
    refine .one (s_within _ _ _) p_within rfl trivial ?_
    simp -implicitDefEqProofs only [go_sem]
    simp [idOkM, h]
  · simp -implicitDefEqProofs only [go_sem]
    simp [idOkM, h]
theorem p_idOk : Plain Try.prog 108 := ⟨_, Try.func108, rfl, by decide⟩
def okAt (lt ln : Int) (ws : List Wt) (i : Nat) (x : Wt) : Bool :=
  idOkM x.id.t x.id.n && (match i with | 0 => true | j + 1 => match ws[j]? with | some y => decide (ordM y.id.t y.id.n x.id.t x.id.n < 0) | none => true) && !decide (ordM lt ln x.id.t x.id.n < 0) && keyOkM x.who && withinM x.at' 0 1000000 && withinM x.tm 1 1000000000
theorem s_groupOk (name : ByteArray) (lt ln : Int) (ws : List Wt) (hw : ws.length < 2000000) : Spec Try.prog 111 [.agg [.t (.str name), I lt, I ln, .t (.list false 5 (ws.map Wt.row))]]
    (fun r => ∃ b, r = Bo b ∧ b = (decide (∀ i (h : i < ws.length), okAt lt ln ws i ws[i] = true) && keyOkM name && idOkM lt ln && decide (ws.length ≤ 16))) := by
  refine Spec.of tysOk mixed Try.func111 rfl (by decide) ?_
  simp -implicitDefEqProofs only [go_sem, Try.f111]
  refine LoopW.slots (α := Nat) (fun i => [(8, I i)]) (fun _ => []) (fun i => ws.length - i) (fun i => i ≤ ws.length ∧ (∀ j (h : j < ws.length), j < i → okAt lt ln ws j ws[j] = true)) 0 rfl rfl (by simp) ?_
  rintro i ⟨hi, hz⟩
  simp -implicitDefEqProofs only [go_sem]
  refine BrA_i (fun h => ?_) (fun h => ?_)
  · have h : i < ws.length := by simp at h; omega
    simp -implicitDefEqProofs only [go_sem, row_getD _ _ h, Wt.row]
    refine ⟨⟨by omega, by omega⟩, ?_⟩
    refine RegD_of sch_111_4 tysOk (by kernel_rfl) ?_
    have hp : 0 < i → IntKind.i64.wrap ((i : Int) - 1) = ((i - 1 : Nat) : Int) := fun h0 => by rw [wrap64 (by omega) (by omega)]; omega
    have hq : 0 < i → i - 1 < ws.length := fun _ => by omega
    have good : okAt lt ln ws i ws[i] = true → (∀ j (h : j < ws.length), j < i + 1 → okAt lt ln ws j ws[j] = true) := fun hg j hj hl => by
      rcases Nat.lt_succ_iff_lt_or_eq.1 hl with hl | rfl
      · exact hz j hj hl
      · exact hg
    have bad : okAt lt ln ws i ws[i] = false → (∃ b, Bo false = Bo b ∧ b = (decide (∀ i (h : i < ws.length), okAt lt ln ws i ws[i] = true) && keyOkM name && idOkM lt ln && decide (ws.length ≤ 16))) := fun hg => by
      refine ⟨_, rfl, ?_⟩
      have : ¬ ∀ i (h : i < ws.length), okAt lt ln ws i ws[i] = true := fun hall => by rw [hall i h] at hg; cases hg
      simp [this]
    have hw1 : IntKind.i64.wrap ((i : Int) + 1) = ((i + 1 : Nat) : Int) := by rw [wrap64 (by omega) (by omega)]; omega
    simp -implicitDefEqProofs only [go_sem]
    refine .one (s_idOk _ _) p_idOk rfl trivial ?_
    simp -implicitDefEqProofs only [go_sem]
    refine BrA_i (fun h1 => ?_) (fun h1 => ?_) <;> simp -implicitDefEqProofs only [go_sem]
    · refine BrA_i (fun h2 => ?_) (fun h2 => ?_) <;> simp -implicitDefEqProofs only [go_sem]
      · have h2 : 0 < i := by simpa using h2
        simp -implicitDefEqProofs only [go_sem, hp h2, row_getD _ _ (hq h2), Wt.row]
        refine ⟨⟨by omega, by omega⟩, ?_⟩
        refine .one (s_idOrder _ _ _ _) p_idOrder rfl trivial ?_
        simp -implicitDefEqProofs only [go_sem]
        refine BrA_i (fun h3 => ?_) (fun h3 => ?_) <;> simp -implicitDefEqProofs only [go_sem]
        · refine bad ?_
          obtain ⟨j, rfl⟩ : ∃ j, i = j + 1 := ⟨i - 1, by omega⟩
          have hj : ws[j]? = some ws[j] := List.getElem?_eq_getElem (by omega)
          simp only [Nat.add_sub_cancel, decide_eq_true_eq] at h3
          have : ¬ ordM ws[j].id.t ws[j].id.n ws[j + 1].id.t ws[j + 1].id.n < 0 := by omega
          simp [okAt, hj, this]
        have hprev : (match i with | 0 => true | j + 1 => match ws[j]? with | some y => decide (ordM y.id.t y.id.n ws[i].id.t ws[i].id.n < 0) | none => true) = true := by
          obtain ⟨j, rfl⟩ : ∃ j, i = j + 1 := ⟨i - 1, by omega⟩
          have hj : ws[j]? = some ws[j] := List.getElem?_eq_getElem (by omega)
          simp only [Nat.add_sub_cancel, decide_eq_false_iff_not] at h3
          have : ordM ws[j].id.t ws[j].id.n ws[j + 1].id.t ws[j + 1].id.n < 0 := by omega
          simp [hj, this]
        refine .one (s_IdLess _ _ _ _) p_IdLess rfl trivial ?_
        simp -implicitDefEqProofs only [go_sem]
        refine BrA_i (fun h4 => ?_) (fun h4 => ?_) <;> simp -implicitDefEqProofs only [go_sem]
        · exact bad (by simp [okAt, h4])
        refine .one (s_keyOk _) p_keyOk rfl trivial ?_
        simp -implicitDefEqProofs only [go_sem]
        refine BrA_i (fun h5 => ?_) (fun h5 => ?_) <;> simp -implicitDefEqProofs only [go_sem]
        · refine .one (s_within _ _ _) p_within rfl trivial ?_
          simp -implicitDefEqProofs only [go_sem]
          refine BrA_i (fun h6 => ?_) (fun h6 => ?_) <;> simp -implicitDefEqProofs only [go_sem]
          · refine .one (s_within _ _ _) p_within rfl trivial ?_
            simp -implicitDefEqProofs only [go_sem]
            refine BrA_i (fun h7 => ?_) (fun h7 => ?_) <;> simp -implicitDefEqProofs only [go_sem]
            · refine .to [32] (i + 1) rfl ?_ ?_ (by omega) ⟨h, good (by simp [okAt, h1, h4, h5, h6, h7, hprev])⟩ <;> simp -implicitDefEqProofs only [go_sem, LeTs_undef, LeTs_same, LeTs_nil, hw1]
            · exact bad (by simp [okAt, h7])
          · exact bad (by simp [okAt, h6])
        · exact bad (by simp [okAt, h5])
      · have h2 : i = 0 := by simp at h2; omega
        have hprev : (match i with | 0 => true | j + 1 => match ws[j]? with | some y => decide (ordM y.id.t y.id.n ws[i].id.t ws[i].id.n < 0) | none => true) = true := by subst h2; rfl
        refine .one (s_IdLess _ _ _ _) p_IdLess rfl trivial ?_
        simp -implicitDefEqProofs only [go_sem]
        refine BrA_i (fun h4 => ?_) (fun h4 => ?_) <;> simp -implicitDefEqProofs only [go_sem]
        · exact bad (by simp [okAt, h4])
        refine .one (s_keyOk _) p_keyOk rfl trivial ?_
        simp -implicitDefEqProofs only [go_sem]
        refine BrA_i (fun h5 => ?_) (fun h5 => ?_) <;> simp -implicitDefEqProofs only [go_sem]
        · refine .one (s_within _ _ _) p_within rfl trivial ?_
          simp -implicitDefEqProofs only [go_sem]
          refine BrA_i (fun h6 => ?_) (fun h6 => ?_) <;> simp -implicitDefEqProofs only [go_sem]
          · refine .one (s_within _ _ _) p_within rfl trivial ?_
            simp -implicitDefEqProofs only [go_sem]
            refine BrA_i (fun h7 => ?_) (fun h7 => ?_) <;> simp -implicitDefEqProofs only [go_sem]
            · refine .to [32] (i + 1) rfl ?_ ?_ (by omega) ⟨h, good (by simp [okAt, h1, h4, h5, h6, h7, hprev])⟩ <;> simp -implicitDefEqProofs only [go_sem, LeTs_undef, LeTs_same, LeTs_nil, hw1]
            · exact bad (by simp [okAt, h7])
          · exact bad (by simp [okAt, h6])
        · exact bad (by simp [okAt, h5])
    · exact bad (by simp [okAt, h1])
  · simp -implicitDefEqProofs only [go_sem]
    refine .one (s_keyOk _) p_keyOk rfl trivial ?_
    simp -implicitDefEqProofs only [go_sem]
    have hz' : ∀ i (h : i < ws.length), okAt lt ln ws i ws[i] = true := fun j hj => hz j hj (by simp at h; omega)
    refine BrA_i (fun h1 => ?_) (fun h1 => ?_) <;> simp -implicitDefEqProofs only [go_sem]
    · refine .one (s_idOk _ _) p_idOk rfl trivial ?_
      simp -implicitDefEqProofs only [go_sem]
      refine BrA_i (fun h2 => ?_) (fun h2 => ?_) <;> simp -implicitDefEqProofs only [go_sem]
      · refine ⟨_, rfl, ?_⟩
        simp [h1, h2, hz']
        omega
      · refine ⟨_, rfl, ?_⟩
        simp [h1, h2, hz']
    · refine ⟨_, rfl, ?_⟩
      simp [h1]
end Go.Proofs.Ytofiljboaegekab.Am
namespace Go.Proofs.Ytofiljboaegekab.Am
open Go
set_option maxRecDepth 100000
set_option linter.unusedSimpArgs false
set_option linter.unusedVariables false
theorem p_l1In : Plain Try.prog 100 := ⟨_, Try.func100, rfl, by decide⟩
theorem s_l1In (n lo hi : Int) : Spec Try.prog 100 [I n, I lo, I hi] (fun r => r = Bo (withinM n lo hi)) := by
  refine Spec.of tysOk mixed Try.func100 rfl (by decide) ?_
  simp -implicitDefEqProofs only [go_sem, Try.f100]
  refine BrA_i (fun h => ?_) (fun h => ?_) <;> simp -implicitDefEqProofs only [go_sem] <;> simp_all [withinM] <;> omega
theorem p_l4Key : Plain Try.prog 99 := ⟨_, Try.func99, rfl, by decide⟩
theorem s_l4Key (b : ByteArray) : Spec Try.prog 99 [.t (.str b)] (fun r => r = Bo (keyOkM b)) := by
  refine Spec.of tysOk mixed Try.func99 rfl (by decide) ?_
  simp -implicitDefEqProofs only [go_sem, Try.f99]
  refine .one (s_l1In _ _ _) p_l1In rfl trivial ?_
  simp -implicitDefEqProofs only [go_sem]
  rfl
theorem p_l9Id : Plain Try.prog 104 := ⟨_, Try.func104, rfl, by decide⟩
theorem s_l9Id (a b : Int) : Spec Try.prog 104 [.agg [I a, I b]] (fun r => r = Bo (idOkM a b)) := by
  refine Spec.of tysOk mixed Try.func104 rfl (by decide) ?_
  simp -implicitDefEqProofs only [go_sem, Try.f104]
  refine .one (s_l1In _ _ _) p_l1In rfl trivial ?_
  simp -implicitDefEqProofs only [go_sem]
  refine BrA_i (fun h => ?_) (fun h => ?_) <;> simp -implicitDefEqProofs only [go_sem]
  · refine .one (s_l1In _ _ _) p_l1In rfl trivial ?_
    simp -implicitDefEqProofs only [go_sem]
    simp [idOkM, h]
  · simp [idOkM, h]
theorem ordM_lt (a b c d : Int) : ordM a b c d < 0 ↔ a < c ∨ (a = c ∧ b < d) := by
  unfold ordM cmpM
  split <;> split <;> (try split) <;> (try split) <;> omega
theorem p_sIdLess : Plain Try.prog 105 := ⟨_, Try.func105, rfl, by decide⟩
theorem s_sIdLess (a b c d : Int) : Spec Try.prog 105 [.agg [I a, I b], .agg [I c, I d]] (fun r => r = Bo (decide (ordM a b c d < 0))) := by
  refine Spec.of tysOk mixed Try.func105 rfl (by decide) ?_
  have e := ordM_lt a b c d
  simp -implicitDefEqProofs only [go_sem, Try.f105]
  refine BrA_i (fun h => ?_) (fun h => ?_) <;> simp -implicitDefEqProofs only [go_sem]
  · simp at h; simp [e, h]
  refine BrA_i (fun h1 => ?_) (fun h1 => ?_) <;> simp -implicitDefEqProofs only [go_sem]
  · simp at h h1; subst h1; simp [e]
  · simp at h h1
    have : ¬ a < c := by omega
    simp [e, h1, this]
end Go.Proofs.Ytofiljboaegekab.Am
namespace Go.Proofs.Ytofiljboaegekab.Am
open Go
set_option maxRecDepth 100000
set_option linter.unusedSimpArgs false
set_option linter.unusedVariables false
def allAt {α : Type} (good : α → Bool) (link : α → α → Bool) (xs : List α) : Bool := xs.all good && (xs.zip xs.tail).all fun p => link p.1 p.2
def goodAt {α : Type} (good : α → Bool) (link : α → α → Bool) (xs : List α) (i : Nat) : Bool :=
  match xs[i]? with
  | none => true
  | some x => good x && match i with
    | 0 => true
    | j + 1 => match xs[j]? with
      | none => true
      | some y => link y x
theorem allAt_iff {α : Type} (good : α → Bool) (link : α → α → Bool) (xs : List α) : allAt good link xs = true ↔ ∀ i, i < xs.length → goodAt good link xs i = true := by
  unfold allAt
  rw [Bool.and_eq_true, List.all_eq_true, List.all_eq_true]
  constructor
  · rintro ⟨h1, h2⟩ i hi
    unfold goodAt
    rw [List.getElem?_eq_getElem hi]
    simp only [Bool.and_eq_true]
    refine ⟨h1 _ (List.getElem_mem _), ?_⟩
    cases i with
    | zero => rfl
    | succ j =>
      have hj : j < xs.length := by omega
      simp only [List.getElem?_eq_getElem hj]
      refine h2 (xs[j], xs[j + 1]) ?_
      rw [List.mem_iff_getElem]
      refine ⟨j, by simp; omega, ?_⟩
      simp
  · intro h
    refine ⟨fun x hx => ?_, fun p hp => ?_⟩
    · obtain ⟨i, hi, rfl⟩ := List.mem_iff_getElem.1 hx
      have := h i hi
      unfold goodAt at this
      rw [List.getElem?_eq_getElem hi] at this
      simp only [Bool.and_eq_true] at this
      exact this.1
    · obtain ⟨j, hj, rfl⟩ := List.mem_iff_getElem.1 hp
      simp at hj
      have := h (j + 1) (by omega)
      unfold goodAt at this
      rw [List.getElem?_eq_getElem (show j + 1 < xs.length by omega)] at this
      simp only [Bool.and_eq_true, List.getElem?_eq_getElem (show j < xs.length by omega)] at this
      simpa using this.2
theorem goodAt_0 {α : Type} (good : α → Bool) (link : α → α → Bool) (xs : List α) {i : Nat} (h : i < xs.length) (h0 : i = 0) : goodAt good link xs i = good xs[i] := by
  subst h0
  simp [goodAt, h]
theorem goodAt_s {α : Type} (good : α → Bool) (link : α → α → Bool) (xs : List α) {i : Nat} (h : i < xs.length) (h0 : 0 < i) : goodAt good link xs i = (good xs[i] && link (xs[i - 1]'(by omega)) xs[i]) := by
  obtain ⟨j, rfl⟩ : ∃ j, i = j + 1 := ⟨i - 1, by omega⟩
  have hj : j < xs.length := by omega
  simp [goodAt, h, hj]
theorem goodAt_no {α : Type} (good : α → Bool) (link : α → α → Bool) (xs : List α) {i : Nat} (h : i < xs.length) (hg : good xs[i] = false) : goodAt good link xs i = false := by
  simp [goodAt, h, hg]
theorem p_FieldsOk : Plain Try.prog 158 := ⟨_, Try.func158, rfl, by decide⟩
def prGood (x : Pr) : Bool := decide (x.k.size ≤ 40) && decide (x.v.size ≤ 40)
def prLink (x y : Pr) : Bool := bytesLt x.k y.k
def fieldsOkM (xs : List Pr) : Bool := allAt prGood prLink xs && decide (xs.length ≤ 16)
theorem s_FieldsOk (xs : List Pr) (hx : xs.length < 4611686018427387904) : Spec Try.prog 158 [.t (.list false 2 (xs.map Pr.row))] (fun r => r = Bo (fieldsOkM xs)) := by
  refine Spec.of tysOk mixed Try.func158 rfl (by decide) ?_
  simp -implicitDefEqProofs only [go_sem, Try.f158]
  refine LoopW.slots (α := Nat) (fun i => [(7, I i)]) (fun _ => []) (fun i => xs.length - i) (fun i => i ≤ xs.length ∧ ∀ j, j < i → goodAt prGood prLink xs j = true) 0 rfl rfl (by simp) ?_
  rintro i ⟨hi, hz⟩
  simp -implicitDefEqProofs only [go_sem]
  refine BrA_i (fun h => ?_) (fun h => ?_)
  · have h : i < xs.length := by simp at h; omega
    have hw1 : IntKind.i64.wrap ((i : Int) + 1) = ((i + 1 : Nat) : Int) := by rw [wrap64 (by omega) (by omega)]; omega
    have hp : 0 < i → IntKind.i64.wrap ((i : Int) - 1) = ((i - 1 : Nat) : Int) := fun h0 => by rw [wrap64 (by omega) (by omega)]; omega
    have bad : goodAt prGood prLink xs i = false → AV.t (T.bool false) = Bo (fieldsOkM xs) := fun hg => by
      have : allAt prGood prLink xs = false := by
        cases ha : allAt prGood prLink xs
        · rfl
        · rw [(allAt_iff _ _ _).1 ha i h] at hg; cases hg
      simp [fieldsOkM, this]
    simp -implicitDefEqProofs only [go_sem, row_getD _ _ h, Pr.row]
    refine ⟨⟨by omega, by omega⟩, ?_⟩
    refine RegD_of sch_158_4 tysOk (by kernel_rfl) ?_
    simp -implicitDefEqProofs only [go_sem]
    refine BrA_i (fun h1 => ?_) (fun h1 => ?_) <;> simp -implicitDefEqProofs only [go_sem]
    · exact bad (goodAt_no _ _ _ h (by simp at h1; simp [prGood]; omega))
    refine BrA_i (fun h2 => ?_) (fun h2 => ?_) <;> simp -implicitDefEqProofs only [go_sem]
    · exact bad (goodAt_no _ _ _ h (by simp at h2; simp [prGood]; omega))
    have hg : prGood xs[i] = true := by simp at h1 h2; simp [prGood]; omega
    refine BrA_i (fun h3 => ?_) (fun h3 => ?_) <;> simp -implicitDefEqProofs only [go_sem]
    · have h3 : 0 < i := by simpa using h3
      have hq : i - 1 < xs.length := by omega
      simp -implicitDefEqProofs only [go_sem, hp h3, row_getD _ _ hq, Pr.row]
      refine ⟨⟨by omega, by omega⟩, ?_⟩
      refine BrA_i (fun h4 => ?_) (fun h4 => ?_) <;> simp -implicitDefEqProofs only [go_sem]
      · refine .to [32] (i + 1) rfl ?_ ?_ (by omega) ⟨h, fun j hj => ?_⟩ <;> (try simp -implicitDefEqProofs only [go_sem, LeTs_undef, LeTs_same, LeTs_nil, hw1])
        rcases Nat.lt_succ_iff_lt_or_eq.1 hj with hl | rfl
        · exact hz j hl
        · rw [goodAt_s _ _ _ h h3, hg]; simpa [prLink] using h4
      · exact bad (by rw [goodAt_s _ _ _ h h3]; simp [prLink, h4])
    · have h3 : i = 0 := by simp at h3; omega
      refine .to [32] (i + 1) rfl ?_ ?_ (by omega) ⟨h, fun j hj => ?_⟩ <;> (try simp -implicitDefEqProofs only [go_sem, LeTs_undef, LeTs_same, LeTs_nil, hw1])
      rcases Nat.lt_succ_iff_lt_or_eq.1 hj with hl | rfl
      · exact hz j hl
      · rw [goodAt_0 _ _ _ h h3, hg]
  · simp -implicitDefEqProofs only [go_sem]
    have h : i = xs.length := by simp at h; omega
    subst h
    have : allAt prGood prLink xs = true := (allAt_iff _ _ _).2 hz
    simp [fieldsOkM, this]
    omega
theorem p_sFieldsOk : Plain Try.prog 106 := ⟨_, Try.func106, rfl, by decide⟩
theorem s_sFieldsOk (xs : List Pr) (hx : xs.length < 4611686018427387904) : Spec Try.prog 106 [.t (.list false 2 (xs.map Pr.row))] (fun r => r = Bo (fieldsOkM xs)) := by
  refine Spec.of tysOk mixed Try.func106 rfl (by decide) ?_
  simp -implicitDefEqProofs only [go_sem, Try.f106]
  refine LoopW.slots (α := Nat) (fun i => [(3, I i)]) (fun _ => []) (fun i => xs.length - i) (fun i => i ≤ xs.length ∧ ∀ j, j < i → goodAt prGood prLink xs j = true) 0 rfl rfl (by simp) ?_
  rintro i ⟨hi, hz⟩
  simp -implicitDefEqProofs only [go_sem]
  refine BrA_i (fun h => ?_) (fun h => ?_)
  · have h : i < xs.length := by simp at h; omega
    have hw1 : IntKind.i64.wrap ((i : Int) + 1) = ((i + 1 : Nat) : Int) := by rw [wrap64 (by omega) (by omega)]; omega
    have hp : 0 < i → IntKind.i64.wrap ((i : Int) - 1) = ((i - 1 : Nat) : Int) := fun h0 => by rw [wrap64 (by omega) (by omega)]; omega
    have bad : goodAt prGood prLink xs i = false → AV.t (T.bool false) = Bo (fieldsOkM xs) := fun hg => by
      have : allAt prGood prLink xs = false := by
        cases ha : allAt prGood prLink xs
        · rfl
        · rw [(allAt_iff _ _ _).1 ha i h] at hg; cases hg
      simp [fieldsOkM, this]
    simp -implicitDefEqProofs only [go_sem]
    refine RegD_of sch_106_4 tysOk (by kernel_rfl) ?_
    simp -implicitDefEqProofs only [go_sem, row_getD _ _ h, Pr.row]
    refine ⟨⟨by omega, by omega⟩, ?_⟩
    refine BrA_i (fun h1 => ?_) (fun h1 => ?_) <;> simp -implicitDefEqProofs only [go_sem]
    · exact bad (goodAt_no _ _ _ h (by simp at h1; simp [prGood]; omega))
    simp -implicitDefEqProofs only [go_sem, row_getD _ _ h, Pr.row]
    refine ⟨⟨by omega, by omega⟩, ?_⟩
    refine BrA_i (fun h2 => ?_) (fun h2 => ?_) <;> simp -implicitDefEqProofs only [go_sem]
    · exact bad (goodAt_no _ _ _ h (by simp at h2; simp [prGood]; omega))
    have hg : prGood xs[i] = true := by simp at h1 h2; simp [prGood]; omega
    refine BrA_i (fun h3 => ?_) (fun h3 => ?_) <;> simp -implicitDefEqProofs only [go_sem]
    · have h3 : 0 < i := by simpa using h3
      have hq : i - 1 < xs.length := by omega
      simp -implicitDefEqProofs only [go_sem, hp h3, row_getD _ _ hq, Pr.row]
      refine ⟨⟨by omega, by omega⟩, ?_⟩
      simp -implicitDefEqProofs only [go_sem, row_getD _ _ h, Pr.row]
      refine ⟨⟨by omega, by omega⟩, ?_⟩
      refine BrA_i (fun h4 => ?_) (fun h4 => ?_) <;> simp -implicitDefEqProofs only [go_sem]
      · refine .to [] (i + 1) rfl ?_ ?_ (by omega) ⟨h, fun j hj => ?_⟩ <;> (try simp -implicitDefEqProofs only [go_sem, LeTs_undef, LeTs_same, LeTs_nil, hw1])
        rcases Nat.lt_succ_iff_lt_or_eq.1 hj with hl | rfl
        · exact hz j hl
        · rw [goodAt_s _ _ _ h h3, hg]; simpa [prLink] using h4
      · exact bad (by rw [goodAt_s _ _ _ h h3]; simp [prLink, h4])
    · have h3 : i = 0 := by simp at h3; omega
      refine .to [] (i + 1) rfl ?_ ?_ (by omega) ⟨h, fun j hj => ?_⟩ <;> (try simp -implicitDefEqProofs only [go_sem, LeTs_undef, LeTs_same, LeTs_nil, hw1])
      rcases Nat.lt_succ_iff_lt_or_eq.1 hj with hl | rfl
      · exact hz j hl
      · rw [goodAt_0 _ _ _ h h3, hg]
  · simp -implicitDefEqProofs only [go_sem]
    have h : i = xs.length := by simp at h; omega
    subst h
    have : allAt prGood prLink xs = true := (allAt_iff _ _ _).2 hz
    simp [fieldsOkM, this]
    omega
end Go.Proofs.Ytofiljboaegekab.Am
namespace Go.Proofs.Ytofiljboaegekab.Am
open Go
set_option maxRecDepth 100000
set_option linter.unusedSimpArgs false
set_option linter.unusedVariables false
theorem p_fieldsFull : Plain Try.prog 110 := ⟨_, Try.func110, rfl, by decide⟩
def fieldsFullM (xs : List Pr) : Bool := decide (0 < xs.length) && fieldsOkM xs
theorem s_fieldsFull (xs : List Pr) (hx : xs.length < 4611686018427387904) : Spec Try.prog 110 [.t (.list false 2 (xs.map Pr.row))] (fun r => r = Bo (fieldsFullM xs)) := by
  refine Spec.of tysOk mixed Try.func110 rfl (by decide) ?_
  simp -implicitDefEqProofs only [go_sem, Try.f110]
  refine BrA_i (fun h => ?_) (fun h => ?_) <;> simp -implicitDefEqProofs only [go_sem]
  · refine .one (s_FieldsOk xs hx) p_FieldsOk (by simp -implicitDefEqProofs only [go_sem]) trivial ?_
    simp -implicitDefEqProofs only [go_sem]
    have : 0 < xs.length := by simpa using h
    simp [fieldsFullM, this]
  · have : ¬ 0 < xs.length := by simpa using h
    simp [fieldsFullM, this]
def ltM (a b : Idt) : Bool := decide (ordM a.t a.n b.t b.n < 0)
def idM (a : Idt) : Bool := idOkM a.t a.n
def wtGood (last : Idt) (x : Wt) : Bool := idM x.id && !ltM last x.id && keyOkM x.who && withinM x.at' 0 1000000 && withinM x.tm 1 1000000000
def wtLink (x y : Wt) : Bool := ltM x.id y.id
def grOkM (g : Gr) : Bool := keyOkM g.name && idM g.last && decide (g.waits.length ≤ 16) && allAt (wtGood g.last) wtLink g.waits
def itGood (last : Idt) (x : It) : Bool := idM x.id && !ltM last x.id && fieldsFullM x.fields
def itLink (x y : It) : Bool := ltM x.id y.id
def grGood (last : Idt) (g : Gr) : Bool := grOkM g && !ltM last g.last
def grLink (x y : Gr) : Bool := bytesLt x.name y.name
def streamOkM (s : Stm) : Bool := idM s.last && decide (s.items.length ≤ 16) && decide (s.groups.length ≤ 3) && allAt (itGood s.last) itLink s.items && allAt (grGood s.last) grLink s.groups
theorem okAt_good (last : Idt) (ws : List Wt) (i : Nat) (h : i < ws.length) : okAt last.t last.n ws i ws[i] = goodAt (wtGood last) wtLink ws i := by
  rcases Nat.eq_zero_or_pos i with h0 | h0
  · rw [goodAt_0 _ _ _ h h0]
    subst h0
    simp [okAt, wtGood, idM, ltM]
  · rw [goodAt_s _ _ _ h h0]
    obtain ⟨j, rfl⟩ : ∃ j, i = j + 1 := ⟨i - 1, by omega⟩
    have hj : j < ws.length := by omega
    simp only [okAt, List.getElem?_eq_getElem hj, wtGood, wtLink, idM, ltM, Nat.add_sub_cancel]
    generalize idOkM _ _ = a
    generalize decide (ordM ws[j].id.t _ _ _ < 0) = b
    generalize decide (ordM last.t last.n _ _ < 0) = c
    generalize keyOkM _ = d
    generalize withinM _ 0 _ = e
    generalize withinM _ 1 _ = f
    cases a <;> cases b <;> cases c <;> cases d <;> cases e <;> cases f <;> rfl
theorem s_grOk (g : Gr) (h : g.waits.length < 2000000) : Spec Try.prog 111 [g.av] (fun r => r = Bo (grOkM g)) :=
  (s_groupOk g.name g.last.t g.last.n g.waits h).weaken fun r ⟨b, hr, hb⟩ => by
    rw [hr, hb]
    have : decide (∀ i (h : i < g.waits.length), okAt g.last.t g.last.n g.waits i g.waits[i] = true) = allAt (wtGood g.last) wtLink g.waits := by
      rw [Bool.eq_iff_iff, decide_eq_true_eq, allAt_iff]
      exact forall_congr' fun i => forall_congr' fun hi => by rw [okAt_good _ _ _ hi]
    rw [this]
    unfold grOkM idM
    cases allAt (wtGood g.last) wtLink g.waits <;> cases keyOkM g.name <;> cases idOkM g.last.t g.last.n <;> cases decide (g.waits.length ≤ 16) <;> rfl
end Go.Proofs.Ytofiljboaegekab.Am
namespace Go.Proofs.Ytofiljboaegekab.Am
open Go
set_option maxRecDepth 100000
set_option linter.unusedSimpArgs false
set_option linter.unusedVariables false
theorem p_grOk : Plain Try.prog 111 := ⟨_, Try.func111, rfl, by decide⟩
theorem p_StreamOk : Plain Try.prog 28 := ⟨_, Try.func28, rfl, by decide⟩
theorem s_StreamOk (s : Stm) (hs : s.sm) (hw : ∀ g ∈ s.groups, g.waits.length < 2000000) : Spec Try.prog 28 [s.av] (fun r => r = Bo (streamOkM s)) := by
  obtain ⟨hs1, hs2, hs3, hs4⟩ := hs
  refine Spec.of tysOk mixed Try.func28 rfl (by decide) ?_
  simp -implicitDefEqProofs only [go_sem, Try.f28]
  refine .one (s_idOk s.last.t s.last.n) p_idOk (by simp -implicitDefEqProofs only [go_sem]) trivial ?_
  simp -implicitDefEqProofs only [go_sem]
  refine BrA_i (fun h1 => ?_) (fun h1 => ?_) <;> simp -implicitDefEqProofs only [go_sem]
  · refine BrA_i (fun h2 => ?_) (fun h2 => ?_) <;> simp -implicitDefEqProofs only [go_sem]
    · have : ¬ s.items.length ≤ 16 := by simp at h2; omega
      simp [streamOkM, this]
    refine BrA_i (fun h3 => ?_) (fun h3 => ?_) <;> simp -implicitDefEqProofs only [go_sem]
    · have : ¬ s.groups.length ≤ 3 := by simp at h3; omega
      simp [streamOkM, this]
    have bad1 : allAt (itGood s.last) itLink s.items = false → AV.t (T.bool false) = Bo (streamOkM s) := fun h => by simp [streamOkM, h]
    have bad2 : allAt (grGood s.last) grLink s.groups = false → AV.t (T.bool false) = Bo (streamOkM s) := fun h => by simp [streamOkM, h]
    refine LoopW.slots (α := Nat) (fun i => [(26, I i)]) (fun _ => []) (fun i => s.items.length - i) (fun i => i ≤ s.items.length ∧ ∀ j, j < i → goodAt (itGood s.last) itLink s.items j = true) 0 rfl rfl (by simp) ?_
    rintro i ⟨hi, hz⟩
    simp -implicitDefEqProofs only [go_sem]
    refine BrA_i (fun h => ?_) (fun h => ?_)
    · have h : i < s.items.length := by simp at h; omega
      have hw1 : IntKind.i64.wrap ((i : Int) + 1) = ((i + 1 : Nat) : Int) := by rw [wrap64 (by omega) (by omega)]; omega
      have hp : 0 < i → IntKind.i64.wrap ((i : Int) - 1) = ((i - 1 : Nat) : Int) := fun h0 => by rw [wrap64 (by omega) (by omega)]; omega
      have bad : goodAt (itGood s.last) itLink s.items i = false → AV.t (T.bool false) = Bo (streamOkM s) := fun hg => bad1 (by
        cases ha : allAt (itGood s.last) itLink s.items
        · rfl
        · rw [(allAt_iff _ _ _).1 ha i h] at hg; cases hg)
      simp -implicitDefEqProofs only [go_sem, row_getD _ _ h, It.row]
      refine ⟨⟨by omega, by omega⟩, ?_⟩
      refine RegD_of sch_28_6 tysOk (by kernel_rfl) ?_
      simp -implicitDefEqProofs only [go_sem]
      refine .one (s_idOk s.items[i].id.t s.items[i].id.n) p_idOk (by simp -implicitDefEqProofs only [go_sem]) trivial ?_
      simp -implicitDefEqProofs only [go_sem]
      refine BrA_i (fun g1 => ?_) (fun g1 => ?_) <;> simp -implicitDefEqProofs only [go_sem]
      · refine BrA_i (fun g2 => ?_) (fun g2 => ?_) <;> simp -implicitDefEqProofs only [go_sem]
        · have g2 : 0 < i := by simpa using g2
          have hq : i - 1 < s.items.length := by omega
          simp -implicitDefEqProofs only [go_sem, hp g2, row_getD _ _ hq, It.row]
          refine ⟨⟨by omega, by omega⟩, ?_⟩
          refine .one (s_idOrder (s.items[i - 1]'hq).id.t (s.items[i - 1]'hq).id.n s.items[i].id.t s.items[i].id.n) p_idOrder (by simp -implicitDefEqProofs only [go_sem]) trivial ?_
          simp -implicitDefEqProofs only [go_sem]
          refine BrA_i (fun g3 => ?_) (fun g3 => ?_) <;> simp -implicitDefEqProofs only [go_sem]
          · exact bad (by
              rw [goodAt_s _ _ _ h g2]
              have : itLink (s.items[i - 1]'hq) s.items[i] = false := by simp [itLink, ltM]; simpa using g3
              simp [this])
          have hl : itLink (s.items[i - 1]'hq) s.items[i] = true := by simp [itLink, ltM]; simpa using g3
          refine .one (s_IdLess s.last.t s.last.n s.items[i].id.t s.items[i].id.n) p_IdLess (by simp -implicitDefEqProofs only [go_sem]) trivial ?_
          simp -implicitDefEqProofs only [go_sem]
          refine BrA_i (fun g4 => ?_) (fun g4 => ?_) <;> simp -implicitDefEqProofs only [go_sem]
          · exact bad (goodAt_no _ _ _ h (by simp [itGood, ltM, g4]))
          refine .one (s_fieldsFull s.items[i].fields (hs3 _ (List.getElem_mem _))) p_fieldsFull (by simp -implicitDefEqProofs only [go_sem]) trivial ?_
          simp -implicitDefEqProofs only [go_sem]
          refine BrA_i (fun g5 => ?_) (fun g5 => ?_) <;> simp -implicitDefEqProofs only [go_sem]
          · have hgood : itGood s.last s.items[i] = true := by simp [itGood, idM, ltM, g1, g4, g5]
            refine .to [32] (i + 1) rfl ?_ ?_ (by omega) ⟨h, fun j hj => ?_⟩ <;> (try simp -implicitDefEqProofs only [go_sem, LeTs_undef, LeTs_same, LeTs_nil, hw1])
            rcases Nat.lt_succ_iff_lt_or_eq.1 hj with hlt | rfl
            · exact hz j hlt
            · rw [goodAt_s _ _ _ h g2, hgood, hl]; rfl
          · exact bad (goodAt_no _ _ _ h (by simp [itGood, g5]))
        · have g2 : i = 0 := by simp at g2; omega
          refine .one (s_IdLess s.last.t s.last.n s.items[i].id.t s.items[i].id.n) p_IdLess (by simp -implicitDefEqProofs only [go_sem]) trivial ?_
          simp -implicitDefEqProofs only [go_sem]
          refine BrA_i (fun g4 => ?_) (fun g4 => ?_) <;> simp -implicitDefEqProofs only [go_sem]
          · exact bad (goodAt_no _ _ _ h (by simp [itGood, ltM, g4]))
          refine .one (s_fieldsFull s.items[i].fields (hs3 _ (List.getElem_mem _))) p_fieldsFull (by simp -implicitDefEqProofs only [go_sem]) trivial ?_
          simp -implicitDefEqProofs only [go_sem]
          refine BrA_i (fun g5 => ?_) (fun g5 => ?_) <;> simp -implicitDefEqProofs only [go_sem]
          · have hgood : itGood s.last s.items[i] = true := by simp [itGood, idM, ltM, g1, g4, g5]
            refine .to [32] (i + 1) rfl ?_ ?_ (by omega) ⟨h, fun j hj => ?_⟩ <;> (try simp -implicitDefEqProofs only [go_sem, LeTs_undef, LeTs_same, LeTs_nil, hw1])
            rcases Nat.lt_succ_iff_lt_or_eq.1 hj with hlt | rfl
            · exact hz j hlt
            · rw [goodAt_0 _ _ _ h g2, hgood]
          · exact bad (goodAt_no _ _ _ h (by simp [itGood, g5]))
      · exact bad (goodAt_no _ _ _ h (by simp [itGood, idM, g1]))
    · simp -implicitDefEqProofs only [go_sem]
      have hall : allAt (itGood s.last) itLink s.items = true := (allAt_iff _ _ _).2 fun j hj => hz j (by simp at h; omega)
      clear hz hi h
      refine LoopW.slots (α := Nat) (fun i => [(69, I i)]) (fun _ => []) (fun i => s.groups.length - i) (fun i => i ≤ s.groups.length ∧ ∀ j, j < i → goodAt (grGood s.last) grLink s.groups j = true) 0 rfl rfl (by simp) ?_
      rintro i ⟨hi, hz⟩
      simp -implicitDefEqProofs only [go_sem]
      refine BrA_i (fun h => ?_) (fun h => ?_)
      · have h : i < s.groups.length := by simp at h; omega
        have hw1 : IntKind.i64.wrap ((i : Int) + 1) = ((i + 1 : Nat) : Int) := by rw [wrap64 (by omega) (by omega)]; omega
        have hp : 0 < i → IntKind.i64.wrap ((i : Int) - 1) = ((i - 1 : Nat) : Int) := fun h0 => by rw [wrap64 (by omega) (by omega)]; omega
        have bad : goodAt (grGood s.last) grLink s.groups i = false → AV.t (T.bool false) = Bo (streamOkM s) := fun hg => bad2 (by
          cases ha : allAt (grGood s.last) grLink s.groups
          · rfl
          · rw [(allAt_iff _ _ _).1 ha i h] at hg; cases hg)
        simp -implicitDefEqProofs only [go_sem, row_getD _ _ h, Gr.row]
        refine ⟨⟨by omega, by omega⟩, ?_⟩
        refine RegD_of sch_28_12 tysOk (by kernel_rfl) ?_
        simp -implicitDefEqProofs only [go_sem]
        refine .one (s_grOk s.groups[i] (hw _ (List.getElem_mem _))) p_grOk (by simp -implicitDefEqProofs only [go_sem]) trivial ?_
        simp -implicitDefEqProofs only [go_sem]
        refine BrA_i (fun g1 => ?_) (fun g1 => ?_) <;> simp -implicitDefEqProofs only [go_sem]
        · refine BrA_i (fun g2 => ?_) (fun g2 => ?_) <;> simp -implicitDefEqProofs only [go_sem]
          · have g2 : 0 < i := by simpa using g2
            have hq : i - 1 < s.groups.length := by omega
            simp -implicitDefEqProofs only [go_sem, hp g2, row_getD _ _ hq, Gr.row]
            refine ⟨⟨by omega, by omega⟩, ?_⟩
            refine BrA_i (fun g3 => ?_) (fun g3 => ?_) <;> simp -implicitDefEqProofs only [go_sem]
            · have hl : grLink (s.groups[i - 1]'hq) s.groups[i] = true := g3
              refine .one (s_IdLess s.last.t s.last.n s.groups[i].last.t s.groups[i].last.n) p_IdLess (by simp -implicitDefEqProofs only [go_sem]) trivial ?_
              simp -implicitDefEqProofs only [go_sem]
              refine BrA_i (fun g4 => ?_) (fun g4 => ?_) <;> simp -implicitDefEqProofs only [go_sem]
              · exact bad (goodAt_no _ _ _ h (by simp [grGood, ltM, g4]))
              · have hgood : grGood s.last s.groups[i] = true := by simp [grGood, ltM, g1, g4]
                refine .to [48] (i + 1) rfl ?_ ?_ (by omega) ⟨h, fun j hj => ?_⟩ <;> (try simp -implicitDefEqProofs only [go_sem, LeTs_undef, LeTs_same, LeTs_nil, hw1])
                rcases Nat.lt_succ_iff_lt_or_eq.1 hj with hlt | rfl
                · exact hz j hlt
                · rw [goodAt_s _ _ _ h g2, hgood, hl]; rfl
            · exact bad (by
                rw [goodAt_s _ _ _ h g2]
                have : grLink (s.groups[i - 1]'hq) s.groups[i] = false := g3
                simp [this])
          · have g2 : i = 0 := by simp at g2; omega
            refine .one (s_IdLess s.last.t s.last.n s.groups[i].last.t s.groups[i].last.n) p_IdLess (by simp -implicitDefEqProofs only [go_sem]) trivial ?_
            simp -implicitDefEqProofs only [go_sem]
            refine BrA_i (fun g4 => ?_) (fun g4 => ?_) <;> simp -implicitDefEqProofs only [go_sem]
            · exact bad (goodAt_no _ _ _ h (by simp [grGood, ltM, g4]))
            · have hgood : grGood s.last s.groups[i] = true := by simp [grGood, ltM, g1, g4]
              refine .to [48] (i + 1) rfl ?_ ?_ (by omega) ⟨h, fun j hj => ?_⟩ <;> (try simp -implicitDefEqProofs only [go_sem, LeTs_undef, LeTs_same, LeTs_nil, hw1])
              rcases Nat.lt_succ_iff_lt_or_eq.1 hj with hlt | rfl
              · exact hz j hlt
              · rw [goodAt_0 _ _ _ h g2, hgood]
        · exact bad (goodAt_no _ _ _ h (by simp [grGood, g1]))
      · simp -implicitDefEqProofs only [go_sem]
        have hall2 : allAt (grGood s.last) grLink s.groups = true := (allAt_iff _ _ _).2 fun j hj => hz j (by simp at h; omega)
        simp at h2 h3
        have e2 : s.items.length ≤ 16 := by omega
        have e3 : s.groups.length ≤ 3 := by omega
        simp [streamOkM, idM, h1, e2, e3, hall, hall2]
  · simp [streamOkM, idM, h1]
end Go.Proofs.Ytofiljboaegekab.Am
namespace Go.Proofs.Ytofiljboaegekab.Am
open Go
set_option maxRecDepth 100000
set_option linter.unusedSimpArgs false
set_option linter.unusedVariables false
abbrev Idt.z : Idt := ⟨0, 0⟩
abbrev Stm.z : Stm := ⟨⟨0, 0⟩, [], []⟩
theorem Stm.md.sm {s : Stm} (h : s.md) : s.sm ∧ ∀ g ∈ s.groups, g.waits.length < 2000000 → True := ⟨⟨by have := h.1; omega, by have := h.2.1; omega, fun i hi => by have := h.2.2.1 i hi; unfold It.sm; omega, fun g hg => by have := h.2.2.2 g hg; unfold Gr.sm; omega⟩, fun _ _ _ => trivial⟩
end Go.Proofs.Ytofiljboaegekab.Am
namespace Go.Proofs.Ytofiljboaegekab.Am
open Go
set_option maxRecDepth 100000
set_option maxHeartbeats 400000
set_option linter.unusedSimpArgs false
set_option linter.unusedVariables false
theorem allAt_no {α : Type} {good : α → Bool} {link : α → α → Bool} {xs : List α} {i : Nat} (h : i < xs.length) (hg : goodAt good link xs i = false) : allAt good link xs = false := by
  cases ha : allAt good link xs
  · rfl
  · rw [(allAt_iff _ _ _).1 ha i h] at hg; cases hg
theorem good_step {α : Type} {good : α → Bool} {link : α → α → Bool} {xs : List α} {i : Nat} (hz : ∀ j, j < i → goodAt good link xs j = true) (hg : goodAt good link xs i = true) : ∀ j, j < i + 1 → goodAt good link xs j = true := fun j hj => by
  rcases Nat.lt_succ_iff_lt_or_eq.1 hj with hl | rfl
  · exact hz j hl
  · exact hg
theorem p_l9Group : Plain Try.prog 107 := ⟨_, Try.func107, rfl, by decide⟩
theorem s_l9Group (s : Stm) (g : Gr) (hw : g.waits.length < 2000000) : Spec Try.prog 107 [s.av, g.av] (fun r => r = Bo (grGood s.last g)) := by
  refine Spec.of tysOk mixed Try.func107 rfl (by decide) ?_
  simp -implicitDefEqProofs only [go_sem, Try.f107]
  refine LoopW.slotsM [false, false, true, true, false, true, false, false, false, false, false, false, false, false, false, false, false, false, false, false, false, false, false, false, false, false, false, false, false, false, false, false, false, false, false, false, false, false, false, false, false, false, false, false, false, false, false, false, false, false, false, false, false, false, false, false, false, false, false, false, false, false, false, false, false, false, false, false, false, false, false, false, false, false, false, false, false, false, false, false, false, false, false, false, false, false, false] (α := Nat) (fun i => [(5, I i)]) (fun _ => []) (fun i => g.waits.length - i) (fun i => i ≤ g.waits.length ∧ ∀ j, j < i → goodAt (wtGood g.last) wtLink g.waits j = true) 0 (by simp -implicitDefEqProofs only [go_sem, LeTs_undef, LeTs_same, LeTs_nil]; try simp [LeTs]) rfl (by simp) ?_
  rintro i ⟨hi, hz⟩
  simp -implicitDefEqProofs only [go_sem]
  refine BrA_i (fun h => ?_) (fun h => ?_) <;> simp -implicitDefEqProofs only [go_sem]
  · have bad : ∀ (hl : i < g.waits.length), goodAt (wtGood g.last) wtLink g.waits i = false → AV.t (T.bool false) = Bo (grGood s.last g) := fun hl hg => by
      have := allAt_no hl hg
      simp [grGood, grOkM, this]
    have h : i < g.waits.length := by simp at h; omega
    have h0i : (0 : Int) ≤ i := by omega
    have h1i : (i : Int) < g.waits.length := by omega
    have wi : IntKind.i64.wrap ((i : Int) + 1) = ((i + 1 : Nat) : Int) := by rw [wrap64 (by omega) (by omega)]; omega
    rcases Nat.eq_zero_or_pos i with h0 | h0
    · have hp : ((i : Int) > 0) = False := by simp; omega
      have hG := goodAt_0 (wtGood g.last) wtLink g.waits h h0
      simp -implicitDefEqProofs only [go_sem, h, h0i, h1i, row_getD _ _ h, Wt.row]
      refine RegD_of sch_107_5 tysOk (by kernel_rfl) ?_
      simp -implicitDefEqProofs only [go_sem, hp]
      (repeat' (first   | (refine CallW.one (s_l9Id _ _) p_l9Id (by first | (simp -implicitDefEqProofs only [go_sem]; done) | ((conv => lhs; simp -implicitDefEqProofs only [go_sem]); done) | (simp -implicitDefEqProofs only [go_sem]; rfl)) (by first | trivial | (simp [DeepR, DeepV, DeepVs, DeepC, DeepCs, T.scal]; done)) ?_; try simp -implicitDefEqProofs only [go_sem, hp])   | (refine CallW.one (s_sIdLess _ _ _ _) p_sIdLess (by first | (simp -implicitDefEqProofs only [go_sem]; done) | ((conv => lhs; simp -implicitDefEqProofs only [go_sem]); done) | (simp -implicitDefEqProofs only [go_sem]; rfl)) (by first | trivial | (simp [DeepR, DeepV, DeepVs, DeepC, DeepCs, T.scal]; done)) ?_; try simp -implicitDefEqProofs only [go_sem, hp])   | (refine CallW.one (s_l4Key _) p_l4Key (by first | (simp -implicitDefEqProofs only [go_sem]; done) | ((conv => lhs; simp -implicitDefEqProofs only [go_sem]); done) | (simp -implicitDefEqProofs only [go_sem]; rfl)) (by first | trivial | (simp [DeepR, DeepV, DeepVs, DeepC, DeepCs, T.scal]; done)) ?_; try simp -implicitDefEqProofs only [go_sem, hp])   | (refine CallW.one (s_l1In _ _ _) p_l1In (by first | (simp -implicitDefEqProofs only [go_sem]; done) | ((conv => lhs; simp -implicitDefEqProofs only [go_sem]); done) | (simp -implicitDefEqProofs only [go_sem]; rfl)) (by first | trivial | (simp [DeepR, DeepV, DeepVs, DeepC, DeepCs, T.scal]; done)) ?_; try simp -implicitDefEqProofs only [go_sem, hp])   | (refine BrA_i (fun h => ?_) (fun h => ?_) <;> (try simp only [decide_eq_true_eq, decide_eq_false_iff_not, Bool.not_eq_true', Bool.not_eq_false', gt_iff_lt, ge_iff_le] at h) <;> try simp -implicitDefEqProofs only [go_sem, hp])   | (refine And.intro (a := roomy _ _) (by (unfold roomy; (try simp only [List.length_take, List.length_append, List.length_map, List.length_cons, List.length_nil]); omega)) ?_; try simp -implicitDefEqProofs only [go_sem, hp])))
      all_goals first
        | (refine bad (by assumption) ?_; rw [hG]; clear bad hz hG h0 hp hi hw wi; simp_all [-Int.not_lt, -Int.not_le, -Nat.not_lt, -Nat.not_le, wtGood, ltM, idM]; done)
        | (refine .to [48, 169, 170, 171, 225, 226, 227, 265, 266, 267, 313, 314, 315, 361, 362, 363, 489, 490, 491] (i + 1) rfl (by simp -implicitDefEqProofs only [go_sem, LeTs_undef, LeTs_same, LeTs_nil, wi]) (by simp -implicitDefEqProofs only [go_sem]) (by omega) ⟨by assumption, good_step hz ?_⟩; rw [hG]; clear bad hz hG h0 hp hi hw wi; simp_all [-Int.not_lt, -Int.not_le, -Nat.not_lt, -Nat.not_le, wtGood, ltM, idM])
    · have hp : ((i : Int) > 0) = True := by simp; omega
      have hG := goodAt_s (wtGood g.last) wtLink g.waits h h0
      have hq : i - 1 < g.waits.length := by omega
      have wj : IntKind.i64.wrap ((i : Int) - 1) = ((i - 1 : Nat) : Int) := by rw [wrap64 (by omega) (by omega)]; omega
      have h0j : (0 : Int) ≤ ((i - 1 : Nat) : Int) := by omega
      have h1j : ((i - 1 : Nat) : Int) < g.waits.length := by omega
      simp -implicitDefEqProofs only [go_sem, h, h0i, h1i, row_getD _ _ h, Wt.row]
      refine RegD_of sch_107_5 tysOk (by kernel_rfl) ?_
      simp -implicitDefEqProofs only [go_sem, hp]
      (repeat' (first   | (refine CallW.one (s_l9Id _ _) p_l9Id (by first | (simp -implicitDefEqProofs only [go_sem]; done) | ((conv => lhs; simp -implicitDefEqProofs only [go_sem]); done) | (simp -implicitDefEqProofs only [go_sem]; rfl)) (by first | trivial | (simp [DeepR, DeepV, DeepVs, DeepC, DeepCs, T.scal]; done)) ?_; try simp -implicitDefEqProofs only [go_sem, hp, wj, h0j, h1j, hq, row_getD _ _ hq, Wt.row])   | (refine CallW.one (s_sIdLess _ _ _ _) p_sIdLess (by first | (simp -implicitDefEqProofs only [go_sem]; done) | ((conv => lhs; simp -implicitDefEqProofs only [go_sem]); done) | (simp -implicitDefEqProofs only [go_sem]; rfl)) (by first | trivial | (simp [DeepR, DeepV, DeepVs, DeepC, DeepCs, T.scal]; done)) ?_; try simp -implicitDefEqProofs only [go_sem, hp, wj, h0j, h1j, hq, row_getD _ _ hq, Wt.row])   | (refine CallW.one (s_l4Key _) p_l4Key (by first | (simp -implicitDefEqProofs only [go_sem]; done) | ((conv => lhs; simp -implicitDefEqProofs only [go_sem]); done) | (simp -implicitDefEqProofs only [go_sem]; rfl)) (by first | trivial | (simp [DeepR, DeepV, DeepVs, DeepC, DeepCs, T.scal]; done)) ?_; try simp -implicitDefEqProofs only [go_sem, hp, wj, h0j, h1j, hq, row_getD _ _ hq, Wt.row])   | (refine CallW.one (s_l1In _ _ _) p_l1In (by first | (simp -implicitDefEqProofs only [go_sem]; done) | ((conv => lhs; simp -implicitDefEqProofs only [go_sem]); done) | (simp -implicitDefEqProofs only [go_sem]; rfl)) (by first | trivial | (simp [DeepR, DeepV, DeepVs, DeepC, DeepCs, T.scal]; done)) ?_; try simp -implicitDefEqProofs only [go_sem, hp, wj, h0j, h1j, hq, row_getD _ _ hq, Wt.row])   | (refine BrA_i (fun h => ?_) (fun h => ?_) <;> (try simp only [decide_eq_true_eq, decide_eq_false_iff_not, Bool.not_eq_true', Bool.not_eq_false', gt_iff_lt, ge_iff_le] at h) <;> try simp -implicitDefEqProofs only [go_sem, hp, wj, h0j, h1j, hq, row_getD _ _ hq, Wt.row])   | (refine And.intro (a := roomy _ _) (by (unfold roomy; (try simp only [List.length_take, List.length_append, List.length_map, List.length_cons, List.length_nil]); omega)) ?_; try simp -implicitDefEqProofs only [go_sem, hp, wj, h0j, h1j, hq, row_getD _ _ hq, Wt.row])))
      all_goals first
        | (refine bad (by assumption) ?_; rw [hG]; clear bad hz hG hp hi hw wi wj h0j h1j; simp_all [-Int.not_lt, -Int.not_le, -Nat.not_lt, -Nat.not_le, wtGood, wtLink, ltM, idM]; done)
        | (refine .to [48, 169, 170, 171, 225, 226, 227, 265, 266, 267, 313, 314, 315, 361, 362, 363, 489, 490, 491] (i + 1) rfl (by simp -implicitDefEqProofs only [go_sem, LeTs_undef, LeTs_same, LeTs_nil, wi]) (by simp -implicitDefEqProofs only [go_sem]) (by omega) ⟨by assumption, good_step hz ?_⟩; rw [hG]; clear bad hz hG hp hi hw wi wj h0j h1j; simp_all [-Int.not_lt, -Int.not_le, -Nat.not_lt, -Nat.not_le, wtGood, wtLink, ltM, idM])
  · have h : i = g.waits.length := by simp at h; omega
    subst h
    have hall : allAt (wtGood g.last) wtLink g.waits = true := (allAt_iff _ _ _).2 hz
    (repeat' (first   | (refine CallW.one (s_l4Key _) p_l4Key (by first | (simp -implicitDefEqProofs only [go_sem]; done) | ((conv => lhs; simp -implicitDefEqProofs only [go_sem]); done) | (simp -implicitDefEqProofs only [go_sem]; rfl)) (by first | trivial | (simp [DeepR, DeepV, DeepVs, DeepC, DeepCs, T.scal]; done)) ?_; try simp -implicitDefEqProofs only [go_sem])   | (refine CallW.one (s_l9Id _ _) p_l9Id (by first | (simp -implicitDefEqProofs only [go_sem]; done) | ((conv => lhs; simp -implicitDefEqProofs only [go_sem]); done) | (simp -implicitDefEqProofs only [go_sem]; rfl)) (by first | trivial | (simp [DeepR, DeepV, DeepVs, DeepC, DeepCs, T.scal]; done)) ?_; try simp -implicitDefEqProofs only [go_sem])   | (refine CallW.one (s_sIdLess _ _ _ _) p_sIdLess (by first | (simp -implicitDefEqProofs only [go_sem]; done) | ((conv => lhs; simp -implicitDefEqProofs only [go_sem]); done) | (simp -implicitDefEqProofs only [go_sem]; rfl)) (by first | trivial | (simp [DeepR, DeepV, DeepVs, DeepC, DeepCs, T.scal]; done)) ?_; try simp -implicitDefEqProofs only [go_sem])   | (refine BrA_i (fun h => ?_) (fun h => ?_) <;> (try simp only [decide_eq_true_eq, decide_eq_false_iff_not, Bool.not_eq_true', Bool.not_eq_false', gt_iff_lt, ge_iff_le] at h) <;> try simp -implicitDefEqProofs only [go_sem])   | (refine And.intro (a := roomy _ _) (by (unfold roomy; (try simp only [List.length_take, List.length_append, List.length_map, List.length_cons, List.length_nil]); omega)) ?_; try simp -implicitDefEqProofs only [go_sem])))
    all_goals (clear hz hi; simp_all [-Int.not_lt, -Int.not_le, -Nat.not_lt, -Nat.not_le, grGood, grOkM, idM, ltM])
    all_goals omega
theorem p_sStreamOk : Plain Try.prog 26 := ⟨_, Try.func26, rfl, by decide⟩
theorem s_sStreamOk (s : Stm) (hs : s.sm) (hw : ∀ g ∈ s.groups, g.waits.length < 2000000) : Spec Try.prog 26 [s.av] (fun r => r = Bo (streamOkM s)) := by
  obtain ⟨hs1, hs2, hs3, hs4⟩ := hs
  refine Spec.of tysOk mixed Try.func26 rfl (by decide) ?_
  simp -implicitDefEqProofs only [go_sem, Try.f26]
  refine LoopW.slotsM [false, true, false, true, false, false, false, false, false, false, false, false, false, false, false, false, false, false, false, false, false, false, false, false, false, false, false, false, false, false, false, false, false, false, false, false, false, false, false, false, false, false, false, false, false, false, false, false, false, false, false, false, false, false, false, false, false, false, false, false, false, false, false, false, false, false, false, false, false, false, false, false, false, false, false, false, false, false, false, false, false, false, false, false, false, false, false, false, false, false, false, false, false, false, false, false, false, false, false, false, false, false, false, false, false, false, false, false] (α := Nat) (fun i => [(3, I i)]) (fun _ => []) (fun i => s.items.length - i) (fun i => i ≤ s.items.length ∧ ∀ j, j < i → goodAt (itGood s.last) itLink s.items j = true) 0 (by simp -implicitDefEqProofs only [go_sem, LeTs_undef, LeTs_same, LeTs_nil]; try simp [LeTs]) rfl (by simp) ?_
  rintro i ⟨hi, hz⟩
  simp -implicitDefEqProofs only [go_sem]
  refine BrA_i (fun h => ?_) (fun h => ?_) <;> simp -implicitDefEqProofs only [go_sem]
  · have bad : ∀ (hl : i < s.items.length), goodAt (itGood s.last) itLink s.items i = false → AV.t (T.bool false) = Bo (streamOkM s) := fun hl hg => by
      have := allAt_no hl hg
      simp [streamOkM, this]
    have hfl : ∀ (hl : i < s.items.length), s.items[i].fields.length < 4611686018427387904 := fun hl => hs3 _ (List.getElem_mem hl)
    have h : i < s.items.length := by simp at h; omega
    have h0i : (0 : Int) ≤ i := by omega
    have h1i : (i : Int) < s.items.length := by omega
    have wi : IntKind.i64.wrap ((i : Int) + 1) = ((i + 1 : Nat) : Int) := by rw [wrap64 (by omega) (by omega)]; omega
    have hlt := h
    rcases Nat.eq_zero_or_pos i with h0 | h0
    · have hp : ((i : Int) > 0) = False := by simp; omega
      have hG := goodAt_0 (itGood s.last) itLink s.items h h0
      simp -implicitDefEqProofs only [go_sem, hp, hlt, h0i, h1i, row_getD _ _ hlt, It.row]
      refine RegD_of sch_26_5 tysOk (by kernel_rfl) ?_
      simp -implicitDefEqProofs only [go_sem, hp, hlt, h0i, h1i, row_getD _ _ hlt, It.row]
      (repeat' (first   | (refine CallW.one (s_l9Id _ _) p_l9Id (by first | (simp -implicitDefEqProofs only [go_sem]; done) | ((conv => lhs; simp -implicitDefEqProofs only [go_sem]); done) | (simp -implicitDefEqProofs only [go_sem]; rfl)) (by first | trivial | (simp [DeepR, DeepV, DeepVs, DeepC, DeepCs, T.scal]; done)) ?_; try simp -implicitDefEqProofs only [go_sem, hp, hlt, h0i, h1i, row_getD _ _ hlt, It.row])   | (refine CallW.one (s_sIdLess _ _ _ _) p_sIdLess (by first | (simp -implicitDefEqProofs only [go_sem]; done) | ((conv => lhs; simp -implicitDefEqProofs only [go_sem]); done) | (simp -implicitDefEqProofs only [go_sem]; rfl)) (by first | trivial | (simp [DeepR, DeepV, DeepVs, DeepC, DeepCs, T.scal]; done)) ?_; try simp -implicitDefEqProofs only [go_sem, hp, hlt, h0i, h1i, row_getD _ _ hlt, It.row])   | (refine CallW.one (s_sFieldsOk s.items[i].fields (hfl (by assumption))) p_sFieldsOk (by first | (simp -implicitDefEqProofs only [go_sem]; done) | ((conv => lhs; simp -implicitDefEqProofs only [go_sem]); done) | (simp -implicitDefEqProofs only [go_sem]; rfl)) (by first | trivial | (simp [DeepR, DeepV, DeepVs, DeepC, DeepCs, T.scal]; done)) ?_; try simp -implicitDefEqProofs only [go_sem, hp, hlt, h0i, h1i, row_getD _ _ hlt, It.row])   | (refine BrA_i (fun h => ?_) (fun h => ?_) <;> (try simp only [decide_eq_true_eq, decide_eq_false_iff_not, Bool.not_eq_true', Bool.not_eq_false', gt_iff_lt, ge_iff_le] at h) <;> try simp -implicitDefEqProofs only [go_sem, hp, hlt, h0i, h1i, row_getD _ _ hlt, It.row])   | (refine And.intro (a := roomy _ _) (by (unfold roomy; (try simp only [List.length_take, List.length_append, List.length_map, List.length_cons, List.length_nil]); omega)) ?_; try simp -implicitDefEqProofs only [go_sem, hp, hlt, h0i, h1i, row_getD _ _ hlt, It.row])))
      all_goals first
        | (refine bad (by assumption) ?_; rw [hG]; clear bad hz hG hp hi wi h0 hfl hs1 hs2 hs3 hs4 hw; simp_all [-Int.not_lt, -Int.not_le, -Nat.not_lt, -Nat.not_le, itGood, ltM, idM, fieldsFullM]; done)
        | (refine .to [32, 161, 162, 163, 217, 218, 219, 257, 258, 259, 433, 434, 435] (i + 1) rfl (by simp -implicitDefEqProofs only [go_sem, LeTs_undef, LeTs_same, LeTs_nil, wi]) (by simp -implicitDefEqProofs only [go_sem]) (by omega) ⟨by assumption, good_step hz ?_⟩; rw [hG]; clear bad hz hG hp hi wi h0 hfl hs1 hs2 hs3 hs4 hw; simp_all [-Int.not_lt, -Int.not_le, -Nat.not_lt, -Nat.not_le, itGood, ltM, idM, fieldsFullM] <;> exact List.length_pos_iff.2 (by assumption))
    · have hp : ((i : Int) > 0) = True := by simp; omega
      have hG := goodAt_s (itGood s.last) itLink s.items h h0
      have hq : i - 1 < s.items.length := by omega
      have wj : IntKind.i64.wrap ((i : Int) - 1) = ((i - 1 : Nat) : Int) := by rw [wrap64 (by omega) (by omega)]; omega
      have h0j : (0 : Int) ≤ ((i - 1 : Nat) : Int) := by omega
      have h1j : ((i - 1 : Nat) : Int) < s.items.length := by omega
      simp -implicitDefEqProofs only [go_sem, hp, hlt, h0i, h1i, row_getD _ _ hlt, It.row, wj, h0j, h1j, hq, row_getD _ _ hq]
      refine RegD_of sch_26_5 tysOk (by kernel_rfl) ?_
      simp -implicitDefEqProofs only [go_sem, hp, hlt, h0i, h1i, row_getD _ _ hlt, It.row, wj, h0j, h1j, hq, row_getD _ _ hq]
      (repeat' (first   | (refine CallW.one (s_l9Id _ _) p_l9Id (by first | (simp -implicitDefEqProofs only [go_sem]; done) | ((conv => lhs; simp -implicitDefEqProofs only [go_sem]); done) | (simp -implicitDefEqProofs only [go_sem]; rfl)) (by first | trivial | (simp [DeepR, DeepV, DeepVs, DeepC, DeepCs, T.scal]; done)) ?_; try simp -implicitDefEqProofs only [go_sem, hp, hlt, h0i, h1i, row_getD _ _ hlt, It.row, wj, h0j, h1j, hq, row_getD _ _ hq])   | (refine CallW.one (s_sIdLess _ _ _ _) p_sIdLess (by first | (simp -implicitDefEqProofs only [go_sem]; done) | ((conv => lhs; simp -implicitDefEqProofs only [go_sem]); done) | (simp -implicitDefEqProofs only [go_sem]; rfl)) (by first | trivial | (simp [DeepR, DeepV, DeepVs, DeepC, DeepCs, T.scal]; done)) ?_; try simp -implicitDefEqProofs only [go_sem, hp, hlt, h0i, h1i, row_getD _ _ hlt, It.row, wj, h0j, h1j, hq, row_getD _ _ hq])   | (refine CallW.one (s_sFieldsOk s.items[i].fields (hfl (by assumption))) p_sFieldsOk (by first | (simp -implicitDefEqProofs only [go_sem]; done) | ((conv => lhs; simp -implicitDefEqProofs only [go_sem]); done) | (simp -implicitDefEqProofs only [go_sem]; rfl)) (by first | trivial | (simp [DeepR, DeepV, DeepVs, DeepC, DeepCs, T.scal]; done)) ?_; try simp -implicitDefEqProofs only [go_sem, hp, hlt, h0i, h1i, row_getD _ _ hlt, It.row, wj, h0j, h1j, hq, row_getD _ _ hq])   | (refine BrA_i (fun h => ?_) (fun h => ?_) <;> (try simp only [decide_eq_true_eq, decide_eq_false_iff_not, Bool.not_eq_true', Bool.not_eq_false', gt_iff_lt, ge_iff_le] at h) <;> try simp -implicitDefEqProofs only [go_sem, hp, hlt, h0i, h1i, row_getD _ _ hlt, It.row, wj, h0j, h1j, hq, row_getD _ _ hq])   | (refine And.intro (a := roomy _ _) (by (unfold roomy; (try simp only [List.length_take, List.length_append, List.length_map, List.length_cons, List.length_nil]); omega)) ?_; try simp -implicitDefEqProofs only [go_sem, hp, hlt, h0i, h1i, row_getD _ _ hlt, It.row, wj, h0j, h1j, hq, row_getD _ _ hq])))
      all_goals first
        | (refine bad (by assumption) ?_; rw [hG]; clear bad hz hG hp hi wi wj h0j h1j hfl hs1 hs2 hs3 hs4 hw; simp_all [-Int.not_lt, -Int.not_le, -Nat.not_lt, -Nat.not_le, itGood, ltM, idM, fieldsFullM, itLink]; done)
        | (refine .to [32, 161, 162, 163, 217, 218, 219, 257, 258, 259, 433, 434, 435] (i + 1) rfl (by simp -implicitDefEqProofs only [go_sem, LeTs_undef, LeTs_same, LeTs_nil, wi]) (by simp -implicitDefEqProofs only [go_sem]) (by omega) ⟨by assumption, good_step hz ?_⟩; rw [hG]; clear bad hz hG hp hi wi wj h0j h1j hfl hs1 hs2 hs3 hs4 hw; simp_all [-Int.not_lt, -Int.not_le, -Nat.not_lt, -Nat.not_le, itGood, ltM, idM, fieldsFullM, itLink] <;> exact List.length_pos_iff.2 (by assumption))
  · have h : i = s.items.length := by simp at h; omega
    subst h
    have hall : allAt (itGood s.last) itLink s.items = true := (allAt_iff _ _ _).2 hz
    clear hz hi
    refine LoopW.slotsM [false, true, false, false, false, true, false, false, false, false, false, false, false, false, false, false, false, false, false, false, false, false, false, false, false, false, false, false, false, false, false, false, false, false, false, false, false, false, false, false, false, false, false, false, false, false, false, false, false, false, false, false, false, false, false, false, false, false, false, false, false, false, false, false, false, false, false, false, false, false, false, false, false, false, false, false, false, false, false, false, false, false, false, false, false, false, false, false, false, false, false, false, false, false, false, false, false, false, false, false, false, false, false, false, false, false, false, false] (α := Nat) (fun i => [(5, I i)]) (fun _ => []) (fun i => s.groups.length - i) (fun i => i ≤ s.groups.length ∧ ∀ j, j < i → goodAt (grGood s.last) grLink s.groups j = true) 0 (by simp -implicitDefEqProofs only [go_sem, LeTs_undef, LeTs_same, LeTs_nil]; try simp [LeTs]) rfl (by simp) ?_
    rintro i ⟨hi, hz⟩
    simp -implicitDefEqProofs only [go_sem]
    refine BrA_i (fun h => ?_) (fun h => ?_) <;> simp -implicitDefEqProofs only [go_sem]
    · have bad : ∀ (hl : i < s.groups.length), goodAt (grGood s.last) grLink s.groups i = false → AV.t (T.bool false) = Bo (streamOkM s) := fun hl hg => by
        have := allAt_no hl hg
        simp [streamOkM, this]
      have hfl : ∀ (hl : i < s.groups.length), s.groups[i].waits.length < 2000000 := fun hl => hw _ (List.getElem_mem hl)
      have h : i < s.groups.length := by simp at h; omega
      have h0i : (0 : Int) ≤ i := by omega
      have h1i : (i : Int) < s.groups.length := by omega
      have wi : IntKind.i64.wrap ((i : Int) + 1) = ((i + 1 : Nat) : Int) := by rw [wrap64 (by omega) (by omega)]; omega
      have hlt := h
      rcases Nat.eq_zero_or_pos i with h0 | h0
      · have hp : ((i : Int) > 0) = False := by simp; omega
        have hG := goodAt_0 (grGood s.last) grLink s.groups h h0
        simp -implicitDefEqProofs only [go_sem, hp, hlt, h0i, h1i, row_getD _ _ hlt, Gr.row]
        refine RegD_of sch_26_10 tysOk (by kernel_rfl) ?_
        simp -implicitDefEqProofs only [go_sem, hp, hlt, h0i, h1i, row_getD _ _ hlt, Gr.row]
        (repeat' (first   | (refine CallW.one (s_l9Group s s.groups[i] (hfl (by assumption))) p_l9Group (by first | (simp -implicitDefEqProofs only [go_sem]; done) | ((conv => lhs; simp -implicitDefEqProofs only [go_sem]); done) | (simp -implicitDefEqProofs only [go_sem]; rfl)) (by first | trivial | (simp [DeepR, DeepV, DeepVs, DeepC, DeepCs, T.scal]; done)) ?_; try simp -implicitDefEqProofs only [go_sem, hp, hlt, h0i, h1i, row_getD _ _ hlt, Gr.row])   | (refine BrA_i (fun h => ?_) (fun h => ?_) <;> (try simp only [decide_eq_true_eq, decide_eq_false_iff_not, Bool.not_eq_true', Bool.not_eq_false', gt_iff_lt, ge_iff_le] at h) <;> try simp -implicitDefEqProofs only [go_sem, hp, hlt, h0i, h1i, row_getD _ _ hlt, Gr.row])   | (refine And.intro (a := roomy _ _) (by (unfold roomy; (try simp only [List.length_take, List.length_append, List.length_map, List.length_cons, List.length_nil]); omega)) ?_; try simp -implicitDefEqProofs only [go_sem, hp, hlt, h0i, h1i, row_getD _ _ hlt, Gr.row])))
        all_goals first
          | (refine bad (by assumption) ?_; rw [hG]; clear bad hz hG hp hi wi h0 hfl hs1 hs2 hs3 hs4 hw hall; simp_all [-Int.not_lt, -Int.not_le, -Nat.not_lt, -Nat.not_le, id]; done)
          | (refine .to [569, 570, 571] (i + 1) rfl (by simp -implicitDefEqProofs only [go_sem, LeTs_undef, LeTs_same, LeTs_nil, wi]) (by simp -implicitDefEqProofs only [go_sem]) (by omega) ⟨by assumption, good_step hz ?_⟩; rw [hG]; clear bad hz hG hp hi wi h0 hfl hs1 hs2 hs3 hs4 hw hall; simp_all [-Int.not_lt, -Int.not_le, -Nat.not_lt, -Nat.not_le, id])
      · have hp : ((i : Int) > 0) = True := by simp; omega
        have hG := goodAt_s (grGood s.last) grLink s.groups h h0
        have hq : i - 1 < s.groups.length := by omega
        have wj : IntKind.i64.wrap ((i : Int) - 1) = ((i - 1 : Nat) : Int) := by rw [wrap64 (by omega) (by omega)]; omega
        have h0j : (0 : Int) ≤ ((i - 1 : Nat) : Int) := by omega
        have h1j : ((i - 1 : Nat) : Int) < s.groups.length := by omega
        simp -implicitDefEqProofs only [go_sem, hp, hlt, h0i, h1i, row_getD _ _ hlt, Gr.row, wj, h0j, h1j, hq, row_getD _ _ hq]
        refine RegD_of sch_26_10 tysOk (by kernel_rfl) ?_
        simp -implicitDefEqProofs only [go_sem, hp, hlt, h0i, h1i, row_getD _ _ hlt, Gr.row, wj, h0j, h1j, hq, row_getD _ _ hq]
        (repeat' (first   | (refine CallW.one (s_l9Group s s.groups[i] (hfl (by assumption))) p_l9Group (by first | (simp -implicitDefEqProofs only [go_sem]; done) | ((conv => lhs; simp -implicitDefEqProofs only [go_sem]); done) | (simp -implicitDefEqProofs only [go_sem]; rfl)) (by first | trivial | (simp [DeepR, DeepV, DeepVs, DeepC, DeepCs, T.scal]; done)) ?_; try simp -implicitDefEqProofs only [go_sem, hp, hlt, h0i, h1i, row_getD _ _ hlt, Gr.row, wj, h0j, h1j, hq, row_getD _ _ hq])   | (refine BrA_i (fun h => ?_) (fun h => ?_) <;> (try simp only [decide_eq_true_eq, decide_eq_false_iff_not, Bool.not_eq_true', Bool.not_eq_false', gt_iff_lt, ge_iff_le] at h) <;> try simp -implicitDefEqProofs only [go_sem, hp, hlt, h0i, h1i, row_getD _ _ hlt, Gr.row, wj, h0j, h1j, hq, row_getD _ _ hq])   | (refine And.intro (a := roomy _ _) (by (unfold roomy; (try simp only [List.length_take, List.length_append, List.length_map, List.length_cons, List.length_nil]); omega)) ?_; try simp -implicitDefEqProofs only [go_sem, hp, hlt, h0i, h1i, row_getD _ _ hlt, Gr.row, wj, h0j, h1j, hq, row_getD _ _ hq])))
        all_goals first
          | (refine bad (by assumption) ?_; rw [hG]; clear bad hz hG hp hi wi wj h0j h1j hfl hs1 hs2 hs3 hs4 hw hall; simp_all [-Int.not_lt, -Int.not_le, -Nat.not_lt, -Nat.not_le, grLink]; done)
          | (refine .to [569, 570, 571] (i + 1) rfl (by simp -implicitDefEqProofs only [go_sem, LeTs_undef, LeTs_same, LeTs_nil, wi]) (by simp -implicitDefEqProofs only [go_sem]) (by omega) ⟨by assumption, good_step hz ?_⟩; rw [hG]; clear bad hz hG hp hi wi wj h0j h1j hfl hs1 hs2 hs3 hs4 hw hall; simp_all [-Int.not_lt, -Int.not_le, -Nat.not_lt, -Nat.not_le, grLink])
    · have h : i = s.groups.length := by simp at h; omega
      subst h
      have hall2 : allAt (grGood s.last) grLink s.groups = true := (allAt_iff _ _ _).2 hz
      (repeat' (first   | (refine CallW.one (s_l9Id _ _) p_l9Id (by first | (simp -implicitDefEqProofs only [go_sem]; done) | ((conv => lhs; simp -implicitDefEqProofs only [go_sem]); done) | (simp -implicitDefEqProofs only [go_sem]; rfl)) (by first | trivial | (simp [DeepR, DeepV, DeepVs, DeepC, DeepCs, T.scal]; done)) ?_; try simp -implicitDefEqProofs only [go_sem])   | (refine BrA_i (fun h => ?_) (fun h => ?_) <;> (try simp only [decide_eq_true_eq, decide_eq_false_iff_not, Bool.not_eq_true', Bool.not_eq_false', gt_iff_lt, ge_iff_le] at h) <;> try simp -implicitDefEqProofs only [go_sem])   | (refine And.intro (a := roomy _ _) (by (unfold roomy; (try simp only [List.length_take, List.length_append, List.length_map, List.length_cons, List.length_nil]); omega)) ?_; try simp -implicitDefEqProofs only [go_sem])))
      all_goals (clear hz hi hs1 hs2 hs3 hs4 hw; simp_all [-Int.not_lt, -Int.not_le, -Nat.not_lt, -Nat.not_le, streamOkM, idM])
      all_goals first
        | omega
        | (have e1 : s.items.length ≤ 16 := by omega
           simp [e1] <;> omega)
end Go.Proofs.Ytofiljboaegekab.Am
namespace Go.Proofs.Ytofiljboaegekab.Am
open Go
set_option maxRecDepth 100000
set_option linter.unusedSimpArgs false
set_option linter.unusedVariables false
def Idt.row (x : Idt) : List T := [.int .i64 x.t, .int .i64 x.n]
def lG {α : Type} (G : α → Prop) (xs : List α) : Prop := xs.length ≤ 140737488351232 ∧ ∀ x ∈ xs, G x
def Pr.G (x : Pr) : Prop := x.k.size ≤ 140737488351232 ∧ x.v.size ≤ 140737488351232
def It.G (x : It) : Prop := lG Pr.G x.fields
def Wt.G (x : Wt) : Prop := x.who.size ≤ 140737488351232
def Gr.G (x : Gr) : Prop := x.name.size ≤ 140737488351232 ∧ lG Wt.G x.waits
def Stm.G (x : Stm) : Prop := lG It.G x.items ∧ lG Gr.G x.groups
theorem p_szPair : Plain Try.prog 132 := ⟨_, Try.func132, rfl, by decide⟩
theorem s_szPair (x : Pr) (n : Int) (h0 : 0 ≤ n) (h1 : n ≤ 1048576) (hs : x.G) : Spec Try.prog 132 [x.av, I n] (fun r => r = I (cutM n x.w)) := by
  have hk : x.w = x.k.size + x.v.size := rfl
  obtain ⟨q0, q1⟩ := hs
  refine Spec.of tysOk mixed Try.func132 rfl (by decide) ?_
  simp -implicitDefEqProofs only [go_sem, Try.f132]
  have w0 : IntKind.i64.wrap (n - ((x.k.size : Nat) : Int)) = n - ((x.k.size : Nat) : Int) := wrap64 (by omega) (by omega)
  simp -implicitDefEqProofs only [go_sem, w0]
  refine BrA_i (fun g0 => ?_) (fun g0 => ?_) <;> simp -implicitDefEqProofs only [go_sem]
  · have : n < x.w := by simp at g0; omega
    simp [cutM, this]
  have g0 : 0 ≤ n - ((x.k.size : Nat) : Int) := by simp at g0; omega
  have w1 : IntKind.i64.wrap (n - ((x.k.size : Nat) : Int) - ((x.v.size : Nat) : Int)) = n - ((x.k.size : Nat) : Int) - ((x.v.size : Nat) : Int) := wrap64 (by omega) (by omega)
  simp -implicitDefEqProofs only [go_sem, w1]
  refine BrA_i (fun g1 => ?_) (fun g1 => ?_) <;> simp -implicitDefEqProofs only [go_sem]
  · have : n < x.w := by simp at g1; omega
    simp [cutM, this]
  have g1 : 0 ≤ n - ((x.k.size : Nat) : Int) - ((x.v.size : Nat) : Int) := by simp at g1; omega
  have : ¬ n < x.w := by omega
  simp only [cutM, this, if_false]
  congr 2
  all_goals omega
theorem p_szPairS : Plain Try.prog 52 := ⟨_, Try.func52, rfl, by decide⟩
theorem s_szPairS (xs : List Pr) (n : Int) (h0 : 0 ≤ n) (h1 : n ≤ 1048576) (hs : lG Pr.G xs) : Spec Try.prog 52 [.t (.list false 2 (xs.map Pr.row)), I n] (fun r => r = I (cutM n (wAll Pr.w xs))) := by
  have hk : wAll Pr.w xs = xs.length + wSum Pr.w xs := rfl
  obtain ⟨hs, hsG⟩ := hs
  refine Spec.of tysOk mixed Try.func52 rfl (by decide) ?_
  have w1 : IntKind.i64.wrap (n - (xs.length : Int)) = n - xs.length := wrap64 (by omega) (by omega)
  simp -implicitDefEqProofs only [go_sem, Try.f52, w1]
  refine BrA_i (fun h2 => ?_) (fun h2 => ?_) <;> simp -implicitDefEqProofs only [go_sem]
  · simp at h2
    have : n < wAll Pr.w xs := by omega
    simp [cutM, this]
  · simp at h2
    refine LoopW.slots (α := Nat) (fun i => [(5, I i), (1, I (n - xs.length - wSum Pr.w (xs.take i)))]) (fun _ => []) (fun i => xs.length - i) (fun i => i ≤ xs.length ∧ 0 ≤ n - xs.length - wSum Pr.w (xs.take i)) 0 (by simp -implicitDefEqProofs only [go_sem]; simp [wSum]) rfl (by simp [wSum]; omega) ?_
    rintro i ⟨hi, hz⟩
    simp -implicitDefEqProofs only [go_sem]
    refine BrA_i (fun h => ?_) (fun h => ?_)
    · have h : i < xs.length := by simp at h; omega
      have hw1 : IntKind.i64.wrap ((i : Int) + 1) = ((i + 1 : Nat) : Int) := by rw [wrap64 (by omega) (by omega)]; omega
      have e1 := wSum_take Pr.w xs h
      have e2 := wSum_le Pr.w xs (i + 1)
      simp -implicitDefEqProofs only [go_sem, row_getD _ _ h, Pr.row]
      refine ⟨⟨by omega, by omega⟩, ?_⟩
      refine .one (s_szPair xs[i] _ hz (by omega) (hsG _ (List.getElem_mem h))) p_szPair (by simp -implicitDefEqProofs only [go_sem]) trivial ?_
      simp -implicitDefEqProofs only [go_sem]
      refine BrA_i (fun h3 => ?_) (fun h3 => ?_) <;> simp -implicitDefEqProofs only [go_sem]
      · have h3 : n - xs.length - wSum Pr.w (xs.take i) < xs[i].w := (cutM_lt _ _).1 (by simpa using h3)
        have : n < wAll Pr.w xs := by omega
        simp [cutM, this]
      · have h3 : ¬ n - xs.length - wSum Pr.w (xs.take i) < xs[i].w := fun hh => by simp [(cutM_lt _ _).2 hh] at h3
        refine .to [] (i + 1) rfl ?_ ?_ (by omega) ⟨h, by omega⟩ <;> (try simp -implicitDefEqProofs only [go_sem, LeTs_undef, LeTs_same, LeTs_nil, hw1, cutM_ge h3, e1])
        refine LeTs_cons _ _ _ _ ?_ ?_
        · congr 2; omega
        · simp -implicitDefEqProofs only [go_sem, LeTs_undef, LeTs_same, LeTs_nil]
    · simp -implicitDefEqProofs only [go_sem]
      have h : i = xs.length := by simp at h; omega
      subst h
      rw [List.take_length] at hz ⊢
      have : ¬ n < wAll Pr.w xs := by omega
      simp only [cutM, this, if_false]
      congr 2
      omega
theorem p_szItem : Plain Try.prog 165 := ⟨_, Try.func165, rfl, by decide⟩
theorem s_szItem (x : It) (n : Int) (h0 : 0 ≤ n) (h1 : n ≤ 1048576) (hs : x.G) : Spec Try.prog 165 [x.av, I n] (fun r => r = I (cutM n x.w)) := by
  have hk : x.w = wAll Pr.w x.fields := rfl
  have q0 := hs
  refine Spec.of tysOk mixed Try.func165 rfl (by decide) ?_
  simp -implicitDefEqProofs only [go_sem, Try.f165]
  refine .one (s_szPairS x.fields (n) (by omega) (by omega) q0) p_szPairS (by simp -implicitDefEqProofs only [go_sem]) trivial ?_
  simp -implicitDefEqProofs only [go_sem]
  refine BrA_i (fun g0 => ?_) (fun g0 => ?_) <;> simp -implicitDefEqProofs only [go_sem]
  · have g0 := (cutM_lt _ _).1 (by simpa using g0)
    have : n < x.w := by omega
    simp [cutM, this]
  have g0 : ¬ n < ((wAll Pr.w x.fields : Nat) : Int) := fun hh => by simp [(cutM_lt _ _).2 hh] at g0
  simp -implicitDefEqProofs only [cutM_ge g0]
  have : ¬ n < x.w := by omega
  simp only [cutM, this, if_false]
  congr 2
  all_goals omega
theorem p_szItemS : Plain Try.prog 121 := ⟨_, Try.func121, rfl, by decide⟩
theorem s_szItemS (xs : List It) (n : Int) (h0 : 0 ≤ n) (h1 : n ≤ 1048576) (hs : lG It.G xs) : Spec Try.prog 121 [.t (.list false 3 (xs.map It.row)), I n] (fun r => r = I (cutM n (wAll It.w xs))) := by
  have hk : wAll It.w xs = xs.length + wSum It.w xs := rfl
  obtain ⟨hs, hsG⟩ := hs
  refine Spec.of tysOk mixed Try.func121 rfl (by decide) ?_
  have w1 : IntKind.i64.wrap (n - (xs.length : Int)) = n - xs.length := wrap64 (by omega) (by omega)
  simp -implicitDefEqProofs only [go_sem, Try.f121, w1]
  refine BrA_i (fun h2 => ?_) (fun h2 => ?_) <;> simp -implicitDefEqProofs only [go_sem]
  · simp at h2
    have : n < wAll It.w xs := by omega
    simp [cutM, this]
  · simp at h2
    refine LoopW.slots (α := Nat) (fun i => [(5, I i), (1, I (n - xs.length - wSum It.w (xs.take i)))]) (fun _ => []) (fun i => xs.length - i) (fun i => i ≤ xs.length ∧ 0 ≤ n - xs.length - wSum It.w (xs.take i)) 0 (by simp -implicitDefEqProofs only [go_sem]; simp [wSum]) rfl (by simp [wSum]; omega) ?_
    rintro i ⟨hi, hz⟩
    simp -implicitDefEqProofs only [go_sem]
    refine BrA_i (fun h => ?_) (fun h => ?_)
    · have h : i < xs.length := by simp at h; omega
      have hw1 : IntKind.i64.wrap ((i : Int) + 1) = ((i + 1 : Nat) : Int) := by rw [wrap64 (by omega) (by omega)]; omega
      have e1 := wSum_take It.w xs h
      have e2 := wSum_le It.w xs (i + 1)
      simp -implicitDefEqProofs only [go_sem, row_getD _ _ h, It.row]
      refine ⟨⟨by omega, by omega⟩, ?_⟩
      refine .one (s_szItem xs[i] _ hz (by omega) (hsG _ (List.getElem_mem h))) p_szItem (by simp -implicitDefEqProofs only [go_sem]) trivial ?_
      simp -implicitDefEqProofs only [go_sem]
      refine BrA_i (fun h3 => ?_) (fun h3 => ?_) <;> simp -implicitDefEqProofs only [go_sem]
      · have h3 : n - xs.length - wSum It.w (xs.take i) < xs[i].w := (cutM_lt _ _).1 (by simpa using h3)
        have : n < wAll It.w xs := by omega
        simp [cutM, this]
      · have h3 : ¬ n - xs.length - wSum It.w (xs.take i) < xs[i].w := fun hh => by simp [(cutM_lt _ _).2 hh] at h3
        refine .to [] (i + 1) rfl ?_ ?_ (by omega) ⟨h, by omega⟩ <;> (try simp -implicitDefEqProofs only [go_sem, LeTs_undef, LeTs_same, LeTs_nil, hw1, cutM_ge h3, e1])
        refine LeTs_cons _ _ _ _ ?_ ?_
        · congr 2; omega
        · simp -implicitDefEqProofs only [go_sem, LeTs_undef, LeTs_same, LeTs_nil]
    · simp -implicitDefEqProofs only [go_sem]
      have h : i = xs.length := by simp at h; omega
      subst h
      rw [List.take_length] at hz ⊢
      have : ¬ n < wAll It.w xs := by omega
      simp only [cutM, this, if_false]
      congr 2
      omega
theorem p_szWait : Plain Try.prog 213 := ⟨_, Try.func213, rfl, by decide⟩
theorem s_szWait (x : Wt) (n : Int) (h0 : 0 ≤ n) (h1 : n ≤ 1048576) (hs : x.G) : Spec Try.prog 213 [x.av, I n] (fun r => r = I (cutM n x.w)) := by
  have hk : x.w = x.who.size := rfl
  have q0 : x.who.size ≤ 140737488351232 := hs
  refine Spec.of tysOk mixed Try.func213 rfl (by decide) ?_
  simp -implicitDefEqProofs only [go_sem, Try.f213]
  have w0 : IntKind.i64.wrap (n - ((x.who.size : Nat) : Int)) = n - ((x.who.size : Nat) : Int) := wrap64 (by omega) (by omega)
  simp -implicitDefEqProofs only [go_sem, w0]
  refine BrA_i (fun g0 => ?_) (fun g0 => ?_) <;> simp -implicitDefEqProofs only [go_sem]
  · have : n < x.w := by simp at g0; omega
    simp [cutM, this]
  have g0 : 0 ≤ n - ((x.who.size : Nat) : Int) := by simp at g0; omega
  have : ¬ n < x.w := by omega
  simp only [cutM, this, if_false]
  congr 2
  all_goals omega
theorem p_szWaitS : Plain Try.prog 194 := ⟨_, Try.func194, rfl, by decide⟩
theorem s_szWaitS (xs : List Wt) (n : Int) (h0 : 0 ≤ n) (h1 : n ≤ 1048576) (hs : lG Wt.G xs) : Spec Try.prog 194 [.t (.list false 5 (xs.map Wt.row)), I n] (fun r => r = I (cutM n (wAll Wt.w xs))) := by
  have hk : wAll Wt.w xs = xs.length + wSum Wt.w xs := rfl
  obtain ⟨hs, hsG⟩ := hs
  refine Spec.of tysOk mixed Try.func194 rfl (by decide) ?_
  have w1 : IntKind.i64.wrap (n - (xs.length : Int)) = n - xs.length := wrap64 (by omega) (by omega)
  simp -implicitDefEqProofs only [go_sem, Try.f194, w1]
  refine BrA_i (fun h2 => ?_) (fun h2 => ?_) <;> simp -implicitDefEqProofs only [go_sem]
  · simp at h2
    have : n < wAll Wt.w xs := by omega
    simp [cutM, this]
  · simp at h2
    refine LoopW.slots (α := Nat) (fun i => [(5, I i), (1, I (n - xs.length - wSum Wt.w (xs.take i)))]) (fun _ => []) (fun i => xs.length - i) (fun i => i ≤ xs.length ∧ 0 ≤ n - xs.length - wSum Wt.w (xs.take i)) 0 (by simp -implicitDefEqProofs only [go_sem]; simp [wSum]) rfl (by simp [wSum]; omega) ?_
    rintro i ⟨hi, hz⟩
    simp -implicitDefEqProofs only [go_sem]
    refine BrA_i (fun h => ?_) (fun h => ?_)
    · have h : i < xs.length := by simp at h; omega
      have hw1 : IntKind.i64.wrap ((i : Int) + 1) = ((i + 1 : Nat) : Int) := by rw [wrap64 (by omega) (by omega)]; omega
      have e1 := wSum_take Wt.w xs h
      have e2 := wSum_le Wt.w xs (i + 1)
      simp -implicitDefEqProofs only [go_sem, row_getD _ _ h, Wt.row]
      refine ⟨⟨by omega, by omega⟩, ?_⟩
      refine .one (s_szWait xs[i] _ hz (by omega) (hsG _ (List.getElem_mem h))) p_szWait (by simp -implicitDefEqProofs only [go_sem]) trivial ?_
      simp -implicitDefEqProofs only [go_sem]
      refine BrA_i (fun h3 => ?_) (fun h3 => ?_) <;> simp -implicitDefEqProofs only [go_sem]
      · have h3 : n - xs.length - wSum Wt.w (xs.take i) < xs[i].w := (cutM_lt _ _).1 (by simpa using h3)
        have : n < wAll Wt.w xs := by omega
        simp [cutM, this]
      · have h3 : ¬ n - xs.length - wSum Wt.w (xs.take i) < xs[i].w := fun hh => by simp [(cutM_lt _ _).2 hh] at h3
        refine .to [] (i + 1) rfl ?_ ?_ (by omega) ⟨h, by omega⟩ <;> (try simp -implicitDefEqProofs only [go_sem, LeTs_undef, LeTs_same, LeTs_nil, hw1, cutM_ge h3, e1])
        refine LeTs_cons _ _ _ _ ?_ ?_
        · congr 2; omega
        · simp -implicitDefEqProofs only [go_sem, LeTs_undef, LeTs_same, LeTs_nil]
    · simp -implicitDefEqProofs only [go_sem]
      have h : i = xs.length := by simp at h; omega
      subst h
      rw [List.take_length] at hz ⊢
      have : ¬ n < wAll Wt.w xs := by omega
      simp only [cutM, this, if_false]
      congr 2
      omega
theorem p_szGroup : Plain Try.prog 166 := ⟨_, Try.func166, rfl, by decide⟩
theorem s_szGroup (x : Gr) (n : Int) (h0 : 0 ≤ n) (h1 : n ≤ 1048576) (hs : x.G) : Spec Try.prog 166 [x.av, I n] (fun r => r = I (cutM n x.w)) := by
  have hk : x.w = x.name.size + wAll Wt.w x.waits := rfl
  obtain ⟨q0, q1⟩ := hs
  refine Spec.of tysOk mixed Try.func166 rfl (by decide) ?_
  simp -implicitDefEqProofs only [go_sem, Try.f166]
  have w0 : IntKind.i64.wrap (n - ((x.name.size : Nat) : Int)) = n - ((x.name.size : Nat) : Int) := wrap64 (by omega) (by omega)
  simp -implicitDefEqProofs only [go_sem, w0]
  refine BrA_i (fun g0 => ?_) (fun g0 => ?_) <;> simp -implicitDefEqProofs only [go_sem]
  · have : n < x.w := by simp at g0; omega
    simp [cutM, this]
  have g0 : 0 ≤ n - ((x.name.size : Nat) : Int) := by simp at g0; omega
  refine .one (s_szWaitS x.waits (n - ((x.name.size : Nat) : Int)) (by omega) (by omega) q1) p_szWaitS (by simp -implicitDefEqProofs only [go_sem]) trivial ?_
  simp -implicitDefEqProofs only [go_sem]
  refine BrA_i (fun g1 => ?_) (fun g1 => ?_) <;> simp -implicitDefEqProofs only [go_sem]
  · have g1 := (cutM_lt _ _).1 (by simpa using g1)
    have : n < x.w := by omega
    simp [cutM, this]
  have g1 : ¬ n - ((x.name.size : Nat) : Int) < ((wAll Wt.w x.waits : Nat) : Int) := fun hh => by simp [(cutM_lt _ _).2 hh] at g1
  simp -implicitDefEqProofs only [cutM_ge g1]
  have : ¬ n < x.w := by omega
  simp only [cutM, this, if_false]
  congr 2
  all_goals omega
theorem p_szGroupS : Plain Try.prog 122 := ⟨_, Try.func122, rfl, by decide⟩
theorem s_szGroupS (xs : List Gr) (n : Int) (h0 : 0 ≤ n) (h1 : n ≤ 1048576) (hs : lG Gr.G xs) : Spec Try.prog 122 [.t (.list false 4 (xs.map Gr.row)), I n] (fun r => r = I (cutM n (wAll Gr.w xs))) := by
  have hk : wAll Gr.w xs = xs.length + wSum Gr.w xs := rfl
  obtain ⟨hs, hsG⟩ := hs
  refine Spec.of tysOk mixed Try.func122 rfl (by decide) ?_
  have w1 : IntKind.i64.wrap (n - (xs.length : Int)) = n - xs.length := wrap64 (by omega) (by omega)
  simp -implicitDefEqProofs only [go_sem, Try.f122, w1]
  refine BrA_i (fun h2 => ?_) (fun h2 => ?_) <;> simp -implicitDefEqProofs only [go_sem]
  · simp at h2
    have : n < wAll Gr.w xs := by omega
    simp [cutM, this]
  · simp at h2
    refine LoopW.slots (α := Nat) (fun i => [(5, I i), (1, I (n - xs.length - wSum Gr.w (xs.take i)))]) (fun _ => []) (fun i => xs.length - i) (fun i => i ≤ xs.length ∧ 0 ≤ n - xs.length - wSum Gr.w (xs.take i)) 0 (by simp -implicitDefEqProofs only [go_sem]; simp [wSum]) rfl (by simp [wSum]; omega) ?_
    rintro i ⟨hi, hz⟩
    simp -implicitDefEqProofs only [go_sem]
    refine BrA_i (fun h => ?_) (fun h => ?_)
    · have h : i < xs.length := by simp at h; omega
      have hw1 : IntKind.i64.wrap ((i : Int) + 1) = ((i + 1 : Nat) : Int) := by rw [wrap64 (by omega) (by omega)]; omega
      have e1 := wSum_take Gr.w xs h
      have e2 := wSum_le Gr.w xs (i + 1)
      simp -implicitDefEqProofs only [go_sem, row_getD _ _ h, Gr.row]
      refine ⟨⟨by omega, by omega⟩, ?_⟩
      refine .one (s_szGroup xs[i] _ hz (by omega) (hsG _ (List.getElem_mem h))) p_szGroup (by simp -implicitDefEqProofs only [go_sem]) trivial ?_
      simp -implicitDefEqProofs only [go_sem]
      refine BrA_i (fun h3 => ?_) (fun h3 => ?_) <;> simp -implicitDefEqProofs only [go_sem]
      · have h3 : n - xs.length - wSum Gr.w (xs.take i) < xs[i].w := (cutM_lt _ _).1 (by simpa using h3)
        have : n < wAll Gr.w xs := by omega
        simp [cutM, this]
      · have h3 : ¬ n - xs.length - wSum Gr.w (xs.take i) < xs[i].w := fun hh => by simp [(cutM_lt _ _).2 hh] at h3
        refine .to [] (i + 1) rfl ?_ ?_ (by omega) ⟨h, by omega⟩ <;> (try simp -implicitDefEqProofs only [go_sem, LeTs_undef, LeTs_same, LeTs_nil, hw1, cutM_ge h3, e1])
        refine LeTs_cons _ _ _ _ ?_ ?_
        · congr 2; omega
        · simp -implicitDefEqProofs only [go_sem, LeTs_undef, LeTs_same, LeTs_nil]
    · simp -implicitDefEqProofs only [go_sem]
      have h : i = xs.length := by simp at h; omega
      subst h
      rw [List.take_length] at hz ⊢
      have : ¬ n < wAll Gr.w xs := by omega
      simp only [cutM, this, if_false]
      congr 2
      omega
theorem p_szStream : Plain Try.prog 38 := ⟨_, Try.func38, rfl, by decide⟩
theorem s_szStream (x : Stm) (n : Int) (h0 : 0 ≤ n) (h1 : n ≤ 1048576) (hs : x.G) : Spec Try.prog 38 [x.av, I n] (fun r => r = I (cutM n x.w)) := by
  have hk : x.w = wAll It.w x.items + wAll Gr.w x.groups := rfl
  obtain ⟨q0, q1⟩ := hs
  refine Spec.of tysOk mixed Try.func38 rfl (by decide) ?_
  simp -implicitDefEqProofs only [go_sem, Try.f38]
  refine .one (s_szItemS x.items (n) (by omega) (by omega) q0) p_szItemS (by simp -implicitDefEqProofs only [go_sem]) trivial ?_
  simp -implicitDefEqProofs only [go_sem]
  refine BrA_i (fun g0 => ?_) (fun g0 => ?_) <;> simp -implicitDefEqProofs only [go_sem]
  · have g0 := (cutM_lt _ _).1 (by simpa using g0)
    have : n < x.w := by omega
    simp [cutM, this]
  have g0 : ¬ n < ((wAll It.w x.items : Nat) : Int) := fun hh => by simp [(cutM_lt _ _).2 hh] at g0
  simp -implicitDefEqProofs only [cutM_ge g0]
  refine .one (s_szGroupS x.groups (n - ((wAll It.w x.items : Nat) : Int)) (by omega) (by omega) q1) p_szGroupS (by simp -implicitDefEqProofs only [go_sem]) trivial ?_
  simp -implicitDefEqProofs only [go_sem]
  refine BrA_i (fun g1 => ?_) (fun g1 => ?_) <;> simp -implicitDefEqProofs only [go_sem]
  · have g1 := (cutM_lt _ _).1 (by simpa using g1)
    have : n < x.w := by omega
    simp [cutM, this]
  have g1 : ¬ n - ((wAll It.w x.items : Nat) : Int) < ((wAll Gr.w x.groups : Nat) : Int) := fun hh => by simp [(cutM_lt _ _).2 hh] at g1
  simp -implicitDefEqProofs only [cutM_ge g1]
  have : ¬ n < x.w := by omega
  simp only [cutM, this, if_false]
  congr 2
  all_goals omega
end Go.Proofs.Ytofiljboaegekab.Am
namespace Go.Proofs.Ytofiljboaegekab.Am
open Go
set_option maxRecDepth 100000
set_option linter.unusedSimpArgs false
set_option linter.unusedVariables false
theorem p_toPair : Plain Try.prog 134 := ⟨_, Try.func134, rfl, by decide⟩
theorem s_toPair (x : Pr) : Spec Try.prog 134 [x.av] (fun r => r = x.av) := by
  refine Spec.of tysOk mixed Try.func134 rfl (by decide) ?_
  simp -implicitDefEqProofs only [go_sem, Try.f134]
theorem p_toPairS : Plain Try.prog 54 := ⟨_, Try.func54, rfl, by decide⟩
theorem s_toPairS (xs : List Pr) (hx : xs.length ≤ 1048576) : Spec Try.prog 54 [.t (.list false 2 (xs.map Pr.row))] (fun r => r = .own (.list true 2 (xs.map Pr.row))) := by
  refine Spec.of tysOk mixed Try.func54 rfl (by decide) ?_
  simp -implicitDefEqProofs only [go_sem, Try.f54]
  refine ⟨⟨by omega, by unfold roomy; omega⟩, ?_⟩
  refine LoopW.slots (α := Nat) (fun i => [(4, I i)]) (fun i => [(56, .rows 2 (fillR Pr.row [T.str ⟨#[]⟩, T.str ⟨#[]⟩] xs i))]) (fun i => xs.length - i) (fun i => i ≤ xs.length) 0 rfl (by simp -implicitDefEqProofs only [go_sem, fill_0]) (by omega) ?_
  intro i hi
  simp -implicitDefEqProofs only [go_sem]
  refine BrA_i (fun h => ?_) (fun h => ?_)
  · have h : i < xs.length := by simp at h; omega
    have hw1 : IntKind.i64.wrap ((i : Int) + 1) = ((i + 1 : Nat) : Int) := by rw [wrap64 (by omega) (by omega)]; omega
    simp -implicitDefEqProofs only [go_sem, row_getD _ _ h, Pr.row]
    refine ⟨⟨by omega, by omega⟩, ?_⟩
    refine .onep (s_toPair xs[i]) p_toPair (by simp -implicitDefEqProofs only [go_sem]) rfl ?_
    simp -implicitDefEqProofs only [go_sem, fill_len _ _ _ hi, fill_getD _ _ _ h]
    have e := fill_set Pr.row [T.str ⟨#[]⟩, T.str ⟨#[]⟩] xs h
    simp only [Pr.row] at e
    refine ⟨⟨by omega, by omega⟩, h, .to [] (i + 1) rfl ?_ ?_ (by omega) h⟩ <;> simp -implicitDefEqProofs only [go_sem, LeTs_undef, LeTs_same, LeTs_nil, hw1, e]
  · simp -implicitDefEqProofs only [go_sem]
    have h : i = xs.length := by simp at h; omega
    subst h
    rw [fill_all]
    try exact ⟨by decide, rfl⟩
theorem p_toId : Plain Try.prog 60 := ⟨_, Try.func60, rfl, by decide⟩
theorem s_toId (x : Idt) : Spec Try.prog 60 [x.av] (fun r => r = x.av) := by
  refine Spec.of tysOk mixed Try.func60 rfl (by decide) ?_
  simp -implicitDefEqProofs only [go_sem, Try.f60]
theorem p_toItem : Plain Try.prog 167 := ⟨_, Try.func167, rfl, by decide⟩
theorem s_toItem (x : It) (hs : x.fields.length ≤ 1048576) : Spec Try.prog 167 [x.av] (fun r => r = .agg [I x.id.t, I x.id.n, .own (.list true 2 (x.fields.map Pr.row))]) := by
  refine Spec.of tysOk mixed Try.func167 rfl (by decide) ?_
  simp -implicitDefEqProofs only [go_sem, Try.f167]
  refine .onep (s_toId x.id) p_toId (by simp -implicitDefEqProofs only [go_sem]) rfl ?_
  simp -implicitDefEqProofs only [go_sem]
  refine .onep (s_toPairS x.fields hs) p_toPairS (by simp -implicitDefEqProofs only [go_sem]) rfl ?_
  simp -implicitDefEqProofs only [go_sem]
  try decide
theorem p_toItemS : Plain Try.prog 123 := ⟨_, Try.func123, rfl, by decide⟩
theorem s_toItemS (xs : List It) (hx : xs.length ≤ 1048576) (hs : ∀ x ∈ xs, x.fields.length ≤ 1048576) : Spec Try.prog 123 [.t (.list false 3 (xs.map It.row))] (fun r => r = .own (.list true 3 (xs.map It.rowO))) := by
  refine Spec.of tysOk mixed Try.func123 rfl (by decide) ?_
  simp -implicitDefEqProofs only [go_sem, Try.f123]
  refine ⟨⟨by omega, by unfold roomy; omega⟩, ?_⟩
  refine LoopW.slots (α := Nat) (fun i => [(4, I i)]) (fun i => [(56, .rows 3 (fillR It.rowO [T.int .i64 0, T.int .i64 0, T.list true 2 []] xs i))]) (fun i => xs.length - i) (fun i => i ≤ xs.length) 0 rfl (by simp -implicitDefEqProofs only [go_sem, fill_0]) (by omega) ?_
  intro i hi
  simp -implicitDefEqProofs only [go_sem]
  refine BrA_i (fun h => ?_) (fun h => ?_)
  · have h : i < xs.length := by simp at h; omega
    have hw1 : IntKind.i64.wrap ((i : Int) + 1) = ((i + 1 : Nat) : Int) := by rw [wrap64 (by omega) (by omega)]; omega
    simp -implicitDefEqProofs only [go_sem, row_getD _ _ h, It.row]
    refine ⟨⟨by omega, by omega⟩, ?_⟩
    refine .onep (s_toItem xs[i] (hs _ (List.getElem_mem _))) p_toItem (by simp -implicitDefEqProofs only [go_sem]) rfl ?_
    simp -implicitDefEqProofs only [go_sem, fill_len _ _ _ hi, fill_getD _ _ _ h]
    have e := fill_set It.rowO [T.int .i64 0, T.int .i64 0, T.list true 2 []] xs h
    simp only [It.rowO] at e
    refine ⟨⟨by omega, by omega⟩, h, .to [] (i + 1) rfl ?_ ?_ (by omega) h⟩ <;> simp -implicitDefEqProofs only [go_sem, LeTs_undef, LeTs_same, LeTs_nil, hw1, e]
  · simp -implicitDefEqProofs only [go_sem]
    have h : i = xs.length := by simp at h; omega
    subst h
    rw [fill_all]
    try exact ⟨by decide, rfl⟩
theorem p_toWait : Plain Try.prog 214 := ⟨_, Try.func214, rfl, by decide⟩
theorem s_toWait (x : Wt) : Spec Try.prog 214 [x.av] (fun r => r = x.av) := by
  refine Spec.of tysOk mixed Try.func214 rfl (by decide) ?_
  simp -implicitDefEqProofs only [go_sem, Try.f214]
  refine .onep (s_toId x.id) p_toId (by simp -implicitDefEqProofs only [go_sem]) rfl ?_
  simp -implicitDefEqProofs only [go_sem]
  try decide
theorem p_toWaitS : Plain Try.prog 195 := ⟨_, Try.func195, rfl, by decide⟩
theorem s_toWaitS (xs : List Wt) (hx : xs.length ≤ 1048576) : Spec Try.prog 195 [.t (.list false 5 (xs.map Wt.row))] (fun r => r = .own (.list true 5 (xs.map Wt.row))) := by
  refine Spec.of tysOk mixed Try.func195 rfl (by decide) ?_
  simp -implicitDefEqProofs only [go_sem, Try.f195]
  refine ⟨⟨by omega, by unfold roomy; omega⟩, ?_⟩
  refine LoopW.slots (α := Nat) (fun i => [(4, I i)]) (fun i => [(56, .rows 5 (fillR Wt.row [T.int .i64 0, T.int .i64 0, T.str ⟨#[]⟩, T.int .i64 0, T.int .i64 0] xs i))]) (fun i => xs.length - i) (fun i => i ≤ xs.length) 0 rfl (by simp -implicitDefEqProofs only [go_sem, fill_0]) (by omega) ?_
  intro i hi
  simp -implicitDefEqProofs only [go_sem]
  refine BrA_i (fun h => ?_) (fun h => ?_)
  · have h : i < xs.length := by simp at h; omega
    have hw1 : IntKind.i64.wrap ((i : Int) + 1) = ((i + 1 : Nat) : Int) := by rw [wrap64 (by omega) (by omega)]; omega
    simp -implicitDefEqProofs only [go_sem, row_getD _ _ h, Wt.row]
    refine ⟨⟨by omega, by omega⟩, ?_⟩
    refine .onep (s_toWait xs[i]) p_toWait (by simp -implicitDefEqProofs only [go_sem]) rfl ?_
    simp -implicitDefEqProofs only [go_sem, fill_len _ _ _ hi, fill_getD _ _ _ h]
    have e := fill_set Wt.row [T.int .i64 0, T.int .i64 0, T.str ⟨#[]⟩, T.int .i64 0, T.int .i64 0] xs h
    simp only [Wt.row] at e
    refine ⟨⟨by omega, by omega⟩, h, .to [] (i + 1) rfl ?_ ?_ (by omega) h⟩ <;> simp -implicitDefEqProofs only [go_sem, LeTs_undef, LeTs_same, LeTs_nil, hw1, e]
  · simp -implicitDefEqProofs only [go_sem]
    have h : i = xs.length := by simp at h; omega
    subst h
    rw [fill_all]
    try exact ⟨by decide, rfl⟩
theorem p_toGroup : Plain Try.prog 168 := ⟨_, Try.func168, rfl, by decide⟩
theorem s_toGroup (x : Gr) (hs : x.waits.length ≤ 1048576) : Spec Try.prog 168 [x.av] (fun r => r = .agg [.t (.str x.name), I x.last.t, I x.last.n, .own (.list true 5 (x.waits.map Wt.row))]) := by
  refine Spec.of tysOk mixed Try.func168 rfl (by decide) ?_
  simp -implicitDefEqProofs only [go_sem, Try.f168]
  refine .onep (s_toId x.last) p_toId (by simp -implicitDefEqProofs only [go_sem]) rfl ?_
  simp -implicitDefEqProofs only [go_sem]
  refine .onep (s_toWaitS x.waits hs) p_toWaitS (by simp -implicitDefEqProofs only [go_sem]) rfl ?_
  simp -implicitDefEqProofs only [go_sem]
  try decide
theorem p_toGroupS : Plain Try.prog 124 := ⟨_, Try.func124, rfl, by decide⟩
theorem s_toGroupS (xs : List Gr) (hx : xs.length ≤ 1048576) (hs : ∀ x ∈ xs, x.waits.length ≤ 1048576) : Spec Try.prog 124 [.t (.list false 4 (xs.map Gr.row))] (fun r => r = .own (.list true 4 (xs.map Gr.rowO))) := by
  refine Spec.of tysOk mixed Try.func124 rfl (by decide) ?_
  simp -implicitDefEqProofs only [go_sem, Try.f124]
  refine ⟨⟨by omega, by unfold roomy; omega⟩, ?_⟩
  refine LoopW.slots (α := Nat) (fun i => [(4, I i)]) (fun i => [(56, .rows 4 (fillR Gr.rowO [T.str ⟨#[]⟩, T.int .i64 0, T.int .i64 0, T.list true 5 []] xs i))]) (fun i => xs.length - i) (fun i => i ≤ xs.length) 0 rfl (by simp -implicitDefEqProofs only [go_sem, fill_0]) (by omega) ?_
  intro i hi
  simp -implicitDefEqProofs only [go_sem]
  refine BrA_i (fun h => ?_) (fun h => ?_)
  · have h : i < xs.length := by simp at h; omega
    have hw1 : IntKind.i64.wrap ((i : Int) + 1) = ((i + 1 : Nat) : Int) := by rw [wrap64 (by omega) (by omega)]; omega
    simp -implicitDefEqProofs only [go_sem, row_getD _ _ h, Gr.row]
    refine ⟨⟨by omega, by omega⟩, ?_⟩
    refine .onep (s_toGroup xs[i] (hs _ (List.getElem_mem _))) p_toGroup (by simp -implicitDefEqProofs only [go_sem]) rfl ?_
    simp -implicitDefEqProofs only [go_sem, fill_len _ _ _ hi, fill_getD _ _ _ h]
    have e := fill_set Gr.rowO [T.str ⟨#[]⟩, T.int .i64 0, T.int .i64 0, T.list true 5 []] xs h
    simp only [Gr.rowO] at e
    refine ⟨⟨by omega, by omega⟩, h, .to [] (i + 1) rfl ?_ ?_ (by omega) h⟩ <;> simp -implicitDefEqProofs only [go_sem, LeTs_undef, LeTs_same, LeTs_nil, hw1, e]
  · simp -implicitDefEqProofs only [go_sem]
    have h : i = xs.length := by simp at h; omega
    subst h
    rw [fill_all]
    try exact ⟨by decide, rfl⟩
theorem p_toStream : Plain Try.prog 40 := ⟨_, Try.func40, rfl, by decide⟩
theorem s_toStream (x : Stm) (h1 : x.items.length ≤ 1048576) (h2 : ∀ y ∈ x.items, y.fields.length ≤ 1048576) (h3 : x.groups.length ≤ 1048576) (h4 : ∀ y ∈ x.groups, y.waits.length ≤ 1048576) : Spec Try.prog 40 [x.av] (fun r => r = .agg [I x.last.t, I x.last.n, .own (.list true 3 (x.items.map It.rowO)), .own (.list true 4 (x.groups.map Gr.rowO))]) := by
  refine Spec.of tysOk mixed Try.func40 rfl (by decide) ?_
  simp -implicitDefEqProofs only [go_sem, Try.f40]
  refine .onep (s_toId x.last) p_toId (by simp -implicitDefEqProofs only [go_sem]) rfl ?_
  simp -implicitDefEqProofs only [go_sem]
  refine .onep (s_toItemS x.items h1 h2) p_toItemS (by simp -implicitDefEqProofs only [go_sem]) rfl ?_
  simp -implicitDefEqProofs only [go_sem]
  refine .onep (s_toGroupS x.groups h3 h4) p_toGroupS (by simp -implicitDefEqProofs only [go_sem]) rfl ?_
  simp -implicitDefEqProofs only [go_sem]
  try decide
end Go.Proofs.Ytofiljboaegekab.Am
namespace Go.Proofs.Ytofiljboaegekab.Am
open Go
set_option maxRecDepth 100000
set_option linter.unusedSimpArgs false
set_option linter.unusedVariables false
theorem p_eqPair : Plain Try.prog 136 := ⟨_, Try.func136, rfl, by decide⟩
theorem s_eqPair (x y : Pr) : Spec Try.prog 136 [x.av, y.av] (fun r => r = Bo (decide (x = y))) := by
  have ext := Pr.ext_iff (x := x) (y := y)
  refine Spec.of tysOk mixed Try.func136 rfl (by decide) ?_
  simp -implicitDefEqProofs only [go_sem, Try.f136]
  refine BrA_i (fun h0 => ?_) (fun h0 => ?_) <;> simp -implicitDefEqProofs only [go_sem]
  · skip
    refine BrA_i (fun h1 => ?_) (fun h1 => ?_) <;> simp -implicitDefEqProofs only [go_sem]
    · simp only [decide_eq_true_eq] at h0 h1; simp [ext, *]
    · simp only [decide_eq_false_iff_not] at h1; simp [ext, h1]
  · simp only [decide_eq_false_iff_not] at h0; simp [ext, h0]
theorem p_eqPairS : Plain Try.prog 57 := ⟨_, Try.func57, rfl, by decide⟩
theorem s_eqPairS (xs ys : List Pr) (hx : xs.length < 4611686018427387904) : Spec Try.prog 57 [.t (.list false 2 (xs.map Pr.row)), .t (.list false 2 (ys.map Pr.row))] (fun r => r = Bo (decide (xs = ys))) := by
  refine Spec.of tysOk mixed Try.func57 rfl (by decide) ?_
  simp -implicitDefEqProofs only [go_sem, Try.f57]
  refine BrA_i (fun h => ?_) (fun h => ?_) <;> simp -implicitDefEqProofs only [go_sem]
  · have hl : xs.length = ys.length := by simp at h; omega
    refine LoopW.slots (α := Nat) (fun i => [(5, I i)]) (fun _ => []) (fun i => xs.length - i) (fun i => i ≤ xs.length ∧ ∀ j (h : j < xs.length), j < i → xs[j] = ys[j]) 0 rfl rfl (by simp) ?_
    rintro i ⟨hi, hz⟩
    simp -implicitDefEqProofs only [go_sem]
    refine BrA_i (fun h => ?_) (fun h => ?_)
    · have h : i < xs.length := by simp at h; omega
      have h' : i < ys.length := by omega
      have hw1 : IntKind.i64.wrap ((i : Int) + 1) = ((i + 1 : Nat) : Int) := by rw [wrap64 (by omega) (by omega)]; omega
      simp -implicitDefEqProofs only [go_sem]
      refine RegD_of sch_57_6 tysOk (by kernel_rfl) ?_
      simp -implicitDefEqProofs only [go_sem, row_getD _ _ h, row_getD _ _ h', Pr.row]
      refine ⟨⟨by omega, by omega⟩, ⟨by omega, by omega⟩, ?_⟩
      refine .one (s_eqPair xs[i] ys[i]) p_eqPair (by simp -implicitDefEqProofs only [go_sem]) trivial ?_
      simp -implicitDefEqProofs only [go_sem]
      refine BrA_i (fun h1 => ?_) (fun h1 => ?_) <;> simp -implicitDefEqProofs only [go_sem]
      · refine .to [] (i + 1) rfl ?_ ?_ (by omega) ⟨h, fun j hj hl => ?_⟩ <;> (try simp -implicitDefEqProofs only [go_sem, LeTs_undef, LeTs_same, LeTs_nil, hw1])
        rcases Nat.lt_succ_iff_lt_or_eq.1 hl with hl | rfl
        · exact hz j hj hl
        · simpa using h1
      · have : xs ≠ ys := fun e => by subst e; simp at h1
        simp [this]
    · simp -implicitDefEqProofs only [go_sem]
      have : xs = ys := List.ext_getElem hl fun j h1 h2 => hz j h1 (by simp at h; omega)
      simp [this]
  · have : xs ≠ ys := fun e => by subst e; simp at h
    simp [this]
theorem p_eqId : Plain Try.prog 56 := ⟨_, Try.func56, rfl, by decide⟩
theorem s_eqId (x y : Idt) : Spec Try.prog 56 [x.av, y.av] (fun r => r = Bo (decide (x = y))) := by
  have ext := Idt.ext_iff (x := x) (y := y)
  refine Spec.of tysOk mixed Try.func56 rfl (by decide) ?_
  simp -implicitDefEqProofs only [go_sem, Try.f56]
  refine BrA_i (fun h0 => ?_) (fun h0 => ?_) <;> simp -implicitDefEqProofs only [go_sem]
  · skip
    refine BrA_i (fun h1 => ?_) (fun h1 => ?_) <;> simp -implicitDefEqProofs only [go_sem]
    · simp only [decide_eq_true_eq] at h0 h1; simp [ext, *]
    · simp only [decide_eq_false_iff_not] at h1; simp [ext, h1]
  · simp only [decide_eq_false_iff_not] at h0; simp [ext, h0]
theorem p_eqItem : Plain Try.prog 139 := ⟨_, Try.func139, rfl, by decide⟩
theorem s_eqItem (x y : It) (hs : x.sm) : Spec Try.prog 139 [x.av, y.av] (fun r => r = Bo (decide (x = y))) := by
  have ext := It.ext_iff (x := x) (y := y)
  refine Spec.of tysOk mixed Try.func139 rfl (by decide) ?_
  simp -implicitDefEqProofs only [go_sem, Try.f139]
  refine .one (s_eqId x.id y.id) p_eqId (by simp -implicitDefEqProofs only [go_sem]) trivial ?_
  simp -implicitDefEqProofs only [go_sem]
  refine BrA_i (fun h0 => ?_) (fun h0 => ?_) <;> simp -implicitDefEqProofs only [go_sem]
  · skip
    refine .one (s_eqPairS x.fields y.fields hs) p_eqPairS (by simp -implicitDefEqProofs only [go_sem]) trivial ?_
    simp -implicitDefEqProofs only [go_sem]
    refine BrA_i (fun h1 => ?_) (fun h1 => ?_) <;> simp -implicitDefEqProofs only [go_sem]
    · simp only [decide_eq_true_eq] at h0 h1; simp [ext, *]
    · simp only [decide_eq_false_iff_not] at h1; simp [ext, h1]
  · simp only [decide_eq_false_iff_not] at h0; simp [ext, h0]
theorem p_eqItemS : Plain Try.prog 64 := ⟨_, Try.func64, rfl, by decide⟩
theorem s_eqItemS (xs ys : List It) (hx : xs.length < 4611686018427387904) (hs : ∀ x ∈ xs, x.sm) : Spec Try.prog 64 [.t (.list false 3 (xs.map It.row)), .t (.list false 3 (ys.map It.row))] (fun r => r = Bo (decide (xs = ys))) := by
  refine Spec.of tysOk mixed Try.func64 rfl (by decide) ?_
  simp -implicitDefEqProofs only [go_sem, Try.f64]
  refine BrA_i (fun h => ?_) (fun h => ?_) <;> simp -implicitDefEqProofs only [go_sem]
  · have hl : xs.length = ys.length := by simp at h; omega
    refine LoopW.slots (α := Nat) (fun i => [(5, I i)]) (fun _ => []) (fun i => xs.length - i) (fun i => i ≤ xs.length ∧ ∀ j (h : j < xs.length), j < i → xs[j] = ys[j]) 0 rfl rfl (by simp) ?_
    rintro i ⟨hi, hz⟩
    simp -implicitDefEqProofs only [go_sem]
    refine BrA_i (fun h => ?_) (fun h => ?_)
    · have h : i < xs.length := by simp at h; omega
      have h' : i < ys.length := by omega
      have hw1 : IntKind.i64.wrap ((i : Int) + 1) = ((i + 1 : Nat) : Int) := by rw [wrap64 (by omega) (by omega)]; omega
      simp -implicitDefEqProofs only [go_sem]
      refine RegD_of sch_64_6 tysOk (by kernel_rfl) ?_
      simp -implicitDefEqProofs only [go_sem, row_getD _ _ h, row_getD _ _ h', It.row]
      refine ⟨⟨by omega, by omega⟩, ⟨by omega, by omega⟩, ?_⟩
      refine .one (s_eqItem xs[i] ys[i] (hs _ (List.getElem_mem _))) p_eqItem (by simp -implicitDefEqProofs only [go_sem]) trivial ?_
      simp -implicitDefEqProofs only [go_sem]
      refine BrA_i (fun h1 => ?_) (fun h1 => ?_) <;> simp -implicitDefEqProofs only [go_sem]
      · refine .to [] (i + 1) rfl ?_ ?_ (by omega) ⟨h, fun j hj hl => ?_⟩ <;> (try simp -implicitDefEqProofs only [go_sem, LeTs_undef, LeTs_same, LeTs_nil, hw1])
        rcases Nat.lt_succ_iff_lt_or_eq.1 hl with hl | rfl
        · exact hz j hj hl
        · simpa using h1
      · have : xs ≠ ys := fun e => by subst e; simp at h1
        simp [this]
    · simp -implicitDefEqProofs only [go_sem]
      have : xs = ys := List.ext_getElem hl fun j h1 h2 => hz j h1 (by simp at h; omega)
      simp [this]
  · have : xs ≠ ys := fun e => by subst e; simp at h
    simp [this]
theorem p_eqWait : Plain Try.prog 215 := ⟨_, Try.func215, rfl, by decide⟩
theorem s_eqWait (x y : Wt) : Spec Try.prog 215 [x.av, y.av] (fun r => r = Bo (decide (x = y))) := by
  have ext := Wt.ext_iff (x := x) (y := y)
  refine Spec.of tysOk mixed Try.func215 rfl (by decide) ?_
  simp -implicitDefEqProofs only [go_sem, Try.f215]
  refine .one (s_eqId x.id y.id) p_eqId (by simp -implicitDefEqProofs only [go_sem]) trivial ?_
  simp -implicitDefEqProofs only [go_sem]
  refine BrA_i (fun h0 => ?_) (fun h0 => ?_) <;> simp -implicitDefEqProofs only [go_sem]
  · skip
    refine BrA_i (fun h1 => ?_) (fun h1 => ?_) <;> simp -implicitDefEqProofs only [go_sem]
    · skip
      refine BrA_i (fun h2 => ?_) (fun h2 => ?_) <;> simp -implicitDefEqProofs only [go_sem]
      · skip
        refine BrA_i (fun h3 => ?_) (fun h3 => ?_) <;> simp -implicitDefEqProofs only [go_sem]
        · simp only [decide_eq_true_eq] at h0 h1 h2 h3; simp [ext, *]
        · simp only [decide_eq_false_iff_not] at h3; simp [ext, h3]
      · simp only [decide_eq_false_iff_not] at h2; simp [ext, h2]
    · simp only [decide_eq_false_iff_not] at h1; simp [ext, h1]
  · simp only [decide_eq_false_iff_not] at h0; simp [ext, h0]
theorem p_eqWaitS : Plain Try.prog 196 := ⟨_, Try.func196, rfl, by decide⟩
theorem s_eqWaitS (xs ys : List Wt) (hx : xs.length < 4611686018427387904) : Spec Try.prog 196 [.t (.list false 5 (xs.map Wt.row)), .t (.list false 5 (ys.map Wt.row))] (fun r => r = Bo (decide (xs = ys))) := by
  refine Spec.of tysOk mixed Try.func196 rfl (by decide) ?_
  simp -implicitDefEqProofs only [go_sem, Try.f196]
  refine BrA_i (fun h => ?_) (fun h => ?_) <;> simp -implicitDefEqProofs only [go_sem]
  · have hl : xs.length = ys.length := by simp at h; omega
    refine LoopW.slots (α := Nat) (fun i => [(5, I i)]) (fun _ => []) (fun i => xs.length - i) (fun i => i ≤ xs.length ∧ ∀ j (h : j < xs.length), j < i → xs[j] = ys[j]) 0 rfl rfl (by simp) ?_
    rintro i ⟨hi, hz⟩
    simp -implicitDefEqProofs only [go_sem]
    refine BrA_i (fun h => ?_) (fun h => ?_)
    · have h : i < xs.length := by simp at h; omega
      have h' : i < ys.length := by omega
      have hw1 : IntKind.i64.wrap ((i : Int) + 1) = ((i + 1 : Nat) : Int) := by rw [wrap64 (by omega) (by omega)]; omega
      simp -implicitDefEqProofs only [go_sem]
      refine RegD_of sch_196_6 tysOk (by kernel_rfl) ?_
      simp -implicitDefEqProofs only [go_sem, row_getD _ _ h, row_getD _ _ h', Wt.row]
      refine ⟨⟨by omega, by omega⟩, ⟨by omega, by omega⟩, ?_⟩
      refine .one (s_eqWait xs[i] ys[i]) p_eqWait (by simp -implicitDefEqProofs only [go_sem]) trivial ?_
      simp -implicitDefEqProofs only [go_sem]
      refine BrA_i (fun h1 => ?_) (fun h1 => ?_) <;> simp -implicitDefEqProofs only [go_sem]
      · refine .to [] (i + 1) rfl ?_ ?_ (by omega) ⟨h, fun j hj hl => ?_⟩ <;> (try simp -implicitDefEqProofs only [go_sem, LeTs_undef, LeTs_same, LeTs_nil, hw1])
        rcases Nat.lt_succ_iff_lt_or_eq.1 hl with hl | rfl
        · exact hz j hj hl
        · simpa using h1
      · have : xs ≠ ys := fun e => by subst e; simp at h1
        simp [this]
    · simp -implicitDefEqProofs only [go_sem]
      have : xs = ys := List.ext_getElem hl fun j h1 h2 => hz j h1 (by simp at h; omega)
      simp [this]
  · have : xs ≠ ys := fun e => by subst e; simp at h
    simp [this]
theorem p_eqGroup : Plain Try.prog 169 := ⟨_, Try.func169, rfl, by decide⟩
theorem s_eqGroup (x y : Gr) (hs : x.sm) : Spec Try.prog 169 [x.av, y.av] (fun r => r = Bo (decide (x = y))) := by
  have ext := Gr.ext_iff (x := x) (y := y)
  refine Spec.of tysOk mixed Try.func169 rfl (by decide) ?_
  simp -implicitDefEqProofs only [go_sem, Try.f169]
  refine BrA_i (fun h0 => ?_) (fun h0 => ?_) <;> simp -implicitDefEqProofs only [go_sem]
  · skip
    refine .one (s_eqId x.last y.last) p_eqId (by simp -implicitDefEqProofs only [go_sem]) trivial ?_
    simp -implicitDefEqProofs only [go_sem]
    refine BrA_i (fun h1 => ?_) (fun h1 => ?_) <;> simp -implicitDefEqProofs only [go_sem]
    · skip
      refine .one (s_eqWaitS x.waits y.waits hs) p_eqWaitS (by simp -implicitDefEqProofs only [go_sem]) trivial ?_
      simp -implicitDefEqProofs only [go_sem]
      refine BrA_i (fun h2 => ?_) (fun h2 => ?_) <;> simp -implicitDefEqProofs only [go_sem]
      · simp only [decide_eq_true_eq] at h0 h1 h2; simp [ext, *]
      · simp only [decide_eq_false_iff_not] at h2; simp [ext, h2]
    · simp only [decide_eq_false_iff_not] at h1; simp [ext, h1]
  · simp only [decide_eq_false_iff_not] at h0; simp [ext, h0]
theorem p_eqGroupS : Plain Try.prog 125 := ⟨_, Try.func125, rfl, by decide⟩
theorem s_eqGroupS (xs ys : List Gr) (hx : xs.length < 4611686018427387904) (hs : ∀ x ∈ xs, x.sm) : Spec Try.prog 125 [.t (.list false 4 (xs.map Gr.row)), .t (.list false 4 (ys.map Gr.row))] (fun r => r = Bo (decide (xs = ys))) := by
  refine Spec.of tysOk mixed Try.func125 rfl (by decide) ?_
  simp -implicitDefEqProofs only [go_sem, Try.f125]
  refine BrA_i (fun h => ?_) (fun h => ?_) <;> simp -implicitDefEqProofs only [go_sem]
  · have hl : xs.length = ys.length := by simp at h; omega
    refine LoopW.slots (α := Nat) (fun i => [(5, I i)]) (fun _ => []) (fun i => xs.length - i) (fun i => i ≤ xs.length ∧ ∀ j (h : j < xs.length), j < i → xs[j] = ys[j]) 0 rfl rfl (by simp) ?_
    rintro i ⟨hi, hz⟩
    simp -implicitDefEqProofs only [go_sem]
    refine BrA_i (fun h => ?_) (fun h => ?_)
    · have h : i < xs.length := by simp at h; omega
      have h' : i < ys.length := by omega
      have hw1 : IntKind.i64.wrap ((i : Int) + 1) = ((i + 1 : Nat) : Int) := by rw [wrap64 (by omega) (by omega)]; omega
      simp -implicitDefEqProofs only [go_sem]
      refine RegD_of sch_125_6 tysOk (by kernel_rfl) ?_
      simp -implicitDefEqProofs only [go_sem, row_getD _ _ h, row_getD _ _ h', Gr.row]
      refine ⟨⟨by omega, by omega⟩, ⟨by omega, by omega⟩, ?_⟩
      refine .one (s_eqGroup xs[i] ys[i] (hs _ (List.getElem_mem _))) p_eqGroup (by simp -implicitDefEqProofs only [go_sem]) trivial ?_
      simp -implicitDefEqProofs only [go_sem]
      refine BrA_i (fun h1 => ?_) (fun h1 => ?_) <;> simp -implicitDefEqProofs only [go_sem]
      · refine .to [] (i + 1) rfl ?_ ?_ (by omega) ⟨h, fun j hj hl => ?_⟩ <;> (try simp -implicitDefEqProofs only [go_sem, LeTs_undef, LeTs_same, LeTs_nil, hw1])
        rcases Nat.lt_succ_iff_lt_or_eq.1 hl with hl | rfl
        · exact hz j hj hl
        · simpa using h1
      · have : xs ≠ ys := fun e => by subst e; simp at h1
        simp [this]
    · simp -implicitDefEqProofs only [go_sem]
      have : xs = ys := List.ext_getElem hl fun j h1 h2 => hz j h1 (by simp at h; omega)
      simp [this]
  · have : xs ≠ ys := fun e => by subst e; simp at h
    simp [this]
theorem p_eqStream : Plain Try.prog 42 := ⟨_, Try.func42, rfl, by decide⟩
theorem s_eqStream (x y : Stm) (hs : x.sm) : Spec Try.prog 42 [x.av, y.av] (fun r => r = Bo (decide (x = y))) := by
  have ext := Stm.ext_iff (x := x) (y := y)
  refine Spec.of tysOk mixed Try.func42 rfl (by decide) ?_
  simp -implicitDefEqProofs only [go_sem, Try.f42]
  refine .one (s_eqId x.last y.last) p_eqId (by simp -implicitDefEqProofs only [go_sem]) trivial ?_
  simp -implicitDefEqProofs only [go_sem]
  refine BrA_i (fun h0 => ?_) (fun h0 => ?_) <;> simp -implicitDefEqProofs only [go_sem]
  · skip
    refine .one (s_eqItemS x.items y.items hs.1 hs.2.2.1) p_eqItemS (by simp -implicitDefEqProofs only [go_sem]) trivial ?_
    simp -implicitDefEqProofs only [go_sem]
    refine BrA_i (fun h1 => ?_) (fun h1 => ?_) <;> simp -implicitDefEqProofs only [go_sem]
    · skip
      refine .one (s_eqGroupS x.groups y.groups hs.2.1 hs.2.2.2) p_eqGroupS (by simp -implicitDefEqProofs only [go_sem]) trivial ?_
      simp -implicitDefEqProofs only [go_sem]
      refine BrA_i (fun h2 => ?_) (fun h2 => ?_) <;> simp -implicitDefEqProofs only [go_sem]
      · simp only [decide_eq_true_eq] at h0 h1 h2; simp [ext, *]
      · simp only [decide_eq_false_iff_not] at h2; simp [ext, h2]
    · simp only [decide_eq_false_iff_not] at h1; simp [ext, h1]
  · simp only [decide_eq_false_iff_not] at h0; simp [ext, h0]
end Go.Proofs.Ytofiljboaegekab.Am
namespace Go.Proofs.Ytofiljboaegekab.Am
open Go
set_option maxRecDepth 100000
set_option linter.unusedSimpArgs false
set_option linter.unusedVariables false
def Stm.mw (s : Stm) : Nat := wSum It.mw s.items + wSum Gr.mw s.groups
def Stm.m (s : Stm) (k : Int) : Stm := ⟨s.last, mkAll It.m It.mw s.items k, mkAll Gr.m Gr.mw s.groups (k + (wSum It.mw s.items : Nat))⟩
theorem Stm.m_last (s : Stm) (k : Int) : (s.m k).last = s.last := rfl
attribute [go_sem] Stm.m_last
theorem wSum_map_le {α : Type} (f g : α → Nat) (a b : Nat) (xs : List α) (h : ∀ x ∈ xs, f x ≤ a + b * g x) : wSum f xs ≤ a * xs.length + b * wSum g xs := by
  induction xs with
  | nil => simp [wSum]
  | cons x xs ih =>
    have h1 := h x (by simp)
    have h2 := ih (fun y hy => h y (by simp [hy]))
    simp only [wSum_cons, List.length_cons, Nat.mul_add, Nat.mul_one]
    omega
theorem Stm.mw_le (s : Stm) : s.mw ≤ 5 * s.w := by
  have h1 : wSum It.mw s.items ≤ 2 * s.items.length + 2 * wSum It.w s.items := wSum_map_le _ _ _ _ _ fun x _ => by
    have := wSum_map_le Pr.mw Pr.w 2 0 x.fields (fun x _ => by unfold Pr.mw; omega)
    simp only [It.mw, It.w, wAll]; omega
  have h2 : wSum Gr.mw s.groups ≤ 3 * s.groups.length + 5 * wSum Gr.w s.groups := wSum_map_le _ _ _ _ _ fun x _ => by
    have := wSum_map_le Wt.mw Wt.w 5 0 x.waits (fun x _ => by unfold Wt.mw; omega)
    simp only [Gr.mw, Gr.w, wAll]; omega
  simp only [Stm.mw, Stm.w, wAll]
  omega
theorem Stm.md_w {s : Stm} (h : s.w ≤ 1048576) : s.md := by
  simp only [Stm.w, wAll] at h
  refine ⟨by omega, by omega, fun i hi => ?_, fun g hg => ?_⟩
  · have := wSum_mem It.w hi
    simp only [It.w, wAll] at this; omega
  · have := wSum_mem Gr.w hg
    simp only [Gr.w, wAll] at this; omega
theorem p_markStream : Plain Try.prog 43 := ⟨_, Try.func43, rfl, by decide⟩
theorem s_markStream (s : Stm) (k : Int) (hk : 0 ≤ k) (hb : k + (s.mw : Nat) < 10000000000000000) : SpecO Try.prog 43 [.agg [I s.last.t, I s.last.n, .refw 9000, .refw 9001], I k] [(9000, .rows 3 (s.items.map It.rowO)), (9001, .rows 4 (s.groups.map Gr.rowO))]
    (fun r h => r = I (k + (s.mw : Nat)) ∧ h = [(9000, .rows 3 ((s.m k).items.map It.rowO)), (9001, .rows 4 ((s.m k).groups.map Gr.rowO))]) := by
  have hk1 : s.mw = wSum It.mw s.items + wSum Gr.mw s.groups := rfl
  have l1 := wSum_len (w := It.mw) (fun _ => by unfold It.mw; omega) s.items
  have l2 := wSum_len (w := Gr.mw) (fun _ => by unfold Gr.mw; omega) s.groups
  refine SpecO.of tysOk mixed Try.func43 rfl (by decide) ?_
  simp -implicitDefEqProofs only [go_sem, Try.f43]
  refine CallW.o [(9000, 9000)] (s_markItemS s.items k hk (by omega) (by omega)) p_markItemS o65 rfl (by conv => lhs; simp -implicitDefEqProofs only [go_sem]) (by simp -implicitDefEqProofs only [go_sem]) ?_
  rintro _ _ ⟨rfl, rfl⟩
  simp -implicitDefEqProofs only [go_sem]
  refine CallW.o [(9000, 9001)] (s_markGroupS s.groups (k + (wSum It.mw s.items : Nat)) (by omega) (by omega) (by omega)) p_markGroupS o126 rfl (by conv => lhs; simp -implicitDefEqProofs only [go_sem]) (by simp -implicitDefEqProofs only [go_sem]) ?_
  rintro _ _ ⟨rfl, rfl⟩
  simp -implicitDefEqProofs only [go_sem, mkAll_len]
  refine ⟨?_, rfl⟩
  rw [hk1]; congr 2; omega
theorem It.mk_rowsO (l : List It) : (l.map It.rowO).map (List.map (T.mk false)) = l.map It.row := by
  rw [List.map_map]; exact List.map_congr_left fun x _ => by simp only [Function.comp, It.rowO, It.row, List.map_cons, List.map_nil, T.mk_list, T.mk_int, Pr.mk_rows]
theorem Gr.mk_rowsO (l : List Gr) : (l.map Gr.rowO).map (List.map (T.mk false)) = l.map Gr.row := by
  rw [List.map_map]; exact List.map_congr_left fun x _ => by simp only [Function.comp, Gr.rowO, Gr.row, List.map_cons, List.map_nil, T.mk_list, T.mk_int, T.mk_str, Wt.mk_rows]
attribute [go_sem] It.mk_rowsO Gr.mk_rowsO
theorem deep_rows {α : Type} (row : α → List T) (h : ∀ x, ∀ t ∈ row x, Deep t) (n : Nat) (l : List α) : Deep (.list true n (l.map row)) :=
  .list _ _ fun r hr x hx => by
    obtain ⟨y, _, rfl⟩ := List.mem_map.1 hr
    exact h y x hx
theorem deep_prs (l : List Pr) : Deep (.list true 2 (l.map Pr.row)) := deep_rows _ (fun x t ht => by simp only [Pr.row, List.mem_cons, List.not_mem_nil, or_false] at ht; rcases ht with rfl | rfl <;> exact .sc _ trivial) _ _
theorem deep_wts (l : List Wt) : Deep (.list true 5 (l.map Wt.row)) := deep_rows _ (fun x t ht => by simp only [Wt.row, List.mem_cons, List.not_mem_nil, or_false] at ht; rcases ht with rfl | rfl | rfl | rfl | rfl <;> exact .sc _ trivial) _ _
theorem deep_its (l : List It) : Deep (.list true 3 (l.map It.rowO)) := deep_rows _ (fun x t ht => by simp only [It.rowO, List.mem_cons, List.not_mem_nil, or_false] at ht; rcases ht with rfl | rfl | rfl <;> first | exact .sc _ trivial | exact deep_prs _) _ _
theorem deep_grs (l : List Gr) : Deep (.list true 4 (l.map Gr.rowO)) := deep_rows _ (fun x t ht => by simp only [Gr.rowO, List.mem_cons, List.not_mem_nil, or_false] at ht; rcases ht with rfl | rfl | rfl | rfl <;> first | exact .sc _ trivial | exact deep_wts _) _ _
theorem deep_avO (s : Stm) : DeepR s.avO := ⟨trivial, trivial, deep_its _, deep_grs _, trivial⟩
end Go.Proofs.Ytofiljboaegekab.Am
namespace Go.Proofs.Ytofiljboaegekab.Am
open Go
set_option maxRecDepth 100000
set_option maxHeartbeats 400000
set_option linter.unusedSimpArgs false
set_option linter.unusedVariables false
def gIx (gs : List Gr) (name : ByteArray) : Option Nat := gs.findIdx? fun g => decide (g.name = name)
theorem gIx_some {gs : List Gr} {name : ByteArray} {i : Nat} (h : i < gs.length) (hn : gs[i].name = name) (hj : ∀ j (h : j < gs.length), j < i → gs[j].name ≠ name) : gIx gs name = some i :=
  List.findIdx?_eq_some_iff_getElem.2 ⟨h, by simp [hn], fun j hji => by simpa using hj j (by omega) hji⟩
theorem gIx_none {gs : List Gr} {name : ByteArray} (hj : ∀ j (h : j < gs.length), gs[j].name ≠ name) : gIx gs name = none :=
  List.findIdx?_eq_none_iff.2 fun x hx => by
    obtain ⟨j, h, rfl⟩ := List.mem_iff_getElem.1 hx
    simpa using hj j h
theorem gIx_lt {gs : List Gr} {name : ByteArray} {i : Nat} (h : gIx gs name = some i) : i < gs.length := (List.findIdx?_eq_some_iff_getElem.1 h).1
def ixI : Option Nat → Int
  | none => -1
  | some i => i
theorem p_group : Plain Try.prog 91 := ⟨_, Try.func91, rfl, by decide⟩
theorem p_l9Of : Plain Try.prog 98 := ⟨_, Try.func98, rfl, by decide⟩
theorem s_l9Of (s : Stm) (name : ByteArray) (hs : s.groups.length ≤ 1048576) : Spec Try.prog 98 [s.av, .t (.str name)] (fun r => r = I (ixI (gIx s.groups name))) := by
  refine Spec.of tysOk mixed Try.func98 rfl (by decide) ?_
  simp -implicitDefEqProofs only [go_sem, Try.f98]
  refine LoopW.slotsM [false, true, true, false, false, true, false, false, false, false, false, false, false, false, false, false, false, false, false, false, false, false] (α := Nat) (fun i => [(5, I i)]) (fun i => []) (fun i => s.groups.length - i) (fun i => i ≤ s.groups.length ∧ ∀ j (h : j < s.groups.length), j < i → s.groups[j].name ≠ name) 0 (by simp -implicitDefEqProofs only [go_sem, LeTs_undef, LeTs_same, LeTs_nil]; try simp [LeTs]) rfl ⟨by omega, fun _ _ h => by omega⟩ ?_
  rintro i ⟨hi, hj⟩
  simp -implicitDefEqProofs only [go_sem]
  refine BrA_i (fun h => ?_) (fun h => ?_) <;> simp -implicitDefEqProofs only [go_sem]
  · skip
    have h : i < s.groups.length := by simp at h; omega
    have h0i : (0 : Int) ≤ i := by omega
    have h1i : (i : Int) < s.groups.length := by omega
    have wi : IntKind.i64.wrap ((i : Int) + 1) = ((i + 1 : Nat) : Int) := by rw [wrap64 (by omega) (by omega)]; omega
    simp -implicitDefEqProofs only [go_sem, h, h0i, h1i, row_getD _ _ h, Gr.row, wi]
    refine BrA_i (fun h2 => ?_) (fun h2 => ?_) <;> (try simp only [decide_eq_true_eq, decide_eq_false_iff_not] at h2) <;> simp -implicitDefEqProofs only [go_sem, h, h0i, h1i, wi]
    · rw [gIx_some h h2 (fun j hj2 => hj j hj2)]; rfl
    · refine .to [] (i + 1) rfl ?_ ?_ (by omega) ⟨by omega, fun j hj2 hj3 => by
        by_cases hji : j < i
        · exact hj j hj2 hji
        · obtain rfl : j = i := by omega
          exact h2⟩ <;> simp -implicitDefEqProofs only [go_sem, LeTs_undef, LeTs_same, LeTs_nil, wi]
  · have h : i = s.groups.length := by simp at h; omega
    subst h
    rw [gIx_none (fun j h => hj j h h)]
    rfl
end Go.Proofs.Ytofiljboaegekab.Am
namespace Go.Proofs.Ytofiljboaegekab.Am
open Go
set_option maxRecDepth 100000
set_option maxHeartbeats 400000
set_option linter.unusedSimpArgs false
set_option linter.unusedVariables false
def grpP : Option Nat → AV
  | none => .t .nilp
  | some i => .ptr 9001 i 0
theorem s_groupO (lt ln : Int) (rs : List (List T)) (gs : List Gr) (name : ByteArray) (hs : gs.length ≤ 1048576) : SpecO Try.prog 91 [.agg [I lt, I ln, .refw 9000, .refw 9001], .t (.str name)] [(9000, .rows 3 rs), (9001, .rows 4 (gs.map Gr.rowO))]
    (fun r h => r = grpP (gIx gs name) ∧ h = [(9000, .rows 3 rs), (9001, .rows 4 (gs.map Gr.rowO))]) := by
  refine SpecO.of tysOk mixed Try.func91 rfl (by decide) ?_
  simp -implicitDefEqProofs only [go_sem, Try.f91]
  refine LoopW.slotsM [false, true, true, false, false, false, false, false, true, true, false, false, false, false, false, false, false, false, false, false, false, false, false, false, false] (α := Nat) (fun i => [(9, I i)]) (fun i => [(9000, .rows 3 rs), (9001, .rows 4 (gs.map Gr.rowO))]) (fun i => gs.length - i) (fun i => i ≤ gs.length ∧ ∀ j (h : j < gs.length), j < i → gs[j].name ≠ name) 0 (by simp -implicitDefEqProofs only [go_sem, LeTs_undef, LeTs_same, LeTs_nil]; try simp [LeTs]) (by simp -implicitDefEqProofs only [go_sem]) ⟨by omega, fun _ _ h => by omega⟩ ?_
  rintro i ⟨hi, hj⟩
  simp -implicitDefEqProofs only [go_sem]
  refine BrA_i (fun h => ?_) (fun h => ?_) <;> simp -implicitDefEqProofs only [go_sem]
  · skip
    have h : i < gs.length := by simp at h; omega
    have h0i : (0 : Int) ≤ i := by omega
    have h1i : (i : Int) < gs.length := by omega
    have wi : IntKind.i64.wrap ((i : Int) + 1) = ((i + 1 : Nat) : Int) := by rw [wrap64 (by omega) (by omega)]; omega
    simp -implicitDefEqProofs only [go_sem, h, h0i, h1i, row_getD _ _ h, Gr.rowO, wi]
    refine BrA_i (fun h2 => ?_) (fun h2 => ?_) <;> (try simp only [decide_eq_true_eq, decide_eq_false_iff_not] at h2) <;> simp -implicitDefEqProofs only [go_sem, h, h0i, h1i, wi]
    · rw [gIx_some h h2 (fun j hj2 => hj j hj2)]; rfl
    · refine .to [] (i + 1) rfl ?_ ?_ (by omega) ⟨by omega, fun j hj2 hj3 => by
        by_cases hji : j < i
        · exact hj j hj2 hji
        · obtain rfl : j = i := by omega
          exact h2⟩ <;> simp -implicitDefEqProofs only [go_sem, LeTs_undef, LeTs_same, LeTs_nil]
  · have h : i = gs.length := by simp at h; omega
    subst h
    rw [gIx_none (fun j h => hj j h h)]
    rfl
end Go.Proofs.Ytofiljboaegekab.Am
namespace Go.Proofs.Ytofiljboaegekab.Am
open Go
set_option maxRecDepth 100000
set_option linter.unusedSimpArgs false
set_option linter.unusedVariables false
theorem Idt.mk_rows (l : List Idt) : (l.map Idt.row).map (List.map (T.mk false)) = l.map Idt.row := Am.mk_rows _ (fun _ => rfl) l
attribute [go_sem] Idt.mk_rows
def Idt.mw (x : Idt) : Nat := 2
def Idt.m (x : Idt) (k : Int) : Idt := ⟨k, k + 1⟩
end Go.Proofs.Ytofiljboaegekab.Am
namespace Go.Proofs.Ytofiljboaegekab.Am
open Go
set_option maxRecDepth 100000
set_option linter.unusedSimpArgs false
set_option linter.unusedVariables false
theorem p_heldGroupS : Plain Try.prog 127 := ⟨_, Try.func127, rfl, by decide⟩
theorem s_heldGroupS (xs : List Gr) (k : Int) (hk : 0 ≤ k) (hb : k + (wSum Gr.mw xs : Nat) < 10000000000000000) (hx : xs.length < 10000000000000000) : Spec Try.prog 127 [.t (.list false 4 ((mkAll Gr.m Gr.mw xs k).map Gr.row)), I k]
    (fun r => r = I (k + (wSum Gr.mw xs : Nat))) := by
  refine Spec.of tysOk mixed Try.func127 rfl (by decide) ?_
  simp -implicitDefEqProofs only [go_sem, Try.f127, mkAll_len]
  refine LoopW.slotsL (α := Nat) (fun i => [(5, I i), (1, I (k + (wSum Gr.mw (xs.take i) : Nat)))]) (fun i => []) (fun i => xs.length - i) (fun i => i ≤ xs.length) 0 ?_ rfl (by omega) ?_
  · simp -implicitDefEqProofs only [go_sem, LeTs_undef, LeTs_same, LeTs_nil]
    simp [LeTs, wSum]
  intro i hi
  have hw := wSum_le Gr.mw xs i
  simp -implicitDefEqProofs only [go_sem, mkAll_len]
  refine BrA_i (fun h => ?_) (fun h => ?_) <;> simp -implicitDefEqProofs only [go_sem]
  · have h : i < xs.length := by simp at h; omega
    have hw1 := wSum_take Gr.mw xs h
    have hw2 := wSum_le Gr.mw xs (i + 1)
    obtain ⟨K, hK⟩ : ∃ K : Int, K = k + (wSum Gr.mw (xs.take i) : Nat) := ⟨_, rfl⟩
    have hK1 : k + (wSum Gr.mw (xs.take (i + 1)) : Nat) = K + (Gr.mw xs[i] : Nat) := by rw [hw1, hK]; omega
    rw [← hK]
    have hmw : Gr.mw xs[i] = 3 + wSum Wt.mw xs[i].waits := rfl
    have h0i : (0 : Int) ≤ i := by omega
    have h1i : (i : Int) < xs.length := by omega
    have hn : ((mkAll Gr.m Gr.mw xs k).map Gr.row).getD i [] = [.str (mt (K)), .int .i64 (K + 1), .int .i64 (K + 2), .list false 5 ((mkAll Wt.m Wt.mw xs[i].waits (K + 3)).map Wt.row)] := by rw [mkAll_getD _ _ _ _ _ h, ← hK]; rfl
    have wi : IntKind.i64.wrap ((i : Int) + 1) = ((i + 1 : Nat) : Int) := by rw [wrap64 (by omega) (by omega)]; omega
    have w0 : IntKind.i64.wrap (K + 1) = K + 1 := by rw [wrap64 (by omega) (by omega)]
    have w1 : IntKind.i64.wrap (K + 1 + 1) = K + 2 := by rw [wrap64 (by omega) (by omega)]; omega
    have w2 : IntKind.i64.wrap (K + 2 + 1) = K + 3 := by rw [wrap64 (by omega) (by omega)]; omega
    have z3 : wSum Wt.mw xs[i].waits ≤ Gr.mw xs[i] := by rw [hmw]; omega
    simp -implicitDefEqProofs only [go_sem, mkAll_len, h0i, h1i, h, hn, wi, w0, w1, w2]
    (first | refine RegD_of sch_127_4 tysOk (by decide +kernel) ?_)
    simp -implicitDefEqProofs only [go_sem, mkAll_len, h0i, h1i, h, hn, wi, w0, w1, w2]
    refine .one (s_markText _ (by omega)) p_markText rfl trivial ?_
    simp -implicitDefEqProofs only [go_sem, mkAll_len, h0i, h1i, h, hn, wi, w0, w1, w2]
    refine .one (s_heldWaitS xs[i].waits (K + 3) (by omega) (by omega) (by have := wSum_len (w := Wt.mw) (fun _ => by unfold Wt.mw; omega) xs[i].waits; omega)) p_heldWaitS (by simp -implicitDefEqProofs only [go_sem]) trivial ?_
    simp -implicitDefEqProofs only [go_sem, mkAll_len, h0i, h1i, h, hn, wi, w0, w1, w2]
    refine BrA_i (fun h => ?_) (fun h => ?_)
    · exfalso; simp at h; omega
    simp -implicitDefEqProofs only [go_sem, mkAll_len, h0i, h1i, h, hn, wi, w0, w1, w2]
    refine .to [] (i + 1) rfl ?_ rfl (by omega) (by omega)
    · simp -implicitDefEqProofs only [go_sem, LeTs_undef, LeTs_same, LeTs_nil, hK1, hmw]
      try simp [LeTs]
      try omega
  · have h : i = xs.length := by simp at h; omega
    subst h
    simp -implicitDefEqProofs only [go_sem, List.take_length, mkAll_len]
end Go.Proofs.Ytofiljboaegekab.Am
namespace Go.Proofs.Ytofiljboaegekab.Am
open Go
set_option maxRecDepth 100000
set_option linter.unusedSimpArgs false
set_option linter.unusedVariables false
theorem p_heldStream : Plain Try.prog 44 := ⟨_, Try.func44, rfl, by decide⟩
theorem s_heldStream (s : Stm) (k : Int) (hk : 0 ≤ k) (hb : k + (s.mw : Nat) < 10000000000000000) : Spec Try.prog 44 [(s.m k).av, I k] (fun r => r = I (k + (s.mw : Nat))) := by
  have hk1 : s.mw = wSum It.mw s.items + wSum Gr.mw s.groups := rfl
  have l1 := wSum_len (w := It.mw) (fun _ => by unfold It.mw; omega) s.items
  have l2 := wSum_len (w := Gr.mw) (fun _ => by unfold Gr.mw; omega) s.groups
  refine Spec.of tysOk mixed Try.func44 rfl (by decide) ?_
  have n1 : ¬ (k + (wSum It.mw s.items : Nat) : Int) < 0 := by omega
  have n2 : ¬ (k + (wSum It.mw s.items : Nat) + (wSum Gr.mw s.groups : Nat) : Int) < 0 := by omega
  simp -implicitDefEqProofs only [go_sem, Try.f44, Stm.m]
  refine CallW.one (s_heldItemS s.items k hk (by omega) (by omega)) p_heldItemS (by first | (simp -implicitDefEqProofs only [go_sem]; done) | ((conv => lhs; simp -implicitDefEqProofs only [go_sem]); done) | (simp -implicitDefEqProofs only [go_sem]; rfl)) (by first | trivial | (simp [DeepR, DeepV, DeepVs, DeepC, DeepCs, T.scal]; done)) ?_
  simp -implicitDefEqProofs only [go_sem, n1, n2, decide_false, decide_true]
  refine CallW.one (s_heldGroupS s.groups (k + (wSum It.mw s.items : Nat)) (by omega) (by omega) (by omega)) p_heldGroupS (by first | (simp -implicitDefEqProofs only [go_sem]; done) | ((conv => lhs; simp -implicitDefEqProofs only [go_sem]); done) | (simp -implicitDefEqProofs only [go_sem]; rfl)) (by first | trivial | (simp [DeepR, DeepV, DeepVs, DeepC, DeepCs, T.scal]; done)) ?_
  simp -implicitDefEqProofs only [go_sem, n1, n2, decide_false, decide_true]
  rw [hk1]; congr 2; omega
end Go.Proofs.Ytofiljboaegekab.Am
namespace Go.Proofs.Ytofiljboaegekab.Am
open Go
set_option maxRecDepth 100000
set_option maxHeartbeats 400000
set_option linter.unusedSimpArgs false
set_option linter.unusedVariables false
def putW (s : Stm) (i : Nat) (g : Gr) : Stm := ⟨s.last, s.items, s.groups.set i g⟩
def gAt (s : Stm) (i : Nat) : Gr := s.groups.getD i ⟨.empty, ⟨0, 0⟩, []⟩
theorem gAt_eq {s : Stm} {i : Nat} (h : i < s.groups.length) : gAt s i = s.groups[i] := by
  unfold gAt
  rw [List.getD_eq_getElem?_getD, List.getElem?_eq_getElem h]; rfl
end Go.Proofs.Ytofiljboaegekab.Am
namespace Go.Proofs.Ytofiljboaegekab.Am
open Go
set_option maxRecDepth 100000
set_option maxHeartbeats 1000000
set_option linter.unusedSimpArgs false
set_option linter.unusedVariables false
theorem foldl_take {α β : Type} (f : β → α → β) (b : β) (l : List α) {i : Nat} (h : i < l.length) : (l.take (i + 1)).foldl f b = f ((l.take i).foldl f b) l[i] := by
  rw [List.take_succ_eq_append_getElem h, List.foldl_append]; rfl
abbrev takeR (x : Stm × List It) : AV := .tup [x.1.avO, .own (.list true 3 (x.2.map It.rowO))]
theorem deep_takeR (x : Stm × List It) : DeepR (takeR x) := ⟨deep_avO x.1, deep_its _, trivial⟩
end Go.Proofs.Ytofiljboaegekab.Am
namespace Go.Proofs.Ytofiljboaegekab.Am
open Go
set_option linter.unusedVariables false
set_option linter.unusedSimpArgs false
theorem ltM_iff (a b : Idt) : ltM a b = true ↔ a.t < b.t ∨ (a.t = b.t ∧ a.n < b.n) := by
  unfold ltM ordM cmpM
  rw [decide_eq_true_iff]
  by_cases h1 : a.t < b.t <;> by_cases h2 : b.t < a.t <;> by_cases h3 : a.n < b.n <;> by_cases h4 : b.n < a.n <;> simp [h1, h2, h3, h4] <;> omega
theorem ltM_trans {a b c : Idt} (h : ltM a b = true) (h' : ltM b c = true) : ltM a c = true := by
  rw [ltM_iff] at *; omega
theorem ltM_le {a b c : Idt} (h : ltM b a = false) (h' : ltM b c = true) : ltM a c = true := by
  have h2 : ¬ ltM b a = true := by simp [h]
  rw [ltM_iff] at *; omega
theorem up_lt {α : Type} (f : α → Idt) (l : List α) (h : ∀ i (hi : i + 1 < l.length), ltM (f l[i]) (f l[i + 1]) = true) : ∀ j i (hj : j < l.length) (hi : i < j), ltM (f l[i]) (f l[j]) = true := by
  intro j
  induction j with
  | zero => intro i _ hi; omega
  | succ j ih =>
    intro i hj hi
    by_cases he : i = j
    · subst he; exact h i hj
    · exact ltM_trans (ih i (by omega) (by omega)) (h j hj)
end Go.Proofs.Ytofiljboaegekab.Am
namespace Go.Proofs.Ytofiljboaegekab.Am
open Go
set_option maxRecDepth 100000
set_option maxHeartbeats 1000000
set_option linter.unusedSimpArgs false
set_option linter.unusedVariables false
structure Rdg where
  last : Idt
  waits : List Wt
  items : List It
def gstep (who : ByteArray) (now count : Int) (a : Rdg) (x : It) : Rdg :=
  if (a.items.length : Int) < count ∧ a.waits.length < 16 ∧ ltM a.last x.id = true then ⟨x.id, a.waits ++ [⟨x.id, who, now, 1⟩], a.items ++ [x]⟩ else a
theorem gstep_len (who : ByteArray) (now count : Int) (xs : List It) : ∀ a : Rdg, (xs.foldl (gstep who now count) a).items.length ≤ a.items.length + xs.length ∧ (xs.foldl (gstep who now count) a).waits.length ≤ a.waits.length + xs.length := by
  induction xs with
  | nil => intro a; exact ⟨Nat.le_refl _, Nat.le_refl _⟩
  | cons x xs ih =>
    intro a
    have h := ih (gstep who now count a x)
    have h2 : (gstep who now count a x).items.length ≤ a.items.length + 1 ∧ (gstep who now count a x).waits.length ≤ a.waits.length + 1 := by
      unfold gstep
      split <;> simp
    simp only [List.foldl_cons, List.length_cons]
    omega
theorem gstep_mem (who : ByteArray) (now count : Int) (xs : List It) : ∀ (a : Rdg) (x : It), x ∈ (xs.foldl (gstep who now count) a).items → x ∈ a.items ∨ x ∈ xs := by
  induction xs with
  | nil => intro a x h; exact .inl h
  | cons y xs ih =>
    intro a x h
    rcases ih _ x h with h | h
    · unfold gstep at h
      split at h
      · rcases List.mem_append.1 h with h | h
        · exact .inl h
        · right; simp only [List.mem_singleton] at h; simp [h]
      · exact .inl h
    · right; simp [h]
def readM (s : Stm) (name who : ByteArray) (now count : Int) : Stm × List It :=
  if streamOkM s = true then
    match gIx s.groups name with
    | none => (s, [])
    | some i => if keyOkM who = true ∧ withinM now 0 1000000 = true then
        (putW s i ⟨(gAt s i).name, (s.items.foldl (gstep who now count) ⟨(gAt s i).last, (gAt s i).waits, []⟩).last, (s.items.foldl (gstep who now count) ⟨(gAt s i).last, (gAt s i).waits, []⟩).waits⟩, (s.items.foldl (gstep who now count) ⟨(gAt s i).last, (gAt s i).waits, []⟩).items)
      else (s, [])
  else (.z, [])
theorem readM_bad {s : Stm} {name who : ByteArray} {now count : Int} (hok : streamOkM s = false) : readM s name who now count = (.z, []) := by
  unfold readM
  rw [if_neg (by simp [hok])]
theorem readM_none {s : Stm} {name who : ByteArray} {now count : Int} (hok : streamOkM s = true) (h : gIx s.groups name = none) : readM s name who now count = (s, []) := by
  unfold readM
  rw [if_pos hok, h]
theorem readM_not {s : Stm} {name who : ByteArray} {now count : Int} (hok : streamOkM s = true) (h : ¬ (keyOkM who = true ∧ withinM now 0 1000000 = true)) : readM s name who now count = (s, []) := by
  unfold readM
  rw [if_pos hok]
  split
  · rfl
  · rw [if_neg h]
theorem readM_some {s : Stm} {name who : ByteArray} {now count : Int} {i : Nat} (hok : streamOkM s = true) (hg : gIx s.groups name = some i) (h : keyOkM who = true ∧ withinM now 0 1000000 = true) :
    readM s name who now count = (putW s i ⟨(gAt s i).name, (s.items.foldl (gstep who now count) ⟨(gAt s i).last, (gAt s i).waits, []⟩).last, (s.items.foldl (gstep who now count) ⟨(gAt s i).last, (gAt s i).waits, []⟩).waits⟩, (s.items.foldl (gstep who now count) ⟨(gAt s i).last, (gAt s i).waits, []⟩).items) := by
  unfold readM
  rw [if_pos hok, hg]
  simp only [if_pos h]
def gRow (g : Gr) (a : Rdg) : List T := [.str g.name, .int .i64 a.last.t, .int .i64 a.last.n, .list true 5 (a.waits.map Wt.row)]
theorem p_GroupRead : Plain Try.prog 63 := ⟨_, Try.func63, rfl, by decide⟩
theorem s_GroupRead (s : Stm) (name who : ByteArray) (now count : Int) (hs : s.md) (hw : ∀ g ∈ s.groups, g.waits.length < 2000000) : Spec Try.prog 63 [s.av, .t (.str name), .t (.str who), I now, I count] (fun r => r = takeR (readM s name who now count)) := by
  have hsm := hs.sm.1
  have hs1 := hs.1
  have hs2 := hs.2.1
  have hs3 := hs.2.2.1
  have hs4 := hs.2.2.2
  refine Spec.of tysOk mixed Try.func63 rfl (by decide) ?_
  simp -implicitDefEqProofs only [go_sem, Try.f63]
  refine CallW.one (s_StreamOk s hsm hw) p_StreamOk (by first | (simp -implicitDefEqProofs only [go_sem]; done) | ((conv => lhs; simp -implicitDefEqProofs only [go_sem]); done) | (simp -implicitDefEqProofs only [go_sem]; rfl)) (by first | trivial | (simp [DeepR, DeepV, DeepVs, DeepC, DeepCs, T.scal]; done)) ?_
  simp -implicitDefEqProofs only [go_sem]
  cases hok : streamOkM s
  · simp -implicitDefEqProofs only [go_sem]
    rw [readM_bad hok]
    simp
  simp -implicitDefEqProofs only [go_sem]
  refine CallW.onep (s_cloneStream s hs) p_cloneStream (by first | (simp -implicitDefEqProofs only [go_sem]; done) | ((conv => lhs; simp -implicitDefEqProofs only [go_sem]); done) | (simp -implicitDefEqProofs only [go_sem]; rfl)) rfl ?_
  simp -implicitDefEqProofs only [go_sem]
  refine CallW.o [(9000, 185), (9001, 186)] (s_groupO s.last.t s.last.n (s.items.map It.rowO) s.groups name hs2) p_group o91 rfl (by conv => lhs; simp -implicitDefEqProofs only [go_sem]) (by simp -implicitDefEqProofs only [go_sem]) ?_
  rintro _ _ ⟨rfl, rfl⟩
  simp -implicitDefEqProofs only [go_sem]
  cases hg : gIx s.groups name with
  | none =>
    simp -implicitDefEqProofs only [go_sem, grpP]
    rw [readM_none hok hg]
    try simp
  | some n =>
    have hn := gIx_lt hg
    simp -implicitDefEqProofs only [go_sem, grpP]
    refine CallW.one (s_keyOk who) p_keyOk (by first | (simp -implicitDefEqProofs only [go_sem]; done) | ((conv => lhs; simp -implicitDefEqProofs only [go_sem]); done) | (simp -implicitDefEqProofs only [go_sem]; rfl)) (by first | trivial | (simp [DeepR, DeepV, DeepVs, DeepC, DeepCs, T.scal]; done)) ?_
    cases hk : keyOkM who
    · simp -implicitDefEqProofs only [go_sem, hk]
      rw [readM_not hok (by simp [hk])]
      try simp
    simp -implicitDefEqProofs only [go_sem, hk]
    refine CallW.one (s_within now 0 1000000) p_within (by first | (simp -implicitDefEqProofs only [go_sem]; done) | ((conv => lhs; simp -implicitDefEqProofs only [go_sem]); done) | (simp -implicitDefEqProofs only [go_sem]; rfl)) (by first | trivial | (simp [DeepR, DeepV, DeepVs, DeepC, DeepCs, T.scal]; done)) ?_
    cases hnw : withinM now 0 1000000
    · simp -implicitDefEqProofs only [go_sem, hnw]
      rw [readM_not hok (by simp [hnw])]
      try simp
    simp -implicitDefEqProofs only [go_sem, hnw]
    have hga := gAt_eq hn
    rw [readM_some hok hg ⟨hk, hnw⟩, hga]
    have hro := row_getD Gr.rowO s.groups hn
    have hwl := hs4 _ (List.getElem_mem hn)
    obtain ⟨g, hgg⟩ : ∃ g, g = s.groups[n] := ⟨_, rfl⟩
    have e0 : (s.groups.map Gr.rowO).set n (gRow g ⟨g.last, g.waits, []⟩) = s.groups.map Gr.rowO := by
      rw [hgg]
      refine List.ext_getElem (by simp) fun j h1 h2 => ?_
      rw [List.getElem_set]
      split
      · rename_i hj; subst hj; simp [gRow, Gr.rowO]
      · rfl
    rw [← hgg] at hro hwl ⊢
    obtain ⟨st, hst⟩ : ∃ st, st = fun i : Nat => (s.items.take i).foldl (gstep who now count) ⟨g.last, g.waits, []⟩ := ⟨_, rfl⟩
    have hst0 : st 0 = ⟨g.last, g.waits, []⟩ := by rw [hst]; rfl
    refine LoopW.slotsM [false, false, true, true, true, false, false, false, false, false, true, false, true, true, true, false, false, false, false, false, false, false, false, false, false, false, false, false, false, false, false, false, false, false, false, false, false, false, false, false, false, false, false, true, true, true, false, false, false, false, false, false, false, false, false, false, false, false, false, false, false, false, false, false, false, false, false, false, false, false, false, false, false, false, false, false, false, false, false, false, false, false, false, false, false, false, false, false, false, false, false, false, false, false, false, false, false, false, false, false, false, false, false, false, false] (α := Nat) (fun i => [(45, I i)]) (fun i => [(186, .rows 4 ((s.groups.map Gr.rowO).set n (gRow g (st i)))), (216, .rows 3 ((st i).items.map It.row))]) (fun i => s.items.length - i) (fun i => i ≤ s.items.length) 0 (by simp -implicitDefEqProofs only [go_sem, LeTs_undef, LeTs_same, LeTs_nil]; try simp [LeTs]) (by simp -implicitDefEqProofs only [go_sem, hst0, e0, List.map_nil]) (by omega) ?_
    intro i hi
    simp -implicitDefEqProofs only [go_sem]
    refine BrA_i (fun h => ?_) (fun h => ?_) <;> simp -implicitDefEqProofs only [go_sem]
    · skip
      have h : i < s.items.length := by simp at h; omega
      have h0i : (0 : Int) ≤ i := by omega
      have h1i : (i : Int) < s.items.length := by omega
      have wi : IntKind.i64.wrap ((i : Int) + 1) = ((i + 1 : Nat) : Int) := by rw [wrap64 (by omega) (by omega)]; omega
      have ef : st (i + 1) = gstep who now count (st i) s.items[i] := by rw [hst]; exact foldl_take _ _ _ h
      have hl : (st i).items.length ≤ 1048576 ∧ (st i).waits.length ≤ 2097152 := by
        have := gstep_len who now count (s.items.take i) ⟨g.last, g.waits, []⟩
        rw [hst]; simp at this ⊢; omega
      obtain ⟨a, ha⟩ : ∃ a, a = st i := ⟨_, rfl⟩
      rw [← ha] at ef hl ⊢
      have hsg : ∀ r, ((s.groups.map Gr.rowO).set n r).getD n [] = r := fun r => set_getD (by simpa using hn) r
      have hr := row_getD It.row s.items h
      simp only [It.row] at hr
      simp -implicitDefEqProofs only [go_sem, h, h0i, h1i, hr, wi, gRow]
      refine RegD_of sch_63_11 tysOk (by kernel_rfl) ?_
      simp -implicitDefEqProofs only [go_sem, h, h0i, h1i, hr, wi, gRow, hsg, List.length_set, List.length_map]
      have hlt := h
      (repeat' (first   | (refine RegD_of sch_63_13 tysOk (by kernel_rfl) ?_; try simp -implicitDefEqProofs only [go_sem, hlt, h0i, h1i, hr, wi, gRow, hsg, hn, List.length_set, List.length_map, List.set_set])   | (refine CallW.one (s_IdLess _ _ _ _) p_IdLess (by first | (simp -implicitDefEqProofs only [go_sem]; done) | ((conv => lhs; simp -implicitDefEqProofs only [go_sem]); done) | (simp -implicitDefEqProofs only [go_sem]; rfl)) (by first | trivial | (simp [DeepR, DeepV, DeepVs, DeepC, DeepCs, T.scal]; done)) ?_; try simp -implicitDefEqProofs only [go_sem, hlt, h0i, h1i, hr, wi, gRow, hsg, hn, List.length_set, List.length_map, List.set_set])   | (refine BrA_i (fun h => ?_) (fun h => ?_) <;> (try simp only [decide_eq_true_eq, decide_eq_false_iff_not, Bool.not_eq_true', Bool.not_eq_false', gt_iff_lt, ge_iff_le] at h) <;> try simp -implicitDefEqProofs only [go_sem, hlt, h0i, h1i, hr, wi, gRow, hsg, hn, List.length_set, List.length_map, List.set_set])   | (refine And.intro (a := roomy _ _) (by (unfold roomy; (try simp only [List.length_take, List.length_append, List.length_map, List.length_cons, List.length_nil]); omega)) ?_; try simp -implicitDefEqProofs only [go_sem, hlt, h0i, h1i, hr, wi, gRow, hsg, hn, List.length_set, List.length_map, List.set_set])))
      all_goals first
        | (have he : gstep who now count a s.items[i] = a := if_neg (by rintro ⟨x1, x2, x3⟩; simp only [ltM, decide_eq_true_eq] at x3; omega)
           refine .to [128, 680, 688, 728, 736, 545, 546, 547] (i + 1) rfl ?_ ?_ (by omega) (by omega) <;> simp -implicitDefEqProofs only [go_sem, LeTs_undef, LeTs_same, LeTs_nil, ef, he, gRow, wi])
        | (have he : gstep who now count a s.items[i] = ⟨s.items[i].id, a.waits ++ [⟨s.items[i].id, who, now, 1⟩], a.items ++ [s.items[i]]⟩ := if_pos ⟨by omega, by omega, by simp only [ltM, decide_eq_true_eq]; omega⟩
           have e2 : (a.waits ++ [(⟨s.items[i].id, who, now, 1⟩ : Wt)]).map Wt.row = a.waits.map Wt.row ++ [[T.int .i64 s.items[i].id.t, T.int .i64 s.items[i].id.n, T.str who, T.int .i64 now, T.int .i64 1]] := by rw [List.map_append]; rfl
           have e3 : (a.items ++ [s.items[i]]).map It.row = a.items.map It.row ++ [[T.int .i64 s.items[i].id.t, T.int .i64 s.items[i].id.n, T.list false 2 (s.items[i].fields.map Pr.row)]] := by rw [List.map_append]; rfl
           refine .to [128, 680, 688, 728, 736, 545, 546, 547] (i + 1) rfl ?_ ?_ (by omega) (by omega) <;> simp -implicitDefEqProofs only [go_sem, LeTs_undef, LeTs_same, LeTs_nil, ef, he, e2, e3, gRow, wi])
    · have h : i = s.items.length := by simp at h; omega
      subst h
      have hl := gstep_len who now count s.items ⟨g.last, g.waits, []⟩
      have hmem := gstep_mem who now count s.items ⟨g.last, g.waits, []⟩
      have hste : st s.items.length = s.items.foldl (gstep who now count) ⟨g.last, g.waits, []⟩ := by rw [hst]; simp only [List.take_length]
      rw [← hste] at hl hmem ⊢
      obtain ⟨a, ha⟩ : ∃ a, a = st s.items.length := ⟨_, rfl⟩
      rw [← ha] at hl hmem ⊢
      simp only [List.length_nil, Nat.zero_add] at hl
      have hsg : ∀ r, ((s.groups.map Gr.rowO).set n r).getD n [] = r := fun r => set_getD (by simpa using hn) r
      have hset : (s.groups.set n ⟨g.name, a.last, a.waits⟩).map Gr.rowO = (s.groups.map Gr.rowO).set n [T.str g.name, T.int .i64 a.last.t, T.int .i64 a.last.n, T.list true 5 (a.waits.map Wt.row)] := by rw [List.map_set]; rfl
      simp -implicitDefEqProofs only [go_sem, hsg, hn, gRow, List.length_set, List.length_map]
      refine CallW.one (s_cloneWaits a.waits (by omega)) p_cloneWaits (by first | (simp -implicitDefEqProofs only [go_sem]; done) | ((conv => lhs; simp -implicitDefEqProofs only [go_sem]); done) | (simp -implicitDefEqProofs only [go_sem]; rfl)) (deep_wts _) ?_
      simp -implicitDefEqProofs only [go_sem, hsg, hn, List.length_set, List.length_map, List.set_set]
      (try refine ⟨hn, ?_⟩)
      refine RegD_of sch_63_17 tysOk (by kernel_rfl) ?_
      simp -implicitDefEqProofs only [go_sem]
      refine CallW.one (s_cloneItems a.items (by omega) (fun x hx => by have := hs3 x ((hmem x hx).resolve_left (by simp)); omega)) p_cloneItems (by first | (simp -implicitDefEqProofs only [go_sem]; done) | ((conv => lhs; simp -implicitDefEqProofs only [go_sem]); done) | (simp -implicitDefEqProofs only [go_sem]; rfl)) (deep_its _) ?_
      simp -implicitDefEqProofs only [go_sem]
      rw [← hset]; rfl
theorem p_l9Wait : Plain Try.prog 138 := ⟨_, Try.func138, rfl, by decide⟩
theorem s_l9Wait (ws : List Wt) (w : Wt) (hs : ws.length ≤ 1048576) (hb : ∀ x ∈ ws, ltM x.id w.id = true) : Spec Try.prog 138 [.t (.list false 5 (ws.map Wt.row)), w.av] (fun r => r = .own (.list true 5 ((ws ++ [w]).map Wt.row))) := by
  refine Spec.of tysOk mixed Try.func138 rfl (by decide) ?_
  simp -implicitDefEqProofs only [go_sem, Try.f138]
  refine LoopW.slotsM [true, false, false, true, false, true, false, false, false, false, false, false, false, false, false, false, false, false, false, false, false, false, false, false, false, false, false, false, false, false, false, false, false, false] (α := Nat) (fun i => [(5, I i)]) (fun i => []) (fun i => ws.length - i) (fun i => i ≤ ws.length) 0 (by simp -implicitDefEqProofs only [go_sem, LeTs_undef, LeTs_same, LeTs_nil]; try simp [LeTs]) rfl (by omega) ?_
  intro i hi
  simp -implicitDefEqProofs only [go_sem]
  refine RegD_of sch_138_2 tysOk (by kernel_rfl) ?_
  simp -implicitDefEqProofs only [go_sem]
  refine BrA_i (fun h => ?_) (fun h => ?_) <;> simp -implicitDefEqProofs only [go_sem]
  · skip
    have h : i < ws.length := by simp at h; omega
    have h0i : (0 : Int) ≤ i := by omega
    have h1i : (i : Int) < ws.length := by omega
    have wi : IntKind.i64.wrap ((i : Int) + 1) = ((i + 1 : Nat) : Int) := by rw [wrap64 (by omega) (by omega)]; omega
    have hr := row_getD Wt.row ws h
    simp only [Wt.row] at hr
    have hlt := hb ws[i] (List.getElem_mem h)
    have hlt2 : decide (ordM ws[i].id.t ws[i].id.n w.id.t w.id.n < 0) = true := hlt
    simp -implicitDefEqProofs only [go_sem, h, h0i, h1i, hr, wi]
    refine CallW.one (s_sIdLess ws[i].id.t ws[i].id.n w.id.t w.id.n) p_sIdLess (by first | (simp -implicitDefEqProofs only [go_sem]; done) | ((conv => lhs; simp -implicitDefEqProofs only [go_sem]); done) | (simp -implicitDefEqProofs only [go_sem]; rfl)) (by first | trivial | (simp [DeepR, DeepV, DeepVs, DeepC, DeepCs, T.scal]; done)) ?_
    simp -implicitDefEqProofs only [go_sem, hlt2, h, h0i, h1i, hr, wi]
    refine .to [145, 146, 147] (i + 1) rfl ?_ ?_ (by omega) (by omega) <;> simp -implicitDefEqProofs only [go_sem, LeTs_undef, LeTs_same, LeTs_nil, wi]
  · have h : i = ws.length := by simp at h; omega
    subst h
    have z0 : (0 : Int) ≤ ws.length := by omega
    refine RegD_of sch_138_4 tysOk (by kernel_rfl) ?_
    simp -implicitDefEqProofs only [go_sem, z0, Int.le_refl]
    have e1 : sharedRows (List.take (ws.length - Int.toNat 0) (List.drop (Int.toNat 0) (List.map Wt.row ws))) = ws.map Wt.row := by
      rw [show Int.toNat 0 = 0 from rfl, Nat.sub_zero, List.drop_zero, List.take_of_length_le (by simp), shared_Wt]
    have e2 : sharedRows (List.take (ws.length - ws.length) (List.drop ws.length (List.map Wt.row ws))) = [] := by
      rw [Nat.sub_self, List.take_zero]; rfl
    rw [e1, e2]
    refine ⟨by unfold roomy; simp; omega, by unfold roomy; simp; omega, by unfold roomy; simp; omega, ?_⟩
    rw [List.append_nil, List.map_append]; rfl
end Go.Proofs.Ytofiljboaegekab.Am
namespace Go.Proofs.Ytofiljboaegekab.Am
open Go
set_option linter.unusedVariables false
theorem gstep_full (who : ByteArray) (now count : Int) (xs : List It) (a : Rdg) (h : ¬ (a.items.length : Int) < count) : xs.foldl (gstep who now count) a = a := by
  induction xs with
  | nil => rfl
  | cons x xs ih =>
    have : gstep who now count a x = a := if_neg (fun hh => h hh.1)
    rw [List.foldl_cons, this, ih]
structure GInv (g : Gr) (l : List It) (i : Nat) (a : Rdg) : Prop where
  waits : ∀ w ∈ a.waits, ltM a.last w.id = false
  last : a.last = g.last ∨ (ltM g.last a.last = true ∧ ∃ j, ∃ h : j < l.length, j < i ∧ a.last = l[j].id)
theorem ltM_irrefl (a : Idt) : ltM a a = false := by
  cases h : ltM a a with
  | false => rfl
  | true => rw [ltM_iff] at h; omega
theorem ltM_asymm {a b : Idt} (h : ltM a b = true) : ltM b a = false := by
  cases h2 : ltM b a with
  | false => rfl
  | true => rw [ltM_iff] at h h2; omega
theorem GInv.test {g : Gr} {l : List It} {i : Nat} {a : Rdg} (h : GInv g l i a) (hi : i < l.length) (up : ∀ j (hj : j < l.length), j < i → ltM l[j].id l[i].id = true) : ltM a.last l[i].id = ltM g.last l[i].id := by
  rcases h.last with e | ⟨e1, j, hj, hji, e2⟩
  · rw [e]
  · have h1 := up j hj hji
    rw [← e2] at h1
    rw [h1, ltM_trans e1 h1]
theorem GInv.before {g : Gr} {l : List It} {i : Nat} {a : Rdg} (h : GInv g l i a) {x : Idt} (hx : ltM a.last x = true) : ∀ w ∈ a.waits, ltM w.id x = true := fun w hw => ltM_le (h.waits w hw) hx
theorem GInv.step {g : Gr} {l : List It} {i : Nat} {a : Rdg} (h : GInv g l i a) (hi : i < l.length) (up : ∀ j (hj : j < l.length), j < i → ltM l[j].id l[i].id = true) (who : ByteArray) (now count : Int) : GInv g l (i + 1) (gstep who now count a l[i]) := by
  unfold gstep
  split
  · rename_i hc
    refine ⟨fun w hw => ?_, .inr ⟨by rw [← h.test hi up]; exact hc.2.2, i, hi, by omega, rfl⟩⟩
    rcases List.mem_append.1 hw with hw | hw
    · exact ltM_asymm (h.before hc.2.2 w hw)
    · simp only [List.mem_singleton] at hw
      rw [hw]; exact ltM_irrefl _
  · refine ⟨h.waits, ?_⟩
    rcases h.last with e | ⟨e1, j, hj, hji, e2⟩
    · exact .inl e
    · exact .inr ⟨e1, j, hj, by omega, e2⟩
theorem streamOkM_up {s : Stm} (h : streamOkM s = true) (i : Nat) (hi : i + 1 < s.items.length) : ltM s.items[i].id s.items[i + 1].id = true := by
  simp only [streamOkM, Bool.and_eq_true] at h
  have h2 := (allAt_iff _ _ _).1 h.1.2 (i + 1) hi
  unfold goodAt at h2
  rw [List.getElem?_eq_getElem hi] at h2
  simp only [Bool.and_eq_true] at h2
  have h3 := h2.2
  rw [List.getElem?_eq_getElem (show i < s.items.length by omega)] at h3
  exact h3
theorem streamOkM_before {s : Stm} (h : streamOkM s = true) (j i : Nat) (hi : i < s.items.length) (hj : j < i) : ltM (s.items[j]'(by omega)).id s.items[i].id = true :=
  up_lt It.id s.items (fun k hk => streamOkM_up h k hk) i j hi hj
theorem streamOkM_wl {s : Stm} (h : streamOkM s = true) {g : Gr} (hg : g ∈ s.groups) {w : Wt} (hw : w ∈ g.waits) : ltM g.last w.id = false := by
  simp only [streamOkM, Bool.and_eq_true] at h
  have h1 := h.2
  simp only [allAt, Bool.and_eq_true, List.all_eq_true] at h1
  have h2 := h1.1 g hg
  simp only [grGood, grOkM, Bool.and_eq_true, allAt, List.all_eq_true] at h2
  have h3 := h2.1.2.1 w hw
  simp only [wtGood, Bool.and_eq_true, Bool.not_eq_true'] at h3
  exact h3.1.1.1.2
theorem GInv.start {s : Stm} (h : streamOkM s = true) {g : Gr} (hg : g ∈ s.groups) : GInv g s.items 0 ⟨g.last, g.waits, []⟩ :=
  ⟨fun w hw => streamOkM_wl h hg hw, .inl rfl⟩
end Go.Proofs.Ytofiljboaegekab.Am
namespace Go.Proofs.Ytofiljboaegekab.Am
open Go
set_option maxRecDepth 100000
set_option maxHeartbeats 1000000
set_option linter.unusedSimpArgs false
set_option linter.unusedVariables false
theorem p_sGroupRead : Plain Try.prog 62 := ⟨_, Try.func62, rfl, by decide⟩
theorem s_sGroupRead (s : Stm) (name who : ByteArray) (now count : Int) (hs : s.md) (hw : ∀ g ∈ s.groups, g.waits.length < 2000000) : Spec Try.prog 62 [s.av, .t (.str name), .t (.str who), I now, I count] (fun r => r = takeR (readM s name who now count)) := by
  have hsm := hs.sm.1
  have hs1 := hs.1
  have hs2 := hs.2.1
  have hs3 := hs.2.2.1
  have hs4 := hs.2.2.2
  refine Spec.of tysOk mixed Try.func62 rfl (by decide) ?_
  simp -implicitDefEqProofs only [go_sem, Try.f62]
  refine CallW.one (s_sStreamOk s hsm hw) p_sStreamOk (by first | (simp -implicitDefEqProofs only [go_sem]; done) | ((conv => lhs; simp -implicitDefEqProofs only [go_sem]); done) | (simp -implicitDefEqProofs only [go_sem]; rfl)) (by first | trivial | (simp [DeepR, DeepV, DeepVs, DeepC, DeepCs, T.scal]; done)) ?_
  simp -implicitDefEqProofs only [go_sem]
  cases hok : streamOkM s
  · simp -implicitDefEqProofs only [go_sem]
    rw [readM_bad hok]
    simp
  simp -implicitDefEqProofs only [go_sem]
  refine CallW.onep (s_l9Copy s hs) p_l9Copy (by first | (simp -implicitDefEqProofs only [go_sem]; done) | ((conv => lhs; simp -implicitDefEqProofs only [go_sem]); done) | (simp -implicitDefEqProofs only [go_sem]; rfl)) rfl ?_
  simp -implicitDefEqProofs only [go_sem]
  refine CallW.one (s_l9Of s name hs2) p_l9Of (by first | (simp -implicitDefEqProofs only [go_sem]; done) | ((conv => lhs; simp -implicitDefEqProofs only [go_sem]); done) | (simp -implicitDefEqProofs only [go_sem]; rfl)) (by first | trivial | (simp [DeepR, DeepV, DeepVs, DeepC, DeepCs, T.scal]; done)) ?_
  simp -implicitDefEqProofs only [go_sem]
  cases hg : gIx s.groups name with
  | none =>
    simp -implicitDefEqProofs only [go_sem, ixI]
    rw [readM_none hok hg]
    try simp
  | some n =>
    have hn := gIx_lt hg
    have hn0 : ¬ ((n : Nat) : Int) < 0 := by omega
    simp -implicitDefEqProofs only [go_sem, ixI, hn0, decide_false]
    have hn1 : (n : Int) < s.groups.length := by omega
    have hn2 : (0 : Int) ≤ n := by omega
    refine CallW.one (s_l4Key who) p_l4Key (by first | (simp -implicitDefEqProofs only [go_sem]; done) | ((conv => lhs; simp -implicitDefEqProofs only [go_sem]); done) | (simp -implicitDefEqProofs only [go_sem]; rfl)) (by first | trivial | (simp [DeepR, DeepV, DeepVs, DeepC, DeepCs, T.scal]; done)) ?_
    cases hk : keyOkM who
    · simp -implicitDefEqProofs only [go_sem, hk]
      rw [readM_not hok (by simp [hk])]
      try simp
    simp -implicitDefEqProofs only [go_sem, hk]
    refine CallW.one (s_l1In now 0 1000000) p_l1In (by first | (simp -implicitDefEqProofs only [go_sem]; done) | ((conv => lhs; simp -implicitDefEqProofs only [go_sem]); done) | (simp -implicitDefEqProofs only [go_sem]; rfl)) (by first | trivial | (simp [DeepR, DeepV, DeepVs, DeepC, DeepCs, T.scal]; done)) ?_
    cases hnw : withinM now 0 1000000
    · simp -implicitDefEqProofs only [go_sem, hnw]
      rw [readM_not hok (by simp [hnw])]
      try simp
    simp -implicitDefEqProofs only [go_sem, hnw]
    have hga := gAt_eq hn
    rw [readM_some hok hg ⟨hk, hnw⟩, hga]
    have hrg := row_getD Gr.row s.groups hn
    have hwl := hs4 _ (List.getElem_mem hn)
    have hgm := List.getElem_mem hn
    obtain ⟨g, hgg⟩ : ∃ g, g = s.groups[n] := ⟨_, rfl⟩
    have e0 : (s.groups.map Gr.rowO).set n (gRow g ⟨g.last, g.waits, []⟩) = s.groups.map Gr.rowO := by
      rw [hgg]
      refine List.ext_getElem (by simp) fun j h1 h2 => ?_
      rw [List.getElem_set]
      split
      · rename_i hj; subst hj; simp [gRow, Gr.rowO]
      · rfl
    rw [← hgg] at hrg hwl hgm ⊢
    simp only [Gr.row] at hrg
    obtain ⟨st, hst⟩ : ∃ st, st = fun i : Nat => (s.items.take i).foldl (gstep who now count) ⟨g.last, g.waits, []⟩ := ⟨_, rfl⟩
    have hst0 : st 0 = ⟨g.last, g.waits, []⟩ := by rw [hst]; rfl
    have hste : st s.items.length = s.items.foldl (gstep who now count) ⟨g.last, g.waits, []⟩ := by rw [hst]; simp only [List.take_length]
    have hinv : ∀ i, i ≤ s.items.length → GInv g s.items i (st i) := by
      intro i
      induction i with
      | zero => intro _; rw [hst0]; exact GInv.start hok hgm
      | succ i ih =>
        intro hi
        have h1 := (ih (by omega)).step (show i < s.items.length by omega) (fun j hj hji => streamOkM_before hok j i (by omega) hji) who now count
        have h2 : st (i + 1) = gstep who now count (st i) s.items[i] := by rw [hst]; exact foldl_take _ _ _ (show i < s.items.length by omega)
        rw [h2]; exact h1
    have hset : ∀ b : Rdg, (s.groups.set n ⟨g.name, b.last, b.waits⟩).map Gr.rowO = (s.groups.map Gr.rowO).set n (gRow g b) := fun b => by rw [List.map_set]; rfl
    rw [← hste]
    refine LoopW.slotsM [false, false, true, true, true, true, false, false, false, false, true, false, true, true, true, true, false, false, false, false, false, false, false, false, false, false, false, false, false, false, false, false, false, false, false, false, false, false, false, false, false, false, false, false, false, false, false, false, false, false, false, false, false, false, false, false, false, false, false, false, false, false, false, false, false, false, false, false, false, false, false, false, false, false, false, false, false, false, false, false, false, false, false, false, false, false, false, false, false, false, false, false, false, false, false, false, false, false, false, false, false, false, false, false, false, false, false, false, false, false, false, false, false, false, false, false, false, false, false, false, false] (α := Nat) (fun i => [(15, I i)]) (fun i => [(186, .rows 4 ((s.groups.map Gr.rowO).set n (gRow g (st i)))), (128, .rows 3 ((st i).items.map It.rowO))]) (fun i => s.items.length - i) (fun i => i ≤ s.items.length) 0 (by simp -implicitDefEqProofs only [go_sem, LeTs_undef, LeTs_same, LeTs_nil]; try simp [LeTs]) (by simp -implicitDefEqProofs only [go_sem, hst0, e0, List.map_nil]) (by omega) ?_
    intro i hi
    simp -implicitDefEqProofs only [go_sem]
    refine BrA_i (fun h => ?_) (fun h => ?_) <;> simp -implicitDefEqProofs only [go_sem]
    · skip
      have h : i < s.items.length := by simp at h; omega
      have h0i : (0 : Int) ≤ i := by omega
      have h1i : (i : Int) < s.items.length := by omega
      have wi : IntKind.i64.wrap ((i : Int) + 1) = ((i + 1 : Nat) : Int) := by rw [wrap64 (by omega) (by omega)]; omega
      have ef : st (i + 1) = gstep who now count (st i) s.items[i] := by rw [hst]; exact foldl_take _ _ _ h
      have hl : (st i).items.length ≤ 1048576 ∧ (st i).waits.length ≤ 2097152 := by
        have := gstep_len who now count (s.items.take i) ⟨g.last, g.waits, []⟩
        rw [hst]; simp at this ⊢; omega
      have hv := hinv i hi
      obtain ⟨a, ha⟩ : ∃ a, a = st i := ⟨_, rfl⟩
      rw [← ha] at ef hl hv ⊢
      have hsg : ∀ r, ((s.groups.map Gr.rowO).set n r).getD n [] = r := fun r => set_getD (by simpa using hn) r
      have hr := row_getD It.row s.items h
      simp only [It.row] at hr
      have htest := hv.test h (fun j hj hji => streamOkM_before hok j i h hji)
      have hf := hs3 _ (List.getElem_mem h)
      refine BrA_i (fun hc => ?_) (fun hc => ?_) <;> (try simp only [decide_eq_true_eq, decide_eq_false_iff_not] at hc) <;> (try simp -implicitDefEqProofs only [go_sem, h0i, h1i, hn1, hn2, hrg, hr, wi])
      · refine RegD_of sch_62_11 tysOk (by kernel_rfl) ?_
        simp -implicitDefEqProofs only [go_sem, h0i, h1i, hn1, hn2, hrg, hr, wi]
        refine CallW.one (s_sIdLess g.last.t g.last.n s.items[i].id.t s.items[i].id.n) p_sIdLess (by first | (simp -implicitDefEqProofs only [go_sem]; done) | ((conv => lhs; simp -implicitDefEqProofs only [go_sem]); done) | (simp -implicitDefEqProofs only [go_sem]; rfl)) (by first | trivial | (simp [DeepR, DeepV, DeepVs, DeepC, DeepCs, T.scal]; done)) ?_
        have hd : decide (ordM g.last.t g.last.n s.items[i].id.t s.items[i].id.n < 0) = ltM g.last s.items[i].id := rfl
        rw [hd]
        cases hb : ltM g.last s.items[i].id
        · simp -implicitDefEqProofs only [go_sem, h0i, h1i, hn1, hn2, hrg, hr, wi]
          have he : gstep who now count a s.items[i] = a := if_neg (by rintro ⟨x1, x2, x3⟩; rw [htest, hb] at x3; cases x3)
          refine .to [936, 944, 529, 530, 531, 769, 770, 771, 929, 930, 931] (i + 1) rfl ?_ ?_ (by omega) (by omega) <;> simp -implicitDefEqProofs only [go_sem, LeTs_undef, LeTs_same, LeTs_nil, ef, he, gRow, wi]
        · simp -implicitDefEqProofs only [go_sem, h0i, h1i, hn1, hn2, hrg, hr, wi, gRow, hsg, List.length_set, List.length_map]
          refine ⟨hn, ?_⟩
          refine BrA_i (fun h16 => ?_) (fun h16 => ?_) <;> (try simp only [decide_eq_true_eq, decide_eq_false_iff_not] at h16) <;> simp -implicitDefEqProofs only [go_sem, wi]
          · have he : gstep who now count a s.items[i] = a := if_neg (by rintro ⟨x1, x2, x3⟩; omega)
            refine .to [936, 944, 529, 530, 531, 769, 770, 771, 929, 930, 931] (i + 1) rfl ?_ ?_ (by omega) (by omega) <;> simp -implicitDefEqProofs only [go_sem, LeTs_undef, LeTs_same, LeTs_nil, ef, he, gRow, wi]
          · have hb2 : ltM a.last s.items[i].id = true := by rw [htest]; exact hb
            refine RegD_of sch_62_12 tysOk (by kernel_rfl) ?_
            simp -implicitDefEqProofs only [go_sem, h0i, h1i, hn1, hn2, hrg, hr, wi, gRow, hsg, hn, List.length_set, List.length_map]
            refine CallW.one (s_l9Wait a.waits ⟨s.items[i].id, who, now, 1⟩ (by omega) (hv.before hb2)) p_l9Wait (by first | (simp -implicitDefEqProofs only [go_sem]; done) | ((conv => lhs; simp -implicitDefEqProofs only [go_sem]); done) | (simp -implicitDefEqProofs only [go_sem]; rfl)) (deep_wts _) ?_
            simp -implicitDefEqProofs only [go_sem, h0i, h1i, hn1, hn2, hrg, hr, wi, gRow, hsg, hn, List.length_set, List.length_map, List.set_set]
            refine RegD_of sch_62_13 tysOk (by kernel_rfl) ?_
            simp -implicitDefEqProofs only [go_sem, h0i, h1i, hn1, hn2, hrg, hr, wi, gRow, hsg, hn, List.length_set, List.length_map, List.set_set]
            (try refine ⟨hn, ?_⟩)
            (try simp -implicitDefEqProofs only [go_sem, h0i, h1i, hn1, hn2, hrg, hr, wi, gRow, hsg, hn, List.length_set, List.length_map, List.set_set])
            refine CallW.onep (s_l9Item s.items[i] (by omega)) p_l9Item (by first | (simp -implicitDefEqProofs only [go_sem]; done) | ((conv => lhs; simp -implicitDefEqProofs only [go_sem]); done) | (simp -implicitDefEqProofs only [go_sem]; rfl)) rfl ?_
            simp -implicitDefEqProofs only [go_sem, h0i, h1i, hn1, hn2, hrg, hr, wi, gRow, hsg, hn, List.length_set, List.length_map, List.set_set]
            have he : gstep who now count a s.items[i] = ⟨s.items[i].id, a.waits ++ [⟨s.items[i].id, who, now, 1⟩], a.items ++ [s.items[i]]⟩ := if_pos ⟨by omega, by omega, hb2⟩
            have e3 : (a.items ++ [s.items[i]]).map It.rowO = a.items.map It.rowO ++ [[T.int .i64 s.items[i].id.t, T.int .i64 s.items[i].id.n, T.list true 2 (s.items[i].fields.map Pr.row)]] := by rw [List.map_append]; rfl
            refine ⟨by unfold roomy; (try simp); omega, ?_⟩
            refine .to [936, 944, 529, 530, 531, 769, 770, 771, 929, 930, 931] (i + 1) rfl ?_ ?_ (by omega) (by omega) <;> simp -implicitDefEqProofs only [go_sem, LeTs_undef, LeTs_same, LeTs_nil, ef, he, e3, gRow, wi]
      · have hfin : st s.items.length = a := by
          have h1 : s.items = s.items.take i ++ s.items.drop i := (List.take_append_drop i s.items).symm
          rw [hste]
          conv => lhs; rw [h1]
          rw [List.foldl_append]
          have h2 : (s.items.take i).foldl (gstep who now count) ⟨g.last, g.waits, []⟩ = a := by rw [ha, hst]
          rw [h2]; exact gstep_full _ _ _ _ _ hc
        rw [hfin, ← hset]; rfl
    · have h : i = s.items.length := by simp at h; omega
      subst h
      rw [← hset]; rfl
end Go.Proofs.Ytofiljboaegekab.Am
namespace Go.Proofs.Ytofiljboaegekab.Am
open Go
set_option maxRecDepth 100000
set_option maxHeartbeats 1000000
set_option linter.unusedSimpArgs false
set_option linter.unusedVariables false
theorem Stm.mw_md {s : Stm} (h : s.md) : s.mw ≤ 100000000000000 := by
  obtain ⟨h1, h2, h3, h4⟩ := h
  have e1 : wSum It.mw s.items ≤ 2097154 * s.items.length + 0 * wSum It.mw s.items := wSum_map_le _ _ _ _ _ fun x hx => by
    have := wSum_map_le Pr.mw Pr.w 2 0 x.fields (fun x _ => by unfold Pr.mw; omega)
    have := h3 x hx
    simp only [It.mw]; omega
  have e2 : wSum Gr.mw s.groups ≤ 5242883 * s.groups.length + 0 * wSum Gr.mw s.groups := wSum_map_le _ _ _ _ _ fun x hx => by
    have := wSum_map_le Wt.mw Wt.w 5 0 x.waits (fun x _ => by unfold Wt.mw; omega)
    have := h4 x hx
    simp only [Gr.mw]; omega
  simp only [Stm.mw]
  omega
theorem z_md : Stm.md .z := ⟨Nat.zero_le _, Nat.zero_le _, fun i hi => (by cases hi), fun g hg => (by cases hg)⟩
theorem gstep_wl (who : ByteArray) (now count : Int) (xs : List It) : ∀ a : Rdg, a.waits.length ≤ 1048576 → (xs.foldl (gstep who now count) a).waits.length ≤ 1048576 := by
  induction xs with
  | nil => intro a h; exact h
  | cons x xs ih =>
    intro a h
    refine ih _ ?_
    unfold gstep
    split
    · rename_i hc; simp only [List.length_append, List.length_cons, List.length_nil]; omega
    · exact h
theorem readM_md {s : Stm} (hs : s.md) (name who : ByteArray) (now count : Int) : (readM s name who now count).1.md ∧ (readM s name who now count).2.length ≤ 1048576 ∧ ∀ x ∈ (readM s name who now count).2, x ∈ s.items := by
  unfold readM
  split
  · split
    · exact ⟨hs, Nat.zero_le _, fun x hx => by cases hx⟩
    · rename_i i hi
      split
      · have hn := gIx_lt hi
        have hl := gstep_len who now count s.items ⟨(gAt s i).last, (gAt s i).waits, []⟩
        have hwl : (gAt s i).waits.length ≤ 1048576 := by rw [gAt_eq hn]; exact hs.2.2.2 _ (List.getElem_mem hn)
        have hwl2 := gstep_wl who now count s.items ⟨(gAt s i).last, (gAt s i).waits, []⟩ hwl
        have hs1 := hs.1
        simp only [List.length_nil, Nat.zero_add] at hl
        refine ⟨⟨hs.1, by simp only [putW, List.length_set]; exact hs.2.1, hs.2.2.1, fun g hg => ?_⟩, by simp only; omega, fun x hx => (gstep_mem who now count s.items ⟨(gAt s i).last, (gAt s i).waits, []⟩ x hx).resolve_left (by simp)⟩
        rcases List.mem_or_eq_of_mem_set hg with h | h
        · exact hs.2.2.2 g h
        · rw [h]; exact hwl2
      · exact ⟨hs, Nat.zero_le _, fun x hx => by cases hx⟩
  · exact ⟨z_md, Nat.zero_le _, fun x hx => by cases hx⟩
theorem s_FnExactGroupRead (s : Stm) (name who : ByteArray) (now count : Int) (hs : s.G) : Spec Try.prog 10 [s.av, .t (.str name), .t (.str who), I now, I count] (fun r => r = Bo true) := by
  refine Spec.of tysOk mixed Try.func10 rfl (by decide) ?_
  simp -implicitDefEqProofs only [go_sem, Try.f10]
  refine BrA_i (fun h1 => ?_) (fun h1 => ?_) <;> simp -implicitDefEqProofs only [go_sem]
  refine BrA_i (fun h1 => ?_) (fun h1 => ?_) <;> simp -implicitDefEqProofs only [go_sem]
  refine CallW.one (s_szStream s 1048576 (by omega) (by omega) hs) p_szStream (by first | (simp -implicitDefEqProofs only [go_sem]; done) | ((conv => lhs; simp -implicitDefEqProofs only [go_sem]); done) | (simp -implicitDefEqProofs only [go_sem]; rfl)) (by first | trivial | (simp [DeepR, DeepV, DeepVs, DeepC, DeepCs, T.scal]; done)) ?_
  simp -implicitDefEqProofs only [go_sem]
  refine BrA_i (fun h1 => ?_) (fun h1 => ?_) <;> simp -implicitDefEqProofs only [go_sem]
  have h1 : s.w ≤ 1048576 := by
    have : ¬ (1048576 : Int) < s.w := fun hh => by simp [(cutM_lt _ _).2 hh] at h1
    omega
  have hm : s.md := Stm.md_w h1
  have hw : ∀ g ∈ s.groups, g.waits.length < 2000000 := fun g hg => by have := hm.2.2.2 g hg; omega
  obtain ⟨hx, hyl, hym⟩ := readM_md hm name who now count
  have hxs : (readM s name who now count).1.sm := hx.sm.1
  have hss : s.sm := hm.sm.1
  have hxm := Stm.mw_md hx
  have hsm := s.mw_le
  have hrl2 : (readM s name who now count).2.length < 4611686018427387904 := by omega
  have hrs : ∀ x ∈ (readM s name who now count).2, x.sm := fun x hx => hss.2.2.1 x (hym x hx)
  have hrm : wSum It.mw (readM s name who now count).2 ≤ 4194304 * (readM s name who now count).2.length := by
    have := wSum_map_le It.mw It.mw 4194304 0 (readM s name who now count).2 (fun x hx => by
      have h := hm.2.2.1 x (hym x hx)
      have h2 := wSum_map_le Pr.mw Pr.w 2 0 x.fields (fun x _ => by unfold Pr.mw; omega)
      simp only [It.mw]; omega)
    omega
  have n1 : ¬ (1 + (s.mw : Nat) : Int) < 0 := by omega
  have n2 : ¬ (1 + ((readM s name who now count).1.mw : Nat) : Int) < 0 := by omega
  have n3 : ¬ (1 + ((readM s name who now count).1.mw : Nat) + (wSum It.mw (readM s name who now count).2 : Nat) : Int) < 0 := by omega
  refine CallW.onep (s_toStream s hm.1 hm.2.2.1 hm.2.1 hm.2.2.2) p_toStream (by first | (simp -implicitDefEqProofs only [go_sem]; done) | ((conv => lhs; simp -implicitDefEqProofs only [go_sem]); done) | (simp -implicitDefEqProofs only [go_sem]; rfl)) rfl ?_
  simp -implicitDefEqProofs only [go_sem]
  refine CallW.one (s_sGroupRead s name who now count hm hw) p_sGroupRead (by first | (simp -implicitDefEqProofs only [go_sem]; done) | ((conv => lhs; simp -implicitDefEqProofs only [go_sem]); done) | (simp -implicitDefEqProofs only [go_sem]; rfl)) (deep_takeR _) ?_
  simp -implicitDefEqProofs only [go_sem]
  refine CallW.onep (s_toStream s hm.1 hm.2.2.1 hm.2.1 hm.2.2.2) p_toStream (by first | (simp -implicitDefEqProofs only [go_sem]; done) | ((conv => lhs; simp -implicitDefEqProofs only [go_sem]); done) | (simp -implicitDefEqProofs only [go_sem]; rfl)) rfl ?_
  simp -implicitDefEqProofs only [go_sem]
  refine CallW.one (s_GroupRead s name who now count hm hw) p_GroupRead (by first | (simp -implicitDefEqProofs only [go_sem]; done) | ((conv => lhs; simp -implicitDefEqProofs only [go_sem]); done) | (simp -implicitDefEqProofs only [go_sem]; rfl)) (deep_takeR _) ?_
  simp -implicitDefEqProofs only [go_sem]
  refine CallW.one (s_eqStream (readM s name who now count).1 (readM s name who now count).1 hxs) p_eqStream (by first | (simp -implicitDefEqProofs only [go_sem]; done) | ((conv => lhs; simp -implicitDefEqProofs only [go_sem]); done) | (simp -implicitDefEqProofs only [go_sem]; rfl)) (by first | trivial | (simp [DeepR, DeepV, DeepVs, DeepC, DeepCs, T.scal]; done)) ?_
  simp -implicitDefEqProofs only [go_sem, eq_self, decide_true, beq_self_eq_true, decide_false]
  refine CallW.one (s_eqItemS (readM s name who now count).2 (readM s name who now count).2 hrl2 hrs) p_eqItemS (by first | (simp -implicitDefEqProofs only [go_sem]; done) | ((conv => lhs; simp -implicitDefEqProofs only [go_sem]); done) | (simp -implicitDefEqProofs only [go_sem]; rfl)) (by first | trivial | (simp [DeepR, DeepV, DeepVs, DeepC, DeepCs, T.scal]; done)) ?_
  simp -implicitDefEqProofs only [go_sem, eq_self, decide_true, beq_self_eq_true, decide_false]
  refine RegD_of sch_10_14 tysOk (by kernel_rfl) ?_
  simp -implicitDefEqProofs only [go_sem, eq_self, decide_true, beq_self_eq_true, decide_false]
  refine CallW.onep (s_toStream s hm.1 hm.2.2.1 hm.2.1 hm.2.2.2) p_toStream (by first | (simp -implicitDefEqProofs only [go_sem]; done) | ((conv => lhs; simp -implicitDefEqProofs only [go_sem]); done) | (simp -implicitDefEqProofs only [go_sem]; rfl)) rfl ?_
  simp -implicitDefEqProofs only [go_sem, eq_self, decide_true, beq_self_eq_true, decide_false]
  refine CallW.one (s_eqStream s s hss) p_eqStream (by first | (simp -implicitDefEqProofs only [go_sem]; done) | ((conv => lhs; simp -implicitDefEqProofs only [go_sem]); done) | (simp -implicitDefEqProofs only [go_sem]; rfl)) (by first | trivial | (simp [DeepR, DeepV, DeepVs, DeepC, DeepCs, T.scal]; done)) ?_
  simp -implicitDefEqProofs only [go_sem, eq_self, decide_true, beq_self_eq_true, decide_false]
  refine CallW.o [(9000, 353), (9001, 354)] (s_markStream s 1 (by omega) (by omega)) p_markStream o43 rfl (by conv => lhs; simp -implicitDefEqProofs only [go_sem]) (by simp -implicitDefEqProofs only [go_sem]) ?_
  rintro _ _ ⟨rfl, rfl⟩
  simp -implicitDefEqProofs only [go_sem, eq_self, decide_true, beq_self_eq_true, decide_false, n1]
  refine CallW.one (s_eqStream (readM s name who now count).1 (readM s name who now count).1 hxs) p_eqStream (by first | (simp -implicitDefEqProofs only [go_sem]; done) | ((conv => lhs; simp -implicitDefEqProofs only [go_sem]); done) | (simp -implicitDefEqProofs only [go_sem]; rfl)) (by first | trivial | (simp [DeepR, DeepV, DeepVs, DeepC, DeepCs, T.scal]; done)) ?_
  simp -implicitDefEqProofs only [go_sem, eq_self, decide_true, beq_self_eq_true, decide_false]
  refine CallW.one (s_eqItemS (readM s name who now count).2 (readM s name who now count).2 hrl2 hrs) p_eqItemS (by first | (simp -implicitDefEqProofs only [go_sem]; done) | ((conv => lhs; simp -implicitDefEqProofs only [go_sem]); done) | (simp -implicitDefEqProofs only [go_sem]; rfl)) (by first | trivial | (simp [DeepR, DeepV, DeepVs, DeepC, DeepCs, T.scal]; done)) ?_
  simp -implicitDefEqProofs only [go_sem, eq_self, decide_true, beq_self_eq_true, decide_false]
  refine CallW.o [(9000, 409), (9001, 410)] (s_markStream (readM s name who now count).1 1 (by omega) (by omega)) p_markStream o43 rfl (by conv => lhs; simp -implicitDefEqProofs only [go_sem]) (by simp -implicitDefEqProofs only [go_sem]) ?_
  rintro _ _ ⟨rfl, rfl⟩
  simp -implicitDefEqProofs only [go_sem, eq_self, decide_true, beq_self_eq_true, decide_false]
  refine CallW.o [(9000, 411)] (s_markItemS (readM s name who now count).2 (1 + ((readM s name who now count).1.mw : Nat)) (by omega) (by omega) (by omega)) p_markItemS o65 rfl (by conv => lhs; simp -implicitDefEqProofs only [go_sem]) (by simp -implicitDefEqProofs only [go_sem]) ?_
  rintro _ _ ⟨rfl, rfl⟩
  simp -implicitDefEqProofs only [go_sem, eq_self, decide_true, beq_self_eq_true, decide_false]
  refine CallW.one (s_heldStream (readM s name who now count).1 1 (by omega) (by omega)) p_heldStream (by first | (simp -implicitDefEqProofs only [go_sem]; done) | ((conv => lhs; simp -implicitDefEqProofs only [go_sem]); done) | (simp -implicitDefEqProofs only [go_sem]; rfl)) (by first | trivial | (simp [DeepR, DeepV, DeepVs, DeepC, DeepCs, T.scal]; done)) ?_
  simp -implicitDefEqProofs only [go_sem, eq_self, decide_true, beq_self_eq_true, decide_false, n2]
  refine CallW.one (s_heldItemS (readM s name who now count).2 (1 + ((readM s name who now count).1.mw : Nat)) (by omega) (by omega) (by omega)) p_heldItemS (by first | (simp -implicitDefEqProofs only [go_sem]; done) | ((conv => lhs; simp -implicitDefEqProofs only [go_sem]); done) | (simp -implicitDefEqProofs only [go_sem]; rfl)) (by first | trivial | (simp [DeepR, DeepV, DeepVs, DeepC, DeepCs, T.scal]; done)) ?_
  simp -implicitDefEqProofs only [go_sem, eq_self, decide_true, beq_self_eq_true, decide_false, n3]
  refine CallW.onep (s_toStream s hm.1 hm.2.2.1 hm.2.1 hm.2.2.2) p_toStream (by first | (simp -implicitDefEqProofs only [go_sem]; done) | ((conv => lhs; simp -implicitDefEqProofs only [go_sem]); done) | (simp -implicitDefEqProofs only [go_sem]; rfl)) rfl ?_
  simp -implicitDefEqProofs only [go_sem, eq_self, decide_true, beq_self_eq_true, decide_false]
  refine CallW.one (s_GroupRead s name who now count hm hw) p_GroupRead (by first | (simp -implicitDefEqProofs only [go_sem]; done) | ((conv => lhs; simp -implicitDefEqProofs only [go_sem]); done) | (simp -implicitDefEqProofs only [go_sem]; rfl)) (deep_takeR _) ?_
  simp -implicitDefEqProofs only [go_sem, eq_self, decide_true, beq_self_eq_true, decide_false]
  refine CallW.one (s_eqStream (readM s name who now count).1 (readM s name who now count).1 hxs) p_eqStream (by first | (simp -implicitDefEqProofs only [go_sem]; done) | ((conv => lhs; simp -implicitDefEqProofs only [go_sem]); done) | (simp -implicitDefEqProofs only [go_sem]; rfl)) (by first | trivial | (simp [DeepR, DeepV, DeepVs, DeepC, DeepCs, T.scal]; done)) ?_
  simp -implicitDefEqProofs only [go_sem, eq_self, decide_true, beq_self_eq_true, decide_false]
  refine CallW.one (s_eqItemS (readM s name who now count).2 (readM s name who now count).2 hrl2 hrs) p_eqItemS (by first | (simp -implicitDefEqProofs only [go_sem]; done) | ((conv => lhs; simp -implicitDefEqProofs only [go_sem]); done) | (simp -implicitDefEqProofs only [go_sem]; rfl)) (by first | trivial | (simp [DeepR, DeepV, DeepVs, DeepC, DeepCs, T.scal]; done)) ?_
  simp -implicitDefEqProofs only [go_sem, eq_self, decide_true, beq_self_eq_true, decide_false]
  refine CallW.one (s_heldStream (readM s name who now count).1 1 (by omega) (by omega)) p_heldStream (by first | (simp -implicitDefEqProofs only [go_sem]; done) | ((conv => lhs; simp -implicitDefEqProofs only [go_sem]); done) | (simp -implicitDefEqProofs only [go_sem]; rfl)) (by first | trivial | (simp [DeepR, DeepV, DeepVs, DeepC, DeepCs, T.scal]; done)) ?_
  simp -implicitDefEqProofs only [go_sem, eq_self, decide_true, beq_self_eq_true, decide_false, n2]
  refine CallW.one (s_heldItemS (readM s name who now count).2 (1 + ((readM s name who now count).1.mw : Nat)) (by omega) (by omega) (by omega)) p_heldItemS (by first | (simp -implicitDefEqProofs only [go_sem]; done) | ((conv => lhs; simp -implicitDefEqProofs only [go_sem]); done) | (simp -implicitDefEqProofs only [go_sem]; rfl)) (by first | trivial | (simp [DeepR, DeepV, DeepVs, DeepC, DeepCs, T.scal]; done)) ?_
  simp -implicitDefEqProofs only [go_sem, eq_self, decide_true, beq_self_eq_true, decide_false, n3]
end Go.Proofs.Ytofiljboaegekab.Am
namespace Go.Proofs.Ytofiljboaegekab.Am
open Go Go.ChangeShapes Go.WideShapes Go.RowKit
def RdRow (w : World) (ts : List T) (cs : List Value) : Prop := ts.length = cs.length ∧ ∀ (j : Nat) (t : T) (v : Value), ts[j]? = some t → cs[j]? = some v → Rd w (fun b => b < w.heap.size) t v
structure Opn (P : Program) (t : TypeId) (sz : Nat) {α : Type} (row : α → List T) (G : α → Prop) : Prop where
  len : ∀ x, (row x).length = sz
  op : ∀ {H : Type} {enc : TypeId × Value → H} {W : World} {fuel : Nat} {cs : List Value} {D : DataW H} {ps : List MemPlace},
    DataW.trod enc P W 0 (fun _ => true) true fuel t cs = some (D, ps) → (∀ n ∈ DataW.weights P t D, n ≤ reachBytes) → ∃ x, RdRow W (row x) cs ∧ G x
theorem RdRow.one {w : World} {t : T} {v : Value} (h : Rd w (fun b => b < w.heap.size) t v) : RdRow w [t] [v] :=
  ⟨rfl, fun j t' v' h1 h2 => by
    cases j with
    | zero => simp at h1 h2; subst h1 h2; exact h
    | succ j => simp at h1⟩
theorem RdRow.append {w : World} {a b : List T} {c d : List Value} (h : RdRow w a c) (h' : RdRow w b d) : RdRow w (a ++ b) (c ++ d) :=
  ⟨by simp [h.1, h'.1], fun j t v h1 h2 => by
    rw [List.getElem?_append] at h1 h2
    have := h.1
    split at h1
    · rename_i hj
      rw [if_pos (by omega)] at h2
      exact h.2 j t v h1 h2
    · rename_i hj
      rw [if_neg (by omega)] at h2
      rw [this] at h1
      exact h'.2 _ t v h1 h2⟩
section
variable {P : Program} {t : TypeId}
theorem Opn.int {k : IntKind} (hu : P.underlying t = some (.int k)) : Opn P t 1 (fun x : Int => [T.int k x]) (fun x => (Lit.int k x).wf = true) where
  len := fun _ => rfl
  op := fun h _ => by
    obtain ⟨m, rfl, _, hw⟩ := DataW.trod_int hu h
    exact ⟨m, .one (.int _ _), hw⟩
theorem Opn.bool (hu : P.underlying t = some .bool) : Opn P t 1 (fun x : Bool => [T.bool x]) (fun _ => True) where
  len := fun _ => rfl
  op := fun h _ => by
    obtain ⟨m, rfl, _⟩ := DataW.trod_bool hu h
    exact ⟨m, .one (.bool _), trivial⟩
theorem Opn.string (hu : P.underlying t = some .string) : Opn P t 1 (fun x : ByteArray => [T.str x]) (fun x => x.size ≤ 140737488351232) where
  len := fun _ => rfl
  op := fun h hz => by
    obtain ⟨m, rfl, e, _⟩ := DataW.trod_string hu h
    obtain ⟨rfl, _⟩ := Prod.mk.inj e
    refine ⟨m, .one (.str _), ?_⟩
    have := hz m.data.toList.length (by simp [DataW.weights])
    simpa [reachBytes] using this
theorem Opn.slice {e : TypeId} {sz : Nat} {α : Type} {row : α → List T} {G : α → Prop} (he : Opn P e sz row G) (hu : P.underlying t = some (.slice e)) (hc : P.cellsOf e = sz) (hs : 0 < sz) {B : Nat} (hB : P.bytesOf e = B) :
    Opn P t 1 (fun xs : List α => [T.list false sz (xs.map row)]) (fun xs => xs.length * B ≤ 140737488351232 ∧ ∀ x ∈ xs, G x) where
  len := fun _ => rfl
  op := fun {H enc W fuel cs D ps} h hz => by
    rcases DataW.trod_slice hu h with ⟨rfl, _⟩ | ⟨a, len, cap, elems, rest, n, _, rfl, hx, hb, hl, hm, hlen, hel, hsp, _⟩
    · exact ⟨[], .one (.nil ..), by simp, by simp⟩
    · obtain ⟨rfl, _⟩ := Prod.mk.inj hx
      have hw0 := hz ((elems.map (·.1)).length + (rest.map (·.1)).length |>.mul (P.bytesOf e)) (by simp [DataW.weights, hu])
      have each : ∀ i, i < len → ∃ x c, RdRow W (row x) c ∧ G x ∧ c.length = sz ∧ ∀ j u, c[j]? = some u → W.cell? (a.add (i * sz + j)) = some u := by
        intro i hi
        have h1 := hel i hi
        have hil : i < elems.length := by omega
        rw [List.getElem?_eq_getElem hil] at h1
        rw [Option.bind_eq_some_iff] at h1
        obtain ⟨c, hcs, hy⟩ := h1
        have hD : ∀ m ∈ DataW.weights P e (elems[i]).1, m ≤ reachBytes := by
          intro m hmem
          refine hz m ?_
          simp only [DataW.weights, hu]
          refine List.mem_cons_of_mem _ (List.mem_append_left _ ?_)
          have : ∀ (l : List (DataW H)) (y : DataW H), y ∈ l → m ∈ DataW.weights P e y → m ∈ DataW.weightsAll P e l := by
            intro l
            induction l with
            | nil => intro y hy; cases hy
            | cons z l ih =>
              intro y hy hm2
              simp only [DataW.weightsAll, List.mem_append]
              rcases List.mem_cons.1 hy with rfl | hy
              · exact Or.inl hm2
              · exact Or.inr (ih y hy hm2)
          exact this _ _ (List.mem_map.2 ⟨elems[i], List.getElem_mem hil, rfl⟩) hmem
        obtain ⟨x, hK, hG⟩ := he.op (show DataW.trod enc P W 0 (fun _ => true) true n e c = some ((elems[i]).1, (elems[i]).2) from hy) hD
        obtain ⟨hb1, hb2, hb3⟩ := World.cells?_some hcs
        have hlen2 : c.length = sz := by rw [← hK.1, he.len]
        refine ⟨x, c, hK, hG, hlen2, fun j u hu2 => ?_⟩
        have hj := (List.getElem?_eq_some_iff.1 hu2).1
        have h3 := hb3 j (by rw [hc]; omega)
        rw [hu2] at h3
        rw [← h3, hc, Addr.add_add]
      have pick : ∀ l, l ≤ len → ∃ xs : List α, xs.length = l ∧ (∀ x ∈ xs, G x) ∧ ∀ j p, xs[j]? = some p → ∃ c, c.length = sz ∧ RdRow W (row p) c ∧ ∀ i u, c[i]? = some u → W.cell? (a.add (j * sz + i)) = some u := by
        intro l
        induction l with
        | zero => exact fun _ => ⟨[], rfl, by simp, fun j p h => by simp at h⟩
        | succ l ih =>
          intro hll
          obtain ⟨xs, h1, h2, h3⟩ := ih (by omega)
          obtain ⟨x, c, q1, q2, q3, q4⟩ := each l (by omega)
          refine ⟨xs ++ [x], by simp [h1], ?_, ?_⟩
          · intro y hy
            rcases List.mem_append.1 hy with hy | hy
            · exact h2 y hy
            · obtain rfl := List.mem_singleton.1 hy
              exact q2
          · intro j p hj
            by_cases hjl : j < xs.length
            · exact h3 j p (by rwa [List.getElem?_append_left hjl] at hj)
            · rw [List.getElem?_append_right (by omega)] at hj
              have : j - xs.length = 0 := by
                have := (List.getElem?_eq_some_iff.1 hj).1
                simpa using this
              rw [this] at hj
              have hjl2 : j = l := by omega
              subst hjl2
              obtain rfl : x = p := by simpa using hj
              exact ⟨c, q3, q1, q4⟩
      obtain ⟨xs, h1, h2, h3⟩ := pick len (Nat.le_refl _)
      subst h1
      refine ⟨xs, .one ?_, ?_, h2⟩
      · obtain ⟨ab, ao, asp⟩ := a
        have at0 : ∀ (j : Nat) (p : α), xs[j]? = some p → ∀ i, i < sz → ∃ u, W.cell? ⟨ab, ao + (j * sz + i), none⟩ = some u ∧ ∀ x, (row p)[i]? = some x → Rd W (fun b => b < W.heap.size) x u := by
          intro j p hj i hi
          obtain ⟨c, c1, c2, c3⟩ := h3 j p hj
          obtain ⟨u, hu2⟩ : ∃ u, c[i]? = some u := ⟨c[i]'(by omega), List.getElem?_eq_getElem _⟩
          have h4 := c3 i u hu2
          refine ⟨u, ?_, fun x hx => c2.2 i x u hx hu2⟩
          by_cases h0 : j * sz + i = 0
          · rw [h0] at h4 ⊢
            have : asp = none := by
              unfold World.cell? at h4
              simp only [Addr.add] at h4
              cases asp with
              | none => rfl
              | some q => simp at h4; split at h4 <;> simp at h4
            subst this
            exact h4
          · unfold Addr.add at h4
            rw [if_neg h0] at h4
            exact h4
        cases xs with
        | nil => exact .nil ..
        | cons x0 xs0 =>
          obtain ⟨u0, hu0, _⟩ := at0 0 x0 rfl 0 hs
          have hab : ab < W.heap.size := by
            unfold World.cell? at hu0
            simp only at hu0
            split at hu0
            · rename_i hh
              exact (Array.getElem?_eq_some_iff.1 hh).1
            · cases hu0
          have e1 : asp = none := by
            obtain ⟨c, c1, c2, c3⟩ := h3 0 x0 rfl
            have h4 := c3 0 (c[0]'(by omega)) (List.getElem?_eq_getElem _)
            simp only [Nat.zero_mul, Nat.add_zero, Addr.add, if_pos] at h4
            unfold World.cell? at h4
            cases asp with
            | none => rfl
            | some q => simp at h4; split at h4 <;> simp at h4
          subst e1
          have hrow : ∀ (i : Nat) (r : List T), ((x0 :: xs0).map row)[i]? = some r → ∃ p, (x0 :: xs0)[i]? = some p ∧ r = row p := by
            intro i r hr
            rw [List.getElem?_map] at hr
            cases hp : (x0 :: xs0)[i]? with
            | none => rw [hp] at hr; cases hr
            | some p => rw [hp] at hr; cases hr; exact ⟨p, rfl, rfl⟩
          have hfin := @Rd.list W (fun b => b < W.heap.size) false sz ((x0 :: xs0).map row) ab ao cap (fun i j => (W.cell? ⟨ab, ao + (i * sz + j), none⟩).getD Go.undef) (by simpa using hl) hab
            (fun i r hr => by obtain ⟨p, _, rfl⟩ := hrow i r hr; exact he.len p)
            (fun i r j x hr hx => by
              obtain ⟨p, hp, rfl⟩ := hrow i r hr
              obtain ⟨u, hu1, _⟩ := at0 i p hp j (by have := (List.getElem?_eq_some_iff.1 hx).1; rw [he.len] at this; exact this)
              simp only [hu1, Option.getD_some])
            (fun i r j x hr hx => by
              obtain ⟨p, hp, rfl⟩ := hrow i r hr
              obtain ⟨u, hu1, hu2⟩ := at0 i p hp j (by have := (List.getElem?_eq_some_iff.1 hx).1; rw [he.len] at this; exact this)
              simp only [hu1, Option.getD_some]
              exact hu2 x hx)
          rwa [List.length_map] at hfin
      have hw1 : (elems.length + rest.length) * P.bytesOf e ≤ reachBytes := by simpa using hw0
      rw [hB] at hw1
      rw [← hlen]
      exact Nat.le_trans (Nat.mul_le_mul_right _ (Nat.le_add_right _ _)) hw1
structure OpnF (P : Program) (fs : List Field) (o sz : Nat) {α : Type} (row : α → List T) (G : α → Prop) : Prop where
  len : ∀ x, (row x).length = sz
  op : ∀ {H : Type} {enc : TypeId × Value → H} {W : World} {fuel : Nat} {cs : List Value} {xs : List (DataW H × List MemPlace)},
    xs.length = fs.length → (∀ (i : Nat) (f : Field), fs[i]? = some f → DataW.trod enc P W 0 (fun _ => true) true fuel f.type ((cs.drop f.offset).take (P.cellsOf f.type)) = xs[i]?) →
    (∀ n ∈ DataW.weightsEach P (fs.map (·.type)) (xs.map (·.1)), n ≤ reachBytes) → cs.length = o + sz → ∃ x, RdRow W (row x) (cs.drop o) ∧ G x
theorem OpnF.one {f : Field} {o sz : Nat} {α : Type} {row : α → List T} {G : α → Prop} (he : Opn P f.type sz row G) (ho : f.offset = o) (hc : P.cellsOf f.type = sz) : OpnF P [f] o sz row G where
  len := he.len
  op := fun {H enc W fuel cs xs} hx h hz hl => by
    match xs, hx with
    | [y], _ =>
      have hy := h 0 f rfl
      rw [ho, hc, List.take_of_length_le (by simp; omega)] at hy
      exact he.op (show _ = some (y.1, y.2) from hy) (fun n hn => hz n (by simp only [List.map_cons, List.map_nil, DataW.weightsEach]; exact List.mem_append_left _ hn))
theorem OpnF.cons {f : Field} {r : List Field} {o sz sz2 : Nat} {α β : Type} {row : α → List T} {row2 : β → List T} {G : α → Prop} {G2 : β → Prop} (he : Opn P f.type sz row G) (ho : f.offset = o) (hc : P.cellsOf f.type = sz) (hr : OpnF P r (o + sz) sz2 row2 G2) :
    OpnF P (f :: r) o (sz + sz2) (fun x : α × β => row x.1 ++ row2 x.2) (fun x => G x.1 ∧ G2 x.2) where
  len := fun x => by rw [List.length_append, he.len, hr.len]
  op := fun {H enc W fuel cs xs} hx h hz hl => by
    match xs, hx with
    | y :: ys, hx =>
      have hl2 : cs.length = o + sz + sz2 := by omega
      have hy := h 0 f rfl
      rw [ho, hc] at hy
      obtain ⟨x, hK, hG⟩ := he.op (show _ = some (y.1, y.2) from hy) (fun n hn => hz n (by simp only [List.map_cons, DataW.weightsEach]; exact List.mem_append_left _ hn))
      obtain ⟨x2, hK2, hG2⟩ := hr.op (xs := ys) (by simpa using hx) (fun i g hg => h (i + 1) g hg) (fun n hn => hz n (by simp only [List.map_cons, DataW.weightsEach]; exact List.mem_append_right _ hn)) hl2
      refine ⟨(x, x2), ?_, hG, hG2⟩
      have := hK.append hK2
      rwa [← List.drop_drop, List.take_append_drop] at this
theorem Opn.struct {fs : Array Field} {sz : Nat} {α β : Type} {row : α → List T} {row2 : β → List T} {G : α → Prop} {G2 : β → Prop} (g : α → β) (hf : OpnF P fs.toList 0 sz row G) (hu : P.underlying t = some (.struct fs)) (hg : ∀ a, row2 (g a) = row a) (hG2 : ∀ a, G a → G2 (g a)) (hlen : ∀ b, (row2 b).length = sz) (hc : P.cellsOf t = sz) :
    Opn P t sz row2 G2 where
  len := hlen
  op := fun {H enc W fuel cs D ps} h hz => by
    obtain ⟨xs, n, _, hx, hl, hm, he⟩ := DataW.trod_struct hu h
    obtain ⟨rfl, _⟩ := Prod.mk.inj hx
    obtain ⟨x, hK, hG⟩ := hf.op (xs := xs) (by simpa using hm) (fun i f hf => he i f (by simpa using hf)) (fun n hn => hz n (by simp only [DataW.weights, hu]; exact hn)) (by omega)
    exact ⟨g x, by rw [hg]; simpa using hK, hG2 x hG⟩
end
theorem each_of {H : Type} {P : Program} {ts : List TypeId} {ds : List (DataW H)} (h : (DataW.weightsEach P ts ds).all (· ≤ reachBytes) = true) {j : Nat} {t : TypeId} {D : DataW H} (ht : ts[j]? = some t) (hd : ds[j]? = some D) : ∀ n ∈ DataW.weights P t D, n ≤ reachBytes := by
  intro n hn
  have := List.all_eq_true.1 h _ (DataW.weights_mem_each ht hd n hn)
  simpa using this
theorem AVrs_of {W : World} : ∀ {ts : List T} {cs : List Value}, RdRow W ts cs → AVr.AVrs (inCx W fun b => b < W.heap.size) (ts.map .t) cs
  | [], [], _ => trivial
  | t :: ts, c :: cs, h => ⟨h.2 0 t c rfl rfl, AVrs_of ⟨by have := h.1; simpa using this, fun j t' v' h1 h2 => h.2 (j + 1) t' v' h1 h2⟩⟩
  | [], _ :: _, h => by have := h.1; simp at this
  | _ :: _, [], h => by have := h.1; simp at this
theorem arg_agg {W : World} {ts : List T} {cs : Array Value} (h : RdRow W ts (Value.agg cs).cells.toList) : AVr (inCx W fun b => b < W.heap.size) (.agg (ts.map .t)) (.agg cs) :=
  ⟨cs.toList, by simp, AVrs_of h⟩
theorem arg_one {W : World} {t : T} {v : Value} (hv : v.cells.toList = [v]) (h : RdRow W [t] v.cells.toList) : AVr (inCx W fun b => b < W.heap.size) (.t t) v := by
  rw [hv] at h
  exact h.2 0 t v rfl rfl
theorem okWide_agg {P : Program} {W : World} {base : Nat} {t : TypeId} {fs : Array Field} {v : Value} (hu : P.underlying t = some (.struct fs)) (h : Value.okWide P W .any base t v) : ∃ cs, v = .agg cs := by
  unfold Value.okWide at h
  rw [hu] at h
  obtain ⟨cs, h, _⟩ := h
  exact ⟨cs, h⟩
theorem out_bool {w w' : World} {D : Dm} {b : Bool} {v : Value} (h : Out w D w' (.t (.bool b)) v) : v = .bool b ∧ Below w.heap.size w w' := by
  obtain ⟨h1, col, _, h2⟩ := h
  refine ⟨?_, h1.os, h1.tape, h1.output, h1.size, fun k hk => h1.block k hk (by simp)⟩
  have h3 : Rd (outCx w D w' col).w (outCx w D w' col).Dp (.bool b) v := h2
  cases h3
  rfl
end Go.Proofs.Ytofiljboaegekab.Am
namespace Go.Proofs.Ytofiljboaegekab.Am
open Go
set_option linter.unusedVariables false
set_option linter.unusedSimpArgs false
set_option maxRecDepth 100000
theorem lG_mk {α : Type} {G : α → Prop} {B : Nat} {xs : List α} (hB : 1 ≤ B) (h : xs.length * B ≤ 140737488351232 ∧ ∀ x ∈ xs, G x) : lG G xs :=
  ⟨Nat.le_trans (Nat.le_mul_of_pos_right _ hB) h.1, h.2⟩
def Stm.row (x : Stm) : List T := [.int .i64 x.last.t, .int .i64 x.last.n, .list false 3 (x.items.map It.row), .list false 4 (x.groups.map Gr.row)]
theorem opn_int : Opn Try.prog 3 1 (fun x : Int => [T.int .i64 x]) (fun x => (Lit.int .i64 x).wf = true) := Opn.int Try.underlying3
theorem opn_Id : Opn Try.prog 68 2 Idt.row (fun _ => True) := by
  refine Opn.struct (sz := 1 + 1) (fun (a : Int × Int) => ⟨a.1, a.2⟩) (OpnF.cons opn_int rfl (by kernel_rfl) (OpnF.one opn_int rfl (by kernel_rfl))) Try.underlying68 ?_ ?_ (fun _ => rfl) (by kernel_rfl)
  · exact fun _ => rfl
  · exact (fun _ _ => trivial)
theorem opn_Pair : Opn Try.prog 164 2 Pr.row Pr.G := by
  refine Opn.struct (sz := 1 + 1) (fun (a : ByteArray × ByteArray) => ⟨a.1, a.2⟩) (OpnF.cons (Opn.string Try.underlying9) rfl (by kernel_rfl) (OpnF.one (Opn.string Try.underlying9) rfl (by kernel_rfl))) Try.underlying164 ?_ ?_ (fun _ => rfl) (by kernel_rfl)
  · exact fun _ => rfl
  · exact (fun _ h => h)
theorem Opn.weaken {P : Program} {t : TypeId} {sz : Nat} {α : Type} {row : α → List T} {G G' : α → Prop} (h : Opn P t sz row G) (hg : ∀ x, G x → G' x) : Opn P t sz row G' :=
  ⟨h.len, fun h1 h2 => by obtain ⟨x, a, b⟩ := h.op h1 h2; exact ⟨x, a, hg x b⟩⟩
theorem opn_Pairs : Opn Try.prog 85 1 (fun xs : List Pr => [T.list false 2 (xs.map Pr.row)]) (lG Pr.G) :=
  (Opn.slice opn_Pair Try.underlying85 (by kernel_rfl) (by omega) (B := 32) (by kernel_rfl)).weaken fun _ => lG_mk (by omega)
theorem opn_Item : Opn Try.prog 196 3 It.row It.G := by
  refine Opn.struct (sz := 2 + 1) (fun (a : Idt × List Pr) => ⟨a.1, a.2⟩) (OpnF.cons opn_Id rfl (by kernel_rfl) (OpnF.one opn_Pairs rfl (by kernel_rfl))) Try.underlying196 ?_ ?_ (fun _ => rfl) (by kernel_rfl)
  · exact fun _ => rfl
  · exact (fun _ h => h.2)
theorem opn_Items : Opn Try.prog 69 1 (fun xs : List It => [T.list false 3 (xs.map It.row)]) (lG It.G) :=
  (Opn.slice opn_Item Try.underlying69 (by kernel_rfl) (by omega) (B := 40) (by kernel_rfl)).weaken fun _ => lG_mk (by omega)
theorem opn_Wait : Opn Try.prog 240 5 Wt.row Wt.G := by
  refine Opn.struct (sz := 2 + (1 + (1 + 1))) (fun (a : Idt × ByteArray × Int × Int) => ⟨a.1, a.2.1, a.2.2.1, a.2.2.2⟩) (OpnF.cons opn_Id rfl (by kernel_rfl) (OpnF.cons (Opn.string Try.underlying9) rfl (by kernel_rfl) (OpnF.cons opn_int rfl (by kernel_rfl) (OpnF.one opn_int rfl (by kernel_rfl))))) Try.underlying240 ?_ ?_ (fun _ => rfl) (by kernel_rfl)
  · exact fun _ => rfl
  · exact (fun _ h => h.2.1)
theorem opn_Waits : Opn Try.prog 198 1 (fun xs : List Wt => [T.list false 5 (xs.map Wt.row)]) (lG Wt.G) :=
  (Opn.slice opn_Wait Try.underlying198 (by kernel_rfl) (by omega) (B := 48) (by kernel_rfl)).weaken fun _ => lG_mk (by omega)
theorem opn_Group : Opn Try.prog 200 4 Gr.row Gr.G := by
  refine Opn.struct (sz := 1 + (2 + 1)) (fun (a : ByteArray × Idt × List Wt) => ⟨a.1, a.2.1, a.2.2⟩) (OpnF.cons (Opn.string Try.underlying9) rfl (by kernel_rfl) (OpnF.cons opn_Id rfl (by kernel_rfl) (OpnF.one opn_Waits rfl (by kernel_rfl)))) Try.underlying200 ?_ ?_ (fun _ => rfl) (by kernel_rfl)
  · exact fun _ => rfl
  · exact (fun _ h => ⟨h.1, h.2.2⟩)
theorem opn_Groups : Opn Try.prog 70 1 (fun xs : List Gr => [T.list false 4 (xs.map Gr.row)]) (lG Gr.G) :=
  (Opn.slice opn_Group Try.underlying70 (by kernel_rfl) (by omega) (B := 56) (by kernel_rfl)).weaken fun _ => lG_mk (by omega)
theorem opn_Stream : Opn Try.prog 72 4 Stm.row Stm.G := by
  refine Opn.struct (sz := 2 + (1 + 1)) (fun (a : Idt × List It × List Gr) => ⟨a.1, a.2.1, a.2.2⟩) (OpnF.cons opn_Id rfl (by kernel_rfl) (OpnF.cons opn_Items rfl (by kernel_rfl) (OpnF.one opn_Groups rfl (by kernel_rfl)))) Try.underlying72 ?_ ?_ (fun _ => rfl) (by kernel_rfl)
  · exact fun _ => rfl
  · exact (fun _ h => h.2)
end Go.Proofs.Ytofiljboaegekab.Am
