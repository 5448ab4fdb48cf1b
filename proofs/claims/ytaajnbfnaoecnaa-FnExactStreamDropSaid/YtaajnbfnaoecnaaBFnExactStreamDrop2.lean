/- Texts of this claim, packed: walks and laws that its row stands on. Each states its own conditions. -/
import Derived.Below
import Derived.ChangeArms
import Derived.ChangeOld
import Derived.ChangeSlices
import Derived.DataElems
import Derived.Deep.LoopGhost
import Derived.Deep.RegionLaw
import Derived.Lib.SliceRun
import Derived.Lib.Walk
import Derived.OpenShut
import Derived.ProofKit
import Derived.Shelf.RegionOpenPlain
import Derived.ShutString
import Derived.SizedLaws
import Derived.Test.YtaajnbfnaoecnaaBFnExactStreamDrop1
namespace Go.Proofs.Ytaajnbfnaoecnaa.Am
open Go
set_option linter.unusedVariables false
def sw (m n k : Nat) : Nat := if k = m then n else if k = n then m else k
theorem sw_sw (m n k : Nat) : sw m n (sw m n k) = k := by
  unfold sw
  by_cases h1 : k = m
  · subst h1
    by_cases h2 : n = k <;> simp [h2]
  · by_cases h2 : k = n
    · subst h2; simp [h1]
    · simp [h1, h2]
theorem sw_eq {m n k k' : Nat} : sw m n k = k' ↔ k = sw m n k' := ⟨fun h => by rw [← h, sw_sw], fun h => by rw [h, sw_sw]⟩
theorem sw_inj {m n k k' : Nat} (h : sw m n k = sw m n k') : k = k' := by rw [← sw_sw m n k, h, sw_sw]
theorem sw_ge {m n k p : Nat} (hm : m < p) (hn : n < p) (hk : p ≤ k) : sw m n k = k := by
  unfold sw; rw [if_neg (by omega), if_neg (by omega)]
def AV.ren (m n : Nat) : AV → AV
  | .refw k => .refw (sw m n k)
  | .ref k o l => .ref (sw m n k) o l
  | .ptr k i j => .ptr (sw m n k) i j
  | .ls x (some (k, i, j)) => .ls x (some (sw m n k, i, j))
  | .agg cs => .agg (rens m n cs)
  | .tup cs => .tup (rens m n cs)
  | .fn f cs => .fn f (rens m n cs)
  | v => v
where rens (m n : Nat) : List AV → List AV
  | [] => []
  | v :: l => v.ren m n :: rens m n l
def Blk.ren (m n : Nat) : Blk → Blk
  | .box cs => .box (AV.ren.rens m n cs)
  | .rows sz rs => .rows sz rs
def hren (m n : Nat) : Hp → Hp
  | [] => []
  | (k, b) :: h => hput (hren m n h) (sw m n k) (b.ren m n)
def St.ren (s : St) (m n : Nat) : St := ⟨AV.ren.rens m n s.tm, hren m n s.hp⟩
theorem hget_hren (m n : Nat) (h : Hp) (k : Nat) : hget (hren m n h) k = (hget h (sw m n k)).map (Blk.ren m n) := by
  induction h with
  | nil => rfl
  | cons p h ih =>
    obtain ⟨k0, b⟩ := p
    simp only [hren, hget, hget_hput]
    by_cases e : sw m n k0 = k
    · rw [if_pos e, if_pos (sw_eq.1 e)]; rfl
    · rw [if_neg e, if_neg (fun e' => e (sw_eq.2 e')), ih]
theorem gt_rens (m n : Nat) (l : List AV) (i : Nat) : gt (AV.ren.rens m n l) i = (gt l i).ren m n := by
  induction l generalizing i with
  | nil => simp [AV.ren.rens, gt, AV.ren]
  | cons a l ih => cases i <;> simp [AV.ren.rens, gt, ih]
theorem rens_length (m n : Nat) (l : List AV) : (AV.ren.rens m n l).length = l.length := by
  induction l with
  | nil => rfl
  | cons a l ih => simp [AV.ren.rens, ih]
def ρR (m n : Nat) (ρ : Nat → Option Nat) : Nat → Option Nat := fun k => ρ (sw m n k)
def colR (m n : Nat) (col : Col) : Col := fun b => match col b with
  | some (k, i, j) => some (sw m n k, i, j)
  | none => none
section
variable {B : Base} {ρ : Nat → Option Nat} {col : Col} {s : St} {a : Act} {w : World} {m n : Nat}
theorem ren_Dp {hp : Hp} {b : Nat} (h : (cx B ρ col w hp).Dp b) : (cx B (ρR m n ρ) (colR m n col) w (hren m n hp)).Dp b :=
  ⟨h.1, h.2.1, by have := h.2.2.1; simp only [colR, this], fun k => h.2.2.2 (sw m n k)⟩
theorem ren_Dl (hm : m < pin) (hn : n < pin) {hp : Hp} {b : Nat} (h : (cx B ρ col w hp).Dl b) : (cx B (ρR m n ρ) (colR m n col) w (hren m n hp)).Dl b := by
  refine ⟨h.1, fun k => h.2.1 (sw m n k), fun i j e => ?_⟩
  simp only [colR] at e
  split at e
  · rename_i k i' j' hc
    simp only [Option.some.injEq, Prod.mk.injEq] at e
    obtain ⟨e1, rfl, rfl⟩ := e
    have : k = limKey := by rw [sw_eq.1 e1]; exact sw_ge (p := pin) hm hn (by decide)
    subst this
    exact h.2.2 _ _ hc
  · cases e
mutual
theorem AVr.ren (hm : m < pin) (hn : n < pin) {hp : Hp} : ∀ (x : AV) (v : Value), AVr (cx B ρ col w hp) x v → AVr (cx B (ρR m n ρ) (colR m n col) w (hren m n hp)) (x.ren m n) v
  | .t x, v, hx => Rd.mono hx (fun _ _ => rfl) (fun b hb => ren_Dp hb)
  | .own _, _, hx => hx
  | .ls x none, v, hx => ⟨Rd.mono hx.1 (fun _ _ => rfl) (fun b hb => ren_Dl hm hn hb), trivial⟩
  | .ls x (some (k, i, j)), v, hx => by
    refine ⟨Rd.mono hx.1 (fun _ _ => rfl) (fun b hb => ren_Dl hm hn hb), ?_⟩
    obtain ⟨b, sz, rs, t1, t2, t3, t4, t5⟩ := hx.2
    have t2' : hget hp k = some (.rows sz rs) := t2
    exact ⟨b, sz, rs, by show ρ (sw m n (sw m n k)) = _; rw [sw_sw]; exact t1, by show hget (hren m n hp) _ = _; rw [hget_hren, sw_sw, t2']; rfl, t3, t4, t5⟩
  | .nils _, _, hx => hx
  | .agg cs, v, ⟨vs, e, hx⟩ => ⟨vs, e, AVrs.ren hm hn cs vs hx⟩
  | .tup cs, v, ⟨vs, e, hx⟩ => ⟨vs, e, AVrs.ren hm hn cs vs hx⟩
  | .refw k, v, ⟨sz, rs, h1, h2⟩ => by
    have h1' : hget hp k = some (.rows sz rs) := h1
    refine ⟨sz, rs, by show hget (hren m n hp) _ = _; rw [hget_hren, sw_sw, h1']; rfl, ?_⟩
    rcases h2 with ⟨b, cap, e, q, g1, g2, g3, g4, g5⟩ | h2
    · exact .inl ⟨b, cap, e, q, by show ρ (sw m n (sw m n k)) = _; rw [sw_sw]; exact g1, g2, g3, g4, g5⟩
    · exact .inr h2
  | .ref k o l, v, ⟨sz, rs, h1, h0, h2⟩ => by
    have h1' : hget hp k = some (.rows sz rs) := h1
    refine ⟨sz, rs, by show hget (hren m n hp) _ = _; rw [hget_hren, sw_sw, h1']; rfl, h0, ?_⟩
    rcases h2 with ⟨b, cap, g1, g2, g3⟩ | h2
    · exact .inl ⟨b, cap, by show ρ (sw m n (sw m n k)) = _; rw [sw_sw]; exact g1, g2, g3⟩
    · exact .inr h2
  | .ptr k i j, v, ⟨b, h1, h2⟩ => by
    refine ⟨b, by show ρ (sw m n (sw m n k)) = _; rw [sw_sw]; exact h1, ?_⟩
    have e : hget (cx B (ρR m n ρ) (colR m n col) w (hren m n hp)).hp (sw m n k) = (hget hp k).map (Blk.ren m n) := by show hget (hren m n hp) _ = _; rw [hget_hren, sw_sw]
    rw [e]
    have h2' : match hget hp k with
      | some (.box _) => v = .pointer (some ⟨b, j, none⟩) ∧ i = 0
      | some (.rows sz _) => v = .pointer (some ⟨b, i * sz + j, none⟩)
      | none => False := h2
    revert h2'
    cases hget hp k with
    | none => exact id
    | some blk => cases blk <;> exact id
  | .rop false row j, v, ⟨b, off, h1, h2, h3⟩ => by
    simp only [Bool.false_eq_true, if_false] at h2 h3
    refine ⟨b, off, h1, by simpa using ren_Dp h2, fun q x hq => ?_⟩
    obtain ⟨u, h4, h5⟩ := h3 q x hq
    exact ⟨u, h4, by simp only [Bool.false_eq_true, if_false]; exact h5.mono (fun _ _ => rfl) (fun b hb => ren_Dp hb)⟩
  | .rop true row j, v, ⟨b, off, h1, h2, h3⟩ => by
    simp only [if_true] at h2 h3
    refine ⟨b, off, h1, by simpa using ren_Dl hm hn h2, fun q x hq => ?_⟩
    obtain ⟨u, h4, h5⟩ := h3 q x hq
    exact ⟨u, h4, by simp only [if_true]; exact h5.mono (fun _ _ => rfl) (fun b hb => ren_Dl hm hn hb)⟩
  | .fn f cap, v, ⟨vs, e, hx⟩ => ⟨vs, e, AVrs.ren hm hn cap vs hx⟩
  | .skip, _, hx => hx
  | .undef, _, _ => trivial
theorem AVrs.ren (hm : m < pin) (hn : n < pin) {hp : Hp} : ∀ (xs : List AV) (vs : List Value), AVr.AVrs (cx B ρ col w hp) xs vs → AVr.AVrs (cx B (ρR m n ρ) (colR m n col) w (hren m n hp)) (AV.ren.rens m n xs) vs
  | [], [], _ => trivial
  | x :: xs, v :: vs, hx => ⟨AVr.ren hm hn x v hx.1, AVrs.ren hm hn xs vs hx.2⟩
  | [], _ :: _, hx => hx
  | _ :: _, [], hx => hx
end
theorem SimR.ren (h : SimR B ρ col s a w) (hm : m < pin) (hn : n < pin) : SimR B (ρR m n ρ) (colR m n col) (s.ren m n) a w := by
  refine ⟨h.defers, by simp [St.ren, rens_length, h.len], h.keep, fun i => ?_, fun k b hb => ?_, fun k hk => ?_, fun k k' b h1 h2 => sw_inj (h.inj _ _ b h1 h2), fun k b hb => ?_, fun k b hb => h.lab _ b hb, fun b p hb => ?_, fun k hk => ?_, ?_⟩
  · simp only [St.ren, gt_rens]
    exact AVr.ren hm hn _ _ (h.tm i)
  · have hb1 : hget (hren m n s.hp) k = some b := hb
    rw [hget_hren] at hb1
    obtain ⟨b0, e0, rfl⟩ := Option.map_eq_some_iff.1 hb1
    have := h.hp _ b0 e0
    cases b0 with
    | box cs =>
      obtain ⟨g, vs, e, fr, e1, e2, e3, e4⟩ := this
      exact ⟨g, vs, e, fr, e1, e2, e3, AVrs.ren hm hn cs vs e4⟩
    | rows sz rs =>
      obtain ⟨r1, r2⟩ := this
      refine ⟨r1, ?_⟩
      rcases r2 with ⟨g, cells, e, fr, u, q1, q2, q3, q4, q5, q6⟩ | ⟨q1, q2⟩
      · refine .inl ⟨g, cells, e, fr, u, q1, q2, q3, q4, q5, fun i r j x hi hj => Own.mono (q6 i r j x hi hj) (fun _ _ => rfl) (fun b hb => ren_Dp hb) (fun _ _ => rfl) (fun b hb => ?_)⟩
        simp only [colR, hb, sw_sw]
      · exact .inr ⟨q1, q2⟩
  · have hk1 : hget (hren m n s.hp) k = none := hk
    rw [hget_hren, Option.map_eq_none_iff] at hk1
    exact h.dom _ hk1
  · have := h.sep _ b hb
    simp only [colR, this]
  · simp only [colR] at hb
    split at hb
    · rename_i hc; exact h.colb b _ hc
    · cases hb
  · show ρ (sw m n k) = _
    rw [sw_ge hm hn hk]; exact h.pins k hk
  · show hget (hren m n s.hp) limKey = none
    rw [hget_hren, sw_ge (p := pin) hm hn (by decide), h.nolim]; rfl
theorem LeS.ren (s : St) (hm : m < pin) (hn : n < pin) : LeS s (s.ren m n) := fun B a w ⟨ρ, col, h⟩ => ⟨_, _, h.ren hm hn⟩
def St.rens (s : St) : List (Nat × Nat) → St
  | [] => s
  | p :: l => (s.ren p.1 p.2).rens l
theorem LeS.rens : ∀ (l : List (Nat × Nat)) (s : St), (l.all fun p => decide (p.1 < pin) && decide (p.2 < pin)) = true → LeS s (s.rens l)
  | [], s, _ => LeS.refl s
  | p :: l, s, h => by
    simp only [List.all_cons, Bool.and_eq_true, decide_eq_true_eq] at h
    exact (LeS.ren s h.1.1 h.1.2).trans (LeS.rens l _ h.2)
end
def emp (h : Hp) : AV → AV
  | .refw k => match hget h k with
    | some (.rows sz []) => .t (.list false sz [])
    | _ => .refw k
  | .nils sz => .t (.list false sz [])
  | x => x
theorem emp_r {c : Cx} {x : AV} {v : Value} (h : AVr c x v) : AVr c (emp c.hp x) v := by
  unfold emp
  split
  · rename_i k
    split
    · rename_i sz hk
      obtain ⟨sz', rs, h1, h2⟩ := h
      rw [hk] at h1; cases h1
      rcases h2 with ⟨b, cap, e, q, g1, rfl, _⟩ | ⟨_, a, rfl⟩
      · exact .nil ..
      · exact .nil ..
    · exact h
  · have h' : v = .slice none 0 0 := h
    subst h'
    exact .nil ..
  · exact h
def empT (s : St) : List Nat → St
  | [] => s
  | i :: l => empT ⟨pt s.tm i (emp s.hp (gt s.tm i)), s.hp⟩ l
theorem pt_len : ∀ (l : List AV) (i : Nat) (v : AV), (pt l i v).length = l.length
  | [], _, _ => rfl
  | a :: l, 0, v => rfl
  | a :: l, i + 1, v => by simp [pt, pt_len l i v]
theorem emp_le (s : St) (i : Nat) : LeS s ⟨pt s.tm i (emp s.hp (gt s.tm i)), s.hp⟩ := fun B a w ⟨ρ, col, h⟩ => ⟨ρ, col, ⟨h.defers, by rw [pt_len]; exact h.len, h.keep, fun j => by
    show AVr (cx B ρ col w s.hp) (gt (pt s.tm i (emp s.hp (gt s.tm i))) j) _
    rw [gt_pt]
    split
    · rename_i e; rw [e.1]; exact emp_r (h.tm i)
    · exact h.tm j, h.hp, h.dom, h.inj, h.sep, h.lab, h.colb, h.pins, h.nolim⟩⟩
theorem empT_le : ∀ (l : List Nat) (s : St), LeS s (empT s l)
  | [], s => LeS.refl s
  | i :: l, s => LeS.trans (emp_le s i) (empT_le l _)
theorem LoopW.empT {body : (Exit → St → Prop) → St → Prop} {K : Exit → St → Prop} {s s0 : St} (l : List Nat) (h : Am.empT s l = s0) (hl : LoopW body K s0) : LoopW body K s := hl.le (h ▸ empT_le l s)
def nilT (s : St) : List (Nat × Nat) → Option St
  | [] => some s
  | (k, j) :: l => match hget s.hp k with
    | some (.box cs) => match gt cs j with
      | .nils sz => nilT ⟨s.tm, hput s.hp k (.box (pt cs j (.t (.list false sz []))))⟩ l
      | _ => none
    | _ => none
theorem nilT_le : ∀ {l : List (Nat × Nat)} {s s' : St}, nilT s l = some s' → LeS s s'
  | [], s, s', h => by simp [nilT] at h; subst h; exact LeS.refl _
  | (k, j) :: l, s, s', h => by
    unfold nilT at h
    split at h
    · rename_i cs hk
      split at h
      · rename_i sz hz
        refine LeS.trans ?_ (nilT_le h)
        rintro B a w ⟨ρ, col, hs⟩
        have hgp : ∀ n, hget (hput s.hp k (.box (pt cs j (.t (.list false sz []))))) n = if k = n then some (.box (pt cs j (.t (.list false sz [])))) else hget s.hp n := by
          intro n; rw [hget_hput]
        have hle : (cx B ρ col w s.hp).le (cx B ρ col w (hput s.hp k (.box (pt cs j (.t (.list false sz [])))))) fun _ => True := by
          refine ⟨fun _ _ _ => rfl, fun n b _ hb => ?_, fun b hb => ⟨hb, rfl⟩, fun b hb => ⟨hb, rfl⟩, fun _ _ _ _ => rfl, fun _ _ _ _ _ => rfl⟩
          have hb' : hget s.hp n = some b := hb
          show ∃ b', hget (hput s.hp k (.box (pt cs j (.t (.list false sz []))))) n = some b' ∧ _
          rw [hgp]
          split
          · rename_i e; subst e; rw [hk] at hb'; cases hb'; exact ⟨_, rfl, trivial⟩
          · exact ⟨b, hb', blk_sim_refl b⟩
        refine ⟨ρ, col, ⟨hs.defers, hs.len, hs.keep, fun i => AVr.mono hle _ _ (hs.tm i), fun n b hb => ?_, fun n hn => ?_, hs.inj, hs.sep, hs.lab, hs.colb, hs.pins, by rw [hgp, if_neg (fun e => by rw [e, hs.nolim] at hk; cases hk), hs.nolim]⟩⟩
        · have hb1 := hb
          simp only at hb1
          rw [hgp] at hb1
          split at hb1
          · rename_i e; subst e; cases hb1
            obtain ⟨b, vs, e, fr, f1, f2, f3, f4⟩ := hs.hp k _ hk
            refine ⟨b, vs, e, fr, f1, f2, f3, AVrs_pt (AVrs.mono hle _ _ f4) (fun u hu => ?_)⟩
            rw [hz] at hu
            have hu' : u = .slice none 0 0 := hu
            subst hu'
            exact .nil ..
          · exact (hs.hp n b hb1).mono hle rfl (fun _ _ => rfl) (fun _ _ _ h => ⟨h, rfl⟩)
        · have hn1 := hn
          simp only at hn1
          rw [hgp] at hn1
          split at hn1
          · cases hn1
          · exact hs.dom n hn1
      · cases h
    · cases h
theorem LoopW.nilT {body : (Exit → St → Prop) → St → Prop} {K : Exit → St → Prop} {s s0 : St} (l : List (Nat × Nat)) (h : Am.nilT s l = some s0) (hl : LoopW body K s0) : LoopW body K s := hl.le (nilT_le h)
attribute [go_sem] emp empT nilT sw AV.ren AV.ren.rens Blk.ren hren St.ren St.rens shareC shareCs shareV shareVs shareR
end Go.Proofs.Ytaajnbfnaoecnaa.Am
namespace Go.Proofs.Ytaajnbfnaoecnaa.Am
open Go
set_option linter.unusedVariables false
def mixR (new old : List (List T)) (i : Nat) : List (List T) := new.take i ++ old.drop i
theorem mix_0 (new old : List (List T)) : mixR new old 0 = old := by simp [mixR]
theorem mix_all {new old : List (List T)} (h : new.length = old.length) : mixR new old old.length = new := by simp [mixR, ← h]
theorem mix_len {new old : List (List T)} {i : Nat} (h : new.length = old.length) (hi : i ≤ old.length) : (mixR new old i).length = old.length := by simp [mixR]; omega
theorem mix_getD {new old : List (List T)} {i : Nat} (h : new.length = old.length) (hi : i < old.length) : (mixR new old i).getD i [] = old.getD i [] := by
  have h1 : (new.take i).length = i := by simp; omega
  simp only [mixR, List.getD_eq_getElem?_getD]
  rw [List.getElem?_append_right (by omega), h1, Nat.sub_self]
  simp
theorem mix_set {new old : List (List T)} {i : Nat} (h : new.length = old.length) (hi : i < old.length) : (mixR new old i).set i (new.getD i []) = mixR new old (i + 1) := by
  have h1 : (new.take i).length = i := by simp; omega
  simp only [mixR]
  rw [List.set_append_right _ _ (by omega), h1, Nat.sub_self, List.take_succ_eq_append_getElem (by omega), List.append_assoc]
  congr 1
  rw [List.drop_eq_getElem_cons hi, List.set_cons_zero]
  simp [List.getD_eq_getElem?_getD, List.getElem?_eq_getElem (show i < new.length by omega)]
theorem set_getD {l : List (List T)} {i : Nat} (h : i < l.length) (r : List T) : (l.set i r).getD i [] = r := by
  simp [List.getD_eq_getElem?_getD, h]
def wSum {α : Type} (w : α → Nat) (l : List α) : Nat := (l.map w).sum
def wAll {α : Type} (w : α → Nat) (l : List α) : Nat := l.length + wSum w l
theorem wSum_take {α : Type} (w : α → Nat) (l : List α) {i : Nat} (h : i < l.length) : wSum w (l.take (i + 1)) = wSum w (l.take i) + w l[i] := by
  rw [List.take_succ_eq_append_getElem h]; unfold wSum; rw [List.map_append, List.sum_append]; simp only [List.map_cons, List.map_nil, List.sum_cons, List.sum_nil, Nat.add_zero]
theorem wSum_le {α : Type} (w : α → Nat) (l : List α) (i : Nat) : wSum w (l.take i) ≤ wSum w l := by
  have : l = l.take i ++ l.drop i := (List.take_append_drop i l).symm
  have h2 : wSum w l = wSum w (l.take i) + wSum w (l.drop i) := by
    conv => lhs; rw [this]
    unfold wSum; rw [List.map_append, List.sum_append]
  omega
theorem wSum_cons {α : Type} (w : α → Nat) (x : α) (l : List α) : wSum w (x :: l) = w x + wSum w l := by simp [wSum]
theorem wSum_mem {α : Type} (w : α → Nat) {l : List α} {x : α} (h : x ∈ l) : w x ≤ wSum w l := by
  induction l with
  | nil => cases h
  | cons y l ih =>
    rw [wSum_cons]
    rcases List.mem_cons.1 h with rfl | h
    · omega
    · have := ih h; omega
theorem wSum_len {α : Type} {w : α → Nat} (h : ∀ x, 1 ≤ w x) (l : List α) : l.length ≤ wSum w l := by
  induction l with
  | nil => exact Nat.zero_le _
  | cons y l ih => rw [wSum_cons, List.length_cons]; have := h y; omega
def mkAll {α : Type} (m : α → Int → α) (w : α → Nat) : List α → Int → List α
  | [], _ => []
  | x :: xs, k => m x k :: mkAll m w xs (k + w x)
theorem mkAll_len {α : Type} (m : α → Int → α) (w : α → Nat) : ∀ (xs : List α) (k : Int), (mkAll m w xs k).length = xs.length
  | [], _ => rfl
  | x :: xs, k => by simp [mkAll, mkAll_len m w xs]
theorem mkAll_get {α : Type} (m : α → Int → α) (w : α → Nat) : ∀ (xs : List α) (k : Int) (i : Nat) (h : i < xs.length), (mkAll m w xs k)[i]'(by rw [mkAll_len]; exact h) = m xs[i] (k + wSum w (xs.take i))
  | x :: xs, k, 0, _ => by simp [mkAll, wSum]
  | x :: xs, k, i + 1, h => by
    simp only [mkAll, List.getElem_cons_succ, List.take_succ_cons, wSum_cons]
    rw [mkAll_get m w xs _ i (by simpa using h)]
    congr 1
    omega
theorem mkAll_getD {α : Type} (f : α → List T) (m : α → Int → α) (w : α → Nat) (xs : List α) (k : Int) {i : Nat} (h : i < xs.length) : ((mkAll m w xs k).map f).getD i [] = f (m xs[i] (k + wSum w (xs.take i))) := by
  rw [row_getD f _ (by rw [mkAll_len]; exact h), mkAll_get m w xs k i h]
end Go.Proofs.Ytaajnbfnaoecnaa.Am
namespace Go.Proofs.Ytaajnbfnaoecnaa.Am
open Go
@[ext] structure Pr where
  k : ByteArray
  v : ByteArray
deriving DecidableEq
@[ext] structure Idt where
  t : Int
  n : Int
deriving DecidableEq
@[ext] structure It where
  id : Idt
  fields : List Pr
deriving DecidableEq
@[ext] structure Wt where
  id : Idt
  who : ByteArray
  at' : Int
  tm : Int
deriving DecidableEq
@[ext] structure Gr where
  name : ByteArray
  last : Idt
  waits : List Wt
deriving DecidableEq
@[ext] structure Stm where
  last : Idt
  items : List It
  groups : List Gr
deriving DecidableEq
def Pr.row (x : Pr) : List T := [.str x.k, .str x.v]
def It.row (x : It) : List T := [.int .i64 x.id.t, .int .i64 x.id.n, .list false 2 (x.fields.map Pr.row)]
def Wt.row (x : Wt) : List T := [.int .i64 x.id.t, .int .i64 x.id.n, .str x.who, .int .i64 x.at', .int .i64 x.tm]
def Gr.row (x : Gr) : List T := [.str x.name, .int .i64 x.last.t, .int .i64 x.last.n, .list false 5 (x.waits.map Wt.row)]
def It.rowO (x : It) : List T := [.int .i64 x.id.t, .int .i64 x.id.n, .list true 2 (x.fields.map Pr.row)]
def Gr.rowO (x : Gr) : List T := [.str x.name, .int .i64 x.last.t, .int .i64 x.last.n, .list true 5 (x.waits.map Wt.row)]
def It.sm (x : It) : Prop := x.fields.length < 4611686018427387904
def Gr.sm (x : Gr) : Prop := x.waits.length < 4611686018427387904
def Stm.sm (x : Stm) : Prop := x.items.length < 4611686018427387904 ∧ x.groups.length < 4611686018427387904 ∧ (∀ i ∈ x.items, i.sm) ∧ ∀ g ∈ x.groups, g.sm
def cutM (n : Int) (w : Nat) : Int := if n < w then -1 else n - w
theorem cutM_lt (n : Int) (w : Nat) : cutM n w < 0 ↔ n < w := by unfold cutM; split <;> omega
theorem cutM_ge {n : Int} {w : Nat} (h : ¬ n < w) : cutM n w = n - w := by simp [cutM, h]
def Pr.w (x : Pr) : Nat := x.k.size + x.v.size
def It.w (x : It) : Nat := wAll Pr.w x.fields
def Wt.w (x : Wt) : Nat := x.who.size
def Gr.w (x : Gr) : Nat := x.name.size + wAll Wt.w x.waits
def Stm.w (x : Stm) : Nat := wAll It.w x.items + wAll Gr.w x.groups
def ts (l : List T) : List AV := l.map .t
abbrev Pr.av (x : Pr) : AV := .agg [.t (.str x.k), .t (.str x.v)]
abbrev Idt.av (x : Idt) : AV := .agg [I x.t, I x.n]
abbrev It.av (x : It) : AV := .agg [I x.id.t, I x.id.n, .t (.list false 2 (x.fields.map Pr.row))]
abbrev Wt.av (x : Wt) : AV := .agg [I x.id.t, I x.id.n, .t (.str x.who), I x.at', I x.tm]
abbrev Gr.av (x : Gr) : AV := .agg [.t (.str x.name), I x.last.t, I x.last.n, .t (.list false 5 (x.waits.map Wt.row))]
abbrev Stm.av (x : Stm) : AV := .agg [I x.last.t, I x.last.n, .t (.list false 3 (x.items.map It.row)), .t (.list false 4 (x.groups.map Gr.row))]
theorem bytesEq_iff (a b : ByteArray) : bytesEq a b = decide (a = b) := by
  unfold bytesEq
  rw [ByteArray.toList_eq, ByteArray.toList_eq]
  obtain ⟨⟨x⟩⟩ := a
  obtain ⟨⟨y⟩⟩ := b
  by_cases h : x = y
  · subst h; simp
  · have h1 : (x == y) = false := by simpa using h
    simp [h, h1]
theorem mk_rows {α : Type} (f : α → List T) (h : ∀ x, (f x).map (T.mk false) = f x) (l : List α) : (l.map f).map (List.map (T.mk false)) = l.map f := by
  rw [List.map_map]
  exact List.map_congr_left fun x _ => h x
theorem Pr.mk_rows (l : List Pr) : (l.map Pr.row).map (List.map (T.mk false)) = l.map Pr.row := Am.mk_rows _ (fun _ => rfl) l
theorem Wt.mk_rows (l : List Wt) : (l.map Wt.row).map (List.map (T.mk false)) = l.map Wt.row := Am.mk_rows _ (fun _ => rfl) l
theorem It.mk_rows (l : List It) : (l.map It.row).map (List.map (T.mk false)) = l.map It.row := Am.mk_rows _ (fun x => by simp only [It.row, List.map_cons, List.map_nil, T.mk_list, T.mk_int, Pr.mk_rows]) l
theorem Gr.mk_rows (l : List Gr) : (l.map Gr.row).map (List.map (T.mk false)) = l.map Gr.row := Am.mk_rows _ (fun x => by simp only [Gr.row, List.map_cons, List.map_nil, T.mk_list, T.mk_int, T.mk_str, Wt.mk_rows]) l
attribute [go_sem] bytesEq_iff Pr.mk_rows Wt.mk_rows It.mk_rows Gr.mk_rows
end Go.Proofs.Ytaajnbfnaoecnaa.Am
namespace Go.Proofs.Ytaajnbfnaoecnaa.Am
open Go
set_option maxRecDepth 100000
set_option linter.unusedSimpArgs false
set_option linter.unusedVariables false
def dig (n : Nat) : ByteArray := ⟨#[UInt8.ofNat (IntKind.u8.wrap (48 + (n : Int))).toNat]⟩
def mtL (n : Nat) (out : ByteArray) : ByteArray := if h : n = 0 then out else mtL (n / 10) (dig (n % 10) ++ out)
termination_by n
decreasing_by omega
theorem mtL_pos {n : Nat} (h : 0 < n) (out : ByteArray) : mtL n out = mtL (n / 10) (dig (n % 10) ++ out) := by rw [mtL, dif_neg (by omega)]
theorem mtL_0 (out : ByteArray) : mtL 0 out = out := by rw [mtL, dif_pos rfl]
def mt (k : Int) : ByteArray := if k ≤ 0 then "m0".toUTF8 else "m".toUTF8 ++ mtL k.toNat .empty
theorem p_markText : Plain Try.prog 86 := ⟨_, Try.func86, rfl, by decide⟩
theorem s_markText (k : Int) (hk : k < 1000000000000000000) : Spec Try.prog 86 [I k] (fun r => r = .t (.str (mt k))) := by
  refine Spec.of tysOk mixed Try.func86 rfl (by decide) ?_
  simp -implicitDefEqProofs only [go_sem, Try.f86]
  refine BrA_i (fun h => ?_) (fun h => ?_) <;> simp -implicitDefEqProofs only [go_sem]
  · have h : k ≤ 0 := by simpa using h
    simp only [mt, if_pos h]; rfl
  · have h : 0 < k := by simpa using h
    refine LoopW.slotsL (α := Nat × ByteArray × Nat) (fun p => [(0, I p.1), (3, .t (.str p.2.1))]) (fun _ => []) (fun p => p.1) (fun p => mtL p.1 p.2.1 = mtL k.toNat .empty ∧ p.1 < 10 ^ p.2.2 ∧ p.2.1.size + p.2.2 ≤ 100 ∧ p.1 ≤ k.toNat) (k.toNat, .empty, 18) ?_ rfl ?_ ?_
    · simp -implicitDefEqProofs only [go_sem, LeTs_undef, LeTs_same, LeTs_nil, Int.toNat_of_nonneg (show 0 ≤ k by omega)]
      simp [LeTs]; rfl
    · refine ⟨rfl, ?_, ?_, Nat.le_refl _⟩
      · show k.toNat < 10 ^ 18; omega
      · show (0 + 18 ≤ 100); omega
    rintro ⟨n, out, f⟩ ⟨h1, h2, h3, h4⟩
    simp -implicitDefEqProofs only [go_sem]
    refine BrA_i (fun h => ?_) (fun h => ?_) <;> simp -implicitDefEqProofs only [go_sem]
    · have h : 0 < n := by simp at h; omega
      simp only at h1 h2 h3 h4
      have e1 : IntKind.i64.wrap (48 + (n : Int).tmod 10) = 48 + ((n % 10 : Nat) : Int) := by
        have : (n : Int).tmod 10 = ((n % 10 : Nat) : Int) := rfl
        rw [this, wrap64 (by omega) (by omega)]
      have e2 : IntKind.i64.wrap ((n : Int).tdiv 10) = ((n / 10 : Nat) : Int) := by
        have h0 : (n : Int).tdiv 10 = ((n / 10 : Nat) : Int) := rfl
        rw [h0, wrap64 (by omega) (by omega)]
      have ed : (⟨#[UInt8.ofNat (IntKind.u8.wrap (48 + ((n % 10 : Nat) : Int))).toNat]⟩ : ByteArray) = dig (n % 10) := rfl
      rw [e1, e2, ed]
      have hf : f ≠ 0 := fun e => by subst e; simp at h2; omega
      obtain ⟨f, rfl⟩ : ∃ g, f = g + 1 := ⟨f - 1, by omega⟩
      have hsz : (dig (n % 10) ++ out).size = out.size + 1 := by
        rw [ByteArray.size_append]; show 1 + out.size = _; omega
      refine ⟨by unfold strMax; omega, .to [96] (n / 10, dig (n % 10) ++ out, f) rfl ?_ rfl ?_ ⟨?_, ?_, ?_, ?_⟩⟩
      · simp -implicitDefEqProofs only [go_sem, LeTs_undef, LeTs_same, LeTs_nil]
      · show n / 10 < n; omega
      · show mtL (n / 10) (dig (n % 10) ++ out) = _
        rw [← h1, mtL_pos h]
      · show n / 10 < 10 ^ f
        rw [Nat.pow_succ] at h2; omega
      · show (dig (n % 10) ++ out).size + f ≤ 100; omega
      · show n / 10 ≤ k.toNat; omega
    · have h : n = 0 := by simp at h; omega
      subst h
      simp only at h1 h2 h3 h4
      rw [mtL_0] at h1
      refine ⟨by unfold strMax; omega, ?_⟩
      have hk0 : ¬ k ≤ 0 := by omega
      simp only [mt, if_neg hk0, ← h1]
      rfl
end Go.Proofs.Ytaajnbfnaoecnaa.Am
namespace Go.Proofs.Ytaajnbfnaoecnaa.Am
open Go
set_option maxRecDepth 100000
set_option linter.unusedSimpArgs false
set_option linter.unusedVariables false
def Pr.mw (x : Pr) : Nat := 2
def Pr.m (x : Pr) (k : Int) : Pr := ⟨mt (k), mt (k + 1)⟩
theorem p_markPairS : Plain Try.prog 85 := ⟨_, Try.func85, rfl, by decide⟩
theorem s_markPairS (xs : List Pr) (k : Int) (hk : 0 ≤ k) (hb : k + (wSum Pr.mw xs : Nat) < 10000000000000000) (hx : xs.length < 10000000000000000) : SpecO Try.prog 85 [.refw 9000, I k] [(9000, .rows 2 (xs.map Pr.row))]
    (fun r h => r = I (k + (wSum Pr.mw xs : Nat)) ∧ h = [(9000, .rows 2 ((mkAll Pr.m Pr.mw xs k).map Pr.row))]) := by
  refine SpecO.of tysOk mixed Try.func85 rfl (by decide) ?_
  have hl : ((mkAll Pr.m Pr.mw xs k).map Pr.row).length = (xs.map Pr.row).length := by rw [List.length_map, List.length_map, mkAll_len]
  simp -implicitDefEqProofs only [go_sem, Try.f85]
  refine LoopW.slotsL (α := Nat) (fun i => [(5, I i), (1, I (k + (wSum Pr.mw (xs.take i) : Nat)))]) (fun i => [(9000, .rows 2 (mixR ((mkAll Pr.m Pr.mw xs k).map Pr.row) (xs.map Pr.row) i))]) (fun i => xs.length - i) (fun i => i ≤ xs.length) 0 ?_ ?_ (by omega) ?_
  · simp -implicitDefEqProofs only [go_sem, LeTs_undef, LeTs_same, LeTs_nil]
    simp [LeTs, wSum]
  · simp -implicitDefEqProofs only [go_sem, mix_0]
  intro i hi
  have hw := wSum_le Pr.mw xs i
  have hml : (mixR ((mkAll Pr.m Pr.mw xs k).map Pr.row) (xs.map Pr.row) i).length = xs.length := by rw [mix_len hl (by simpa using hi), List.length_map]
  simp -implicitDefEqProofs only [go_sem, hml]
  refine BrA_i (fun h => ?_) (fun h => ?_) <;> simp -implicitDefEqProofs only [go_sem]
  · have h : i < xs.length := by simp at h; omega
    have hw1 := wSum_take Pr.mw xs h
    have hw2 := wSum_le Pr.mw xs (i + 1)
    obtain ⟨K, hK⟩ : ∃ K : Int, K = k + (wSum Pr.mw (xs.take i) : Nat) := ⟨_, rfl⟩
    have hK1 : k + (wSum Pr.mw (xs.take (i + 1)) : Nat) = K + (Pr.mw xs[i] : Nat) := by rw [hw1, hK]; omega
    rw [← hK]
    have hmw : Pr.mw xs[i] = 2 := rfl
    have h0i : (0 : Int) ≤ i := by omega
    have h1i : (i : Int) < xs.length := by omega
    have hg : (mixR ((mkAll Pr.m Pr.mw xs k).map Pr.row) (xs.map Pr.row) i).getD i [] = [.str xs[i].k, .str xs[i].v] := by rw [mix_getD hl (by simpa using h), row_getD _ _ h]; rfl
    have hn : ((mkAll Pr.m Pr.mw xs k).map Pr.row).getD i [] = [.str (mt (K)), .str (mt (K + 1))] := by rw [mkAll_getD _ _ _ _ _ h, ← hK]; rfl
    have hst := mix_set hl (i := i) (by simpa using h)
    rw [hn] at hst
    have hsg : ∀ r, ((mixR ((mkAll Pr.m Pr.mw xs k).map Pr.row) (xs.map Pr.row) i).set i r).getD i [] = r := fun r => set_getD (by omega) r
    have wi : IntKind.i64.wrap ((i : Int) + 1) = ((i + 1 : Nat) : Int) := by rw [wrap64 (by omega) (by omega)]; omega
    have w0 : IntKind.i64.wrap (K + 1) = K + 1 := by rw [wrap64 (by omega) (by omega)]
    have w1 : IntKind.i64.wrap (K + 1 + 1) = K + 2 := by rw [wrap64 (by omega) (by omega)]; omega
    simp -implicitDefEqProofs only [go_sem, hml, h0i, h1i, h, hg, hsg, wi, w0, w1]
    refine .one (s_markText _ (by omega)) p_markText rfl trivial ?_
    simp -implicitDefEqProofs only [go_sem, hml, h0i, h1i, h, hg, hsg, wi, w0, w1]
    refine .one (s_markText _ (by omega)) p_markText rfl trivial ?_
    simp -implicitDefEqProofs only [go_sem, hml, h0i, h1i, h, hg, hsg, wi, w0, w1]
    refine .to [] (i + 1) rfl ?_ ?_ (by omega) (by omega)
    · simp -implicitDefEqProofs only [go_sem, LeTs_undef, LeTs_same, LeTs_nil, hK1, hmw]
      try simp [LeTs]
      try omega
    · try simp -implicitDefEqProofs only [go_sem, hst]
  · have h : i = xs.length := by simp at h; omega
    subst h
    have hm : mixR ((mkAll Pr.m Pr.mw xs k).map Pr.row) (xs.map Pr.row) xs.length = ((mkAll Pr.m Pr.mw xs k).map Pr.row) := by
      have := mix_all hl; rwa [List.length_map] at this
    simp -implicitDefEqProofs only [go_sem, hm, List.take_length, mkAll_len]
theorem p_heldPairS : Plain Try.prog 88 := ⟨_, Try.func88, rfl, by decide⟩
theorem s_heldPairS (xs : List Pr) (k : Int) (hk : 0 ≤ k) (hb : k + (wSum Pr.mw xs : Nat) < 10000000000000000) (hx : xs.length < 10000000000000000) : Spec Try.prog 88 [.t (.list false 2 ((mkAll Pr.m Pr.mw xs k).map Pr.row)), I k]
    (fun r => r = I (k + (wSum Pr.mw xs : Nat))) := by
  refine Spec.of tysOk mixed Try.func88 rfl (by decide) ?_
  simp -implicitDefEqProofs only [go_sem, Try.f88, mkAll_len]
  refine LoopW.slotsL (α := Nat) (fun i => [(5, I i), (1, I (k + (wSum Pr.mw (xs.take i) : Nat)))]) (fun i => []) (fun i => xs.length - i) (fun i => i ≤ xs.length) 0 ?_ rfl (by omega) ?_
  · simp -implicitDefEqProofs only [go_sem, LeTs_undef, LeTs_same, LeTs_nil]
    simp [LeTs, wSum]
  intro i hi
  have hw := wSum_le Pr.mw xs i
  simp -implicitDefEqProofs only [go_sem, mkAll_len]
  refine BrA_i (fun h => ?_) (fun h => ?_) <;> simp -implicitDefEqProofs only [go_sem]
  · have h : i < xs.length := by simp at h; omega
    have hw1 := wSum_take Pr.mw xs h
    have hw2 := wSum_le Pr.mw xs (i + 1)
    obtain ⟨K, hK⟩ : ∃ K : Int, K = k + (wSum Pr.mw (xs.take i) : Nat) := ⟨_, rfl⟩
    have hK1 : k + (wSum Pr.mw (xs.take (i + 1)) : Nat) = K + (Pr.mw xs[i] : Nat) := by rw [hw1, hK]; omega
    rw [← hK]
    have hmw : Pr.mw xs[i] = 2 := rfl
    have h0i : (0 : Int) ≤ i := by omega
    have h1i : (i : Int) < xs.length := by omega
    have hn : ((mkAll Pr.m Pr.mw xs k).map Pr.row).getD i [] = [.str (mt (K)), .str (mt (K + 1))] := by rw [mkAll_getD _ _ _ _ _ h, ← hK]; rfl
    have wi : IntKind.i64.wrap ((i : Int) + 1) = ((i + 1 : Nat) : Int) := by rw [wrap64 (by omega) (by omega)]; omega
    have w0 : IntKind.i64.wrap (K + 1) = K + 1 := by rw [wrap64 (by omega) (by omega)]
    have w1 : IntKind.i64.wrap (K + 1 + 1) = K + 2 := by rw [wrap64 (by omega) (by omega)]; omega
    simp -implicitDefEqProofs only [go_sem, mkAll_len, h0i, h1i, h, hn, wi, w0, w1]
    (first | refine RegD_of sch_88_4 tysOk (by decide +kernel) ?_ | refine RegD_of sch_88_7 tysOk (by decide +kernel) ?_)
    simp -implicitDefEqProofs only [go_sem, mkAll_len, h0i, h1i, h, hn, wi, w0, w1]
    refine .one (s_markText _ (by omega)) p_markText rfl trivial ?_
    simp -implicitDefEqProofs only [go_sem, mkAll_len, h0i, h1i, h, hn, wi, w0, w1]
    (first | refine RegD_of sch_88_4 tysOk (by decide +kernel) ?_ | refine RegD_of sch_88_7 tysOk (by decide +kernel) ?_)
    simp -implicitDefEqProofs only [go_sem, mkAll_len, h0i, h1i, h, hn, wi, w0, w1]
    refine .one (s_markText _ (by omega)) p_markText rfl trivial ?_
    simp -implicitDefEqProofs only [go_sem, mkAll_len, h0i, h1i, h, hn, wi, w0, w1]
    refine .to [] (i + 1) rfl ?_ rfl (by omega) (by omega)
    · simp -implicitDefEqProofs only [go_sem, LeTs_undef, LeTs_same, LeTs_nil, hK1, hmw]
      try simp [LeTs]
      try omega
  · have h : i = xs.length := by simp at h; omega
    subst h
    simp -implicitDefEqProofs only [go_sem, List.take_length, mkAll_len]
def It.mw (x : It) : Nat := 2 + wSum Pr.mw x.fields
def It.m (x : It) (k : Int) : It := ⟨⟨k, k + 1⟩, mkAll Pr.m Pr.mw x.fields (k + 2)⟩
theorem p_markItemS : Plain Try.prog 51 := ⟨_, Try.func51, rfl, by decide⟩
theorem s_markItemS (xs : List It) (k : Int) (hk : 0 ≤ k) (hb : k + (wSum It.mw xs : Nat) < 10000000000000000) (hx : xs.length < 10000000000000000) : SpecO Try.prog 51 [.refw 9000, I k] [(9000, .rows 3 (xs.map It.rowO))]
    (fun r h => r = I (k + (wSum It.mw xs : Nat)) ∧ h = [(9000, .rows 3 ((mkAll It.m It.mw xs k).map It.rowO))]) := by
  refine SpecO.of tysOk mixed Try.func51 rfl (by decide) ?_
  have hl : ((mkAll It.m It.mw xs k).map It.rowO).length = (xs.map It.rowO).length := by rw [List.length_map, List.length_map, mkAll_len]
  simp -implicitDefEqProofs only [go_sem, Try.f51]
  refine LoopW.slotsL (α := Nat) (fun i => [(5, I i), (1, I (k + (wSum It.mw (xs.take i) : Nat)))]) (fun i => [(9000, .rows 3 (mixR ((mkAll It.m It.mw xs k).map It.rowO) (xs.map It.rowO) i))]) (fun i => xs.length - i) (fun i => i ≤ xs.length) 0 ?_ ?_ (by omega) ?_
  · simp -implicitDefEqProofs only [go_sem, LeTs_undef, LeTs_same, LeTs_nil]
    simp [LeTs, wSum]
  · simp -implicitDefEqProofs only [go_sem, mix_0]
  intro i hi
  have hw := wSum_le It.mw xs i
  have hml : (mixR ((mkAll It.m It.mw xs k).map It.rowO) (xs.map It.rowO) i).length = xs.length := by rw [mix_len hl (by simpa using hi), List.length_map]
  simp -implicitDefEqProofs only [go_sem, hml]
  refine BrA_i (fun h => ?_) (fun h => ?_) <;> simp -implicitDefEqProofs only [go_sem]
  · have h : i < xs.length := by simp at h; omega
    have hw1 := wSum_take It.mw xs h
    have hw2 := wSum_le It.mw xs (i + 1)
    obtain ⟨K, hK⟩ : ∃ K : Int, K = k + (wSum It.mw (xs.take i) : Nat) := ⟨_, rfl⟩
    have hK1 : k + (wSum It.mw (xs.take (i + 1)) : Nat) = K + (It.mw xs[i] : Nat) := by rw [hw1, hK]; omega
    rw [← hK]
    have hmw : It.mw xs[i] = 2 + wSum Pr.mw xs[i].fields := rfl
    have h0i : (0 : Int) ≤ i := by omega
    have h1i : (i : Int) < xs.length := by omega
    have hg : (mixR ((mkAll It.m It.mw xs k).map It.rowO) (xs.map It.rowO) i).getD i [] = [.int .i64 xs[i].id.t, .int .i64 xs[i].id.n, .list true 2 (xs[i].fields.map Pr.row)] := by rw [mix_getD hl (by simpa using h), row_getD _ _ h]; rfl
    have hn : ((mkAll It.m It.mw xs k).map It.rowO).getD i [] = [.int .i64 (K), .int .i64 (K + 1), .list true 2 ((mkAll Pr.m Pr.mw xs[i].fields (K + 2)).map Pr.row)] := by rw [mkAll_getD _ _ _ _ _ h, ← hK]; rfl
    have hst := mix_set hl (i := i) (by simpa using h)
    rw [hn] at hst
    have hsg : ∀ r, ((mixR ((mkAll It.m It.mw xs k).map It.rowO) (xs.map It.rowO) i).set i r).getD i [] = r := fun r => set_getD (by omega) r
    have wi : IntKind.i64.wrap ((i : Int) + 1) = ((i + 1 : Nat) : Int) := by rw [wrap64 (by omega) (by omega)]; omega
    have w0 : IntKind.i64.wrap (K + 1) = K + 1 := by rw [wrap64 (by omega) (by omega)]
    have w1 : IntKind.i64.wrap (K + 1 + 1) = K + 2 := by rw [wrap64 (by omega) (by omega)]; omega
    have z2 : wSum Pr.mw xs[i].fields ≤ It.mw xs[i] := by rw [hmw]; omega
    simp -implicitDefEqProofs only [go_sem, hml, h0i, h1i, h, hg, hsg, wi, w0, w1]
    refine CallW.n [(9000, 272)] [] [I (K + 2)] 272 rfl (by conv => lhs; simp -implicitDefEqProofs only [go_sem, hml, h0i, h1i, h, hg, hsg, wi, w0, w1]) (s_markPairS xs[i].fields (K + 2) (by omega) (by omega) (by have := wSum_len (w := Pr.mw) (fun _ => by unfold Pr.mw; omega) xs[i].fields; omega)) p_markPairS o85 rfl rfl (by conv => lhs; simp -implicitDefEqProofs only [go_sem]) (by simp -implicitDefEqProofs only [go_sem]) ?_
    rintro _ _ ⟨rfl, rfl⟩
    simp -implicitDefEqProofs only [go_sem, hml, h0i, h1i, h, hg, hsg, wi, w0, w1]
    refine .to [] (i + 1) rfl ?_ ?_ (by omega) (by omega)
    · simp -implicitDefEqProofs only [go_sem, LeTs_undef, LeTs_same, LeTs_nil, hK1, hmw]
      try simp [LeTs]
      try omega
    · try simp -implicitDefEqProofs only [go_sem, hst]
  · have h : i = xs.length := by simp at h; omega
    subst h
    have hm : mixR ((mkAll It.m It.mw xs k).map It.rowO) (xs.map It.rowO) xs.length = ((mkAll It.m It.mw xs k).map It.rowO) := by
      have := mix_all hl; rwa [List.length_map] at this
    simp -implicitDefEqProofs only [go_sem, hm, List.take_length, mkAll_len]
theorem p_heldItemS : Plain Try.prog 53 := ⟨_, Try.func53, rfl, by decide⟩
theorem s_heldItemS (xs : List It) (k : Int) (hk : 0 ≤ k) (hb : k + (wSum It.mw xs : Nat) < 10000000000000000) (hx : xs.length < 10000000000000000) : Spec Try.prog 53 [.t (.list false 3 ((mkAll It.m It.mw xs k).map It.row)), I k]
    (fun r => r = I (k + (wSum It.mw xs : Nat))) := by
  refine Spec.of tysOk mixed Try.func53 rfl (by decide) ?_
  simp -implicitDefEqProofs only [go_sem, Try.f53, mkAll_len]
  refine LoopW.slotsL (α := Nat) (fun i => [(5, I i), (1, I (k + (wSum It.mw (xs.take i) : Nat)))]) (fun i => []) (fun i => xs.length - i) (fun i => i ≤ xs.length) 0 ?_ rfl (by omega) ?_
  · simp -implicitDefEqProofs only [go_sem, LeTs_undef, LeTs_same, LeTs_nil]
    simp [LeTs, wSum]
  intro i hi
  have hw := wSum_le It.mw xs i
  simp -implicitDefEqProofs only [go_sem, mkAll_len]
  refine BrA_i (fun h => ?_) (fun h => ?_) <;> simp -implicitDefEqProofs only [go_sem]
  · have h : i < xs.length := by simp at h; omega
    have hw1 := wSum_take It.mw xs h
    have hw2 := wSum_le It.mw xs (i + 1)
    obtain ⟨K, hK⟩ : ∃ K : Int, K = k + (wSum It.mw (xs.take i) : Nat) := ⟨_, rfl⟩
    have hK1 : k + (wSum It.mw (xs.take (i + 1)) : Nat) = K + (It.mw xs[i] : Nat) := by rw [hw1, hK]; omega
    rw [← hK]
    have hmw : It.mw xs[i] = 2 + wSum Pr.mw xs[i].fields := rfl
    have h0i : (0 : Int) ≤ i := by omega
    have h1i : (i : Int) < xs.length := by omega
    have hn : ((mkAll It.m It.mw xs k).map It.row).getD i [] = [.int .i64 (K), .int .i64 (K + 1), .list false 2 ((mkAll Pr.m Pr.mw xs[i].fields (K + 2)).map Pr.row)] := by rw [mkAll_getD _ _ _ _ _ h, ← hK]; rfl
    have wi : IntKind.i64.wrap ((i : Int) + 1) = ((i + 1 : Nat) : Int) := by rw [wrap64 (by omega) (by omega)]; omega
    have w0 : IntKind.i64.wrap (K + 1) = K + 1 := by rw [wrap64 (by omega) (by omega)]
    have w1 : IntKind.i64.wrap (K + 1 + 1) = K + 2 := by rw [wrap64 (by omega) (by omega)]; omega
    have z2 : wSum Pr.mw xs[i].fields ≤ It.mw xs[i] := by rw [hmw]; omega
    simp -implicitDefEqProofs only [go_sem, mkAll_len, h0i, h1i, h, hn, wi, w0, w1]
    refine .one (s_heldPairS xs[i].fields (K + 2) (by omega) (by omega) (by have := wSum_len (w := Pr.mw) (fun _ => by unfold Pr.mw; omega) xs[i].fields; omega)) p_heldPairS (by simp -implicitDefEqProofs only [go_sem]) trivial ?_
    simp -implicitDefEqProofs only [go_sem, mkAll_len, h0i, h1i, h, hn, wi, w0, w1]
    refine BrA_i (fun h => ?_) (fun h => ?_)
    · exfalso; simp at h; omega
    simp -implicitDefEqProofs only [go_sem, mkAll_len, h0i, h1i, h, hn, wi, w0, w1]
    refine .to [] (i + 1) rfl ?_ rfl (by omega) (by omega)
    · simp -implicitDefEqProofs only [go_sem, LeTs_undef, LeTs_same, LeTs_nil, hK1, hmw]
      try simp [LeTs]
      try omega
  · have h : i = xs.length := by simp at h; omega
    subst h
    simp -implicitDefEqProofs only [go_sem, List.take_length, mkAll_len]
def Wt.mw (x : Wt) : Nat := 5
def Wt.m (x : Wt) (k : Int) : Wt := ⟨⟨k, k + 1⟩, mt (k + 2), k + 3, k + 4⟩
theorem p_markWaitS : Plain Try.prog 87 := ⟨_, Try.func87, rfl, by decide⟩
theorem s_markWaitS (xs : List Wt) (k : Int) (hk : 0 ≤ k) (hb : k + (wSum Wt.mw xs : Nat) < 10000000000000000) (hx : xs.length < 10000000000000000) : SpecO Try.prog 87 [.refw 9000, I k] [(9000, .rows 5 (xs.map Wt.row))]
    (fun r h => r = I (k + (wSum Wt.mw xs : Nat)) ∧ h = [(9000, .rows 5 ((mkAll Wt.m Wt.mw xs k).map Wt.row))]) := by
  refine SpecO.of tysOk mixed Try.func87 rfl (by decide) ?_
  have hl : ((mkAll Wt.m Wt.mw xs k).map Wt.row).length = (xs.map Wt.row).length := by rw [List.length_map, List.length_map, mkAll_len]
  simp -implicitDefEqProofs only [go_sem, Try.f87]
  refine LoopW.slotsL (α := Nat) (fun i => [(5, I i), (1, I (k + (wSum Wt.mw (xs.take i) : Nat)))]) (fun i => [(9000, .rows 5 (mixR ((mkAll Wt.m Wt.mw xs k).map Wt.row) (xs.map Wt.row) i))]) (fun i => xs.length - i) (fun i => i ≤ xs.length) 0 ?_ ?_ (by omega) ?_
  · simp -implicitDefEqProofs only [go_sem, LeTs_undef, LeTs_same, LeTs_nil]
    simp [LeTs, wSum]
  · simp -implicitDefEqProofs only [go_sem, mix_0]
  intro i hi
  have hw := wSum_le Wt.mw xs i
  have hml : (mixR ((mkAll Wt.m Wt.mw xs k).map Wt.row) (xs.map Wt.row) i).length = xs.length := by rw [mix_len hl (by simpa using hi), List.length_map]
  simp -implicitDefEqProofs only [go_sem, hml]
  refine BrA_i (fun h => ?_) (fun h => ?_) <;> simp -implicitDefEqProofs only [go_sem]
  · have h : i < xs.length := by simp at h; omega
    have hw1 := wSum_take Wt.mw xs h
    have hw2 := wSum_le Wt.mw xs (i + 1)
    obtain ⟨K, hK⟩ : ∃ K : Int, K = k + (wSum Wt.mw (xs.take i) : Nat) := ⟨_, rfl⟩
    have hK1 : k + (wSum Wt.mw (xs.take (i + 1)) : Nat) = K + (Wt.mw xs[i] : Nat) := by rw [hw1, hK]; omega
    rw [← hK]
    have hmw : Wt.mw xs[i] = 5 := rfl
    have h0i : (0 : Int) ≤ i := by omega
    have h1i : (i : Int) < xs.length := by omega
    have hg : (mixR ((mkAll Wt.m Wt.mw xs k).map Wt.row) (xs.map Wt.row) i).getD i [] = [.int .i64 xs[i].id.t, .int .i64 xs[i].id.n, .str xs[i].who, .int .i64 xs[i].at', .int .i64 xs[i].tm] := by rw [mix_getD hl (by simpa using h), row_getD _ _ h]; rfl
    have hn : ((mkAll Wt.m Wt.mw xs k).map Wt.row).getD i [] = [.int .i64 (K), .int .i64 (K + 1), .str (mt (K + 2)), .int .i64 (K + 3), .int .i64 (K + 4)] := by rw [mkAll_getD _ _ _ _ _ h, ← hK]; rfl
    have hst := mix_set hl (i := i) (by simpa using h)
    rw [hn] at hst
    have hsg : ∀ r, ((mixR ((mkAll Wt.m Wt.mw xs k).map Wt.row) (xs.map Wt.row) i).set i r).getD i [] = r := fun r => set_getD (by omega) r
    have wi : IntKind.i64.wrap ((i : Int) + 1) = ((i + 1 : Nat) : Int) := by rw [wrap64 (by omega) (by omega)]; omega
    have w0 : IntKind.i64.wrap (K + 1) = K + 1 := by rw [wrap64 (by omega) (by omega)]
    have w1 : IntKind.i64.wrap (K + 1 + 1) = K + 2 := by rw [wrap64 (by omega) (by omega)]; omega
    have w2 : IntKind.i64.wrap (K + 2 + 1) = K + 3 := by rw [wrap64 (by omega) (by omega)]; omega
    have w3 : IntKind.i64.wrap (K + 3 + 1) = K + 4 := by rw [wrap64 (by omega) (by omega)]; omega
    have w4 : IntKind.i64.wrap (K + 4 + 1) = K + 5 := by rw [wrap64 (by omega) (by omega)]; omega
    simp -implicitDefEqProofs only [go_sem, hml, h0i, h1i, h, hg, hsg, wi, w0, w1, w2, w3, w4]
    refine .one (s_markText _ (by omega)) p_markText rfl trivial ?_
    simp -implicitDefEqProofs only [go_sem, hml, h0i, h1i, h, hg, hsg, wi, w0, w1, w2, w3, w4]
    refine .to [] (i + 1) rfl ?_ ?_ (by omega) (by omega)
    · simp -implicitDefEqProofs only [go_sem, LeTs_undef, LeTs_same, LeTs_nil, hK1, hmw]
      try simp [LeTs]
      try omega
    · try simp -implicitDefEqProofs only [go_sem, hst]
  · have h : i = xs.length := by simp at h; omega
    subst h
    have hm : mixR ((mkAll Wt.m Wt.mw xs k).map Wt.row) (xs.map Wt.row) xs.length = ((mkAll Wt.m Wt.mw xs k).map Wt.row) := by
      have := mix_all hl; rwa [List.length_map] at this
    simp -implicitDefEqProofs only [go_sem, hm, List.take_length, mkAll_len]
theorem p_heldWaitS : Plain Try.prog 89 := ⟨_, Try.func89, rfl, by decide⟩
theorem s_heldWaitS (xs : List Wt) (k : Int) (hk : 0 ≤ k) (hb : k + (wSum Wt.mw xs : Nat) < 10000000000000000) (hx : xs.length < 10000000000000000) : Spec Try.prog 89 [.t (.list false 5 ((mkAll Wt.m Wt.mw xs k).map Wt.row)), I k]
    (fun r => r = I (k + (wSum Wt.mw xs : Nat))) := by
  refine Spec.of tysOk mixed Try.func89 rfl (by decide) ?_
  simp -implicitDefEqProofs only [go_sem, Try.f89, mkAll_len]
  refine LoopW.slotsL (α := Nat) (fun i => [(5, I i), (1, I (k + (wSum Wt.mw (xs.take i) : Nat)))]) (fun i => []) (fun i => xs.length - i) (fun i => i ≤ xs.length) 0 ?_ rfl (by omega) ?_
  · simp -implicitDefEqProofs only [go_sem, LeTs_undef, LeTs_same, LeTs_nil]
    simp [LeTs, wSum]
  intro i hi
  have hw := wSum_le Wt.mw xs i
  simp -implicitDefEqProofs only [go_sem, mkAll_len]
  refine BrA_i (fun h => ?_) (fun h => ?_) <;> simp -implicitDefEqProofs only [go_sem]
  · have h : i < xs.length := by simp at h; omega
    have hw1 := wSum_take Wt.mw xs h
    have hw2 := wSum_le Wt.mw xs (i + 1)
    obtain ⟨K, hK⟩ : ∃ K : Int, K = k + (wSum Wt.mw (xs.take i) : Nat) := ⟨_, rfl⟩
    have hK1 : k + (wSum Wt.mw (xs.take (i + 1)) : Nat) = K + (Wt.mw xs[i] : Nat) := by rw [hw1, hK]; omega
    rw [← hK]
    have hmw : Wt.mw xs[i] = 5 := rfl
    have h0i : (0 : Int) ≤ i := by omega
    have h1i : (i : Int) < xs.length := by omega
    have hn : ((mkAll Wt.m Wt.mw xs k).map Wt.row).getD i [] = [.int .i64 (K), .int .i64 (K + 1), .str (mt (K + 2)), .int .i64 (K + 3), .int .i64 (K + 4)] := by rw [mkAll_getD _ _ _ _ _ h, ← hK]; rfl
    have wi : IntKind.i64.wrap ((i : Int) + 1) = ((i + 1 : Nat) : Int) := by rw [wrap64 (by omega) (by omega)]; omega
    have w0 : IntKind.i64.wrap (K + 1) = K + 1 := by rw [wrap64 (by omega) (by omega)]
    have w1 : IntKind.i64.wrap (K + 1 + 1) = K + 2 := by rw [wrap64 (by omega) (by omega)]; omega
    have w2 : IntKind.i64.wrap (K + 2 + 1) = K + 3 := by rw [wrap64 (by omega) (by omega)]; omega
    have w3 : IntKind.i64.wrap (K + 3 + 1) = K + 4 := by rw [wrap64 (by omega) (by omega)]; omega
    have w4 : IntKind.i64.wrap (K + 4 + 1) = K + 5 := by rw [wrap64 (by omega) (by omega)]; omega
    simp -implicitDefEqProofs only [go_sem, mkAll_len, h0i, h1i, h, hn, wi, w0, w1, w2, w3, w4]
    (first | refine RegD_of sch_89_10 tysOk (by decide +kernel) ?_)
    simp -implicitDefEqProofs only [go_sem, mkAll_len, h0i, h1i, h, hn, wi, w0, w1, w2, w3, w4]
    refine .one (s_markText _ (by omega)) p_markText rfl trivial ?_
    simp -implicitDefEqProofs only [go_sem, mkAll_len, h0i, h1i, h, hn, wi, w0, w1, w2, w3, w4]
    refine .to [] (i + 1) rfl ?_ rfl (by omega) (by omega)
    · simp -implicitDefEqProofs only [go_sem, LeTs_undef, LeTs_same, LeTs_nil, hK1, hmw]
      try simp [LeTs]
      try omega
  · have h : i = xs.length := by simp at h; omega
    subst h
    simp -implicitDefEqProofs only [go_sem, List.take_length, mkAll_len]
def Gr.mw (x : Gr) : Nat := 3 + wSum Wt.mw x.waits
def Gr.m (x : Gr) (k : Int) : Gr := ⟨mt (k), ⟨k + 1, k + 2⟩, mkAll Wt.m Wt.mw x.waits (k + 3)⟩
theorem p_markGroupS : Plain Try.prog 52 := ⟨_, Try.func52, rfl, by decide⟩
theorem s_markGroupS (xs : List Gr) (k : Int) (hk : 0 ≤ k) (hb : k + (wSum Gr.mw xs : Nat) < 10000000000000000) (hx : xs.length < 10000000000000000) : SpecO Try.prog 52 [.refw 9000, I k] [(9000, .rows 4 (xs.map Gr.rowO))]
    (fun r h => r = I (k + (wSum Gr.mw xs : Nat)) ∧ h = [(9000, .rows 4 ((mkAll Gr.m Gr.mw xs k).map Gr.rowO))]) := by
  refine SpecO.of tysOk mixed Try.func52 rfl (by decide) ?_
  have hl : ((mkAll Gr.m Gr.mw xs k).map Gr.rowO).length = (xs.map Gr.rowO).length := by rw [List.length_map, List.length_map, mkAll_len]
  simp -implicitDefEqProofs only [go_sem, Try.f52]
  refine LoopW.slotsL (α := Nat) (fun i => [(5, I i), (1, I (k + (wSum Gr.mw (xs.take i) : Nat)))]) (fun i => [(9000, .rows 4 (mixR ((mkAll Gr.m Gr.mw xs k).map Gr.rowO) (xs.map Gr.rowO) i))]) (fun i => xs.length - i) (fun i => i ≤ xs.length) 0 ?_ ?_ (by omega) ?_
  · simp -implicitDefEqProofs only [go_sem, LeTs_undef, LeTs_same, LeTs_nil]
    simp [LeTs, wSum]
  · simp -implicitDefEqProofs only [go_sem, mix_0]
  intro i hi
  have hw := wSum_le Gr.mw xs i
  have hml : (mixR ((mkAll Gr.m Gr.mw xs k).map Gr.rowO) (xs.map Gr.rowO) i).length = xs.length := by rw [mix_len hl (by simpa using hi), List.length_map]
  simp -implicitDefEqProofs only [go_sem, hml]
  refine BrA_i (fun h => ?_) (fun h => ?_) <;> simp -implicitDefEqProofs only [go_sem]
  · have h : i < xs.length := by simp at h; omega
    have hw1 := wSum_take Gr.mw xs h
    have hw2 := wSum_le Gr.mw xs (i + 1)
    obtain ⟨K, hK⟩ : ∃ K : Int, K = k + (wSum Gr.mw (xs.take i) : Nat) := ⟨_, rfl⟩
    have hK1 : k + (wSum Gr.mw (xs.take (i + 1)) : Nat) = K + (Gr.mw xs[i] : Nat) := by rw [hw1, hK]; omega
    rw [← hK]
    have hmw : Gr.mw xs[i] = 3 + wSum Wt.mw xs[i].waits := rfl
    have h0i : (0 : Int) ≤ i := by omega
    have h1i : (i : Int) < xs.length := by omega
    have hg : (mixR ((mkAll Gr.m Gr.mw xs k).map Gr.rowO) (xs.map Gr.rowO) i).getD i [] = [.str xs[i].name, .int .i64 xs[i].last.t, .int .i64 xs[i].last.n, .list true 5 (xs[i].waits.map Wt.row)] := by rw [mix_getD hl (by simpa using h), row_getD _ _ h]; rfl
    have hn : ((mkAll Gr.m Gr.mw xs k).map Gr.rowO).getD i [] = [.str (mt (K)), .int .i64 (K + 1), .int .i64 (K + 2), .list true 5 ((mkAll Wt.m Wt.mw xs[i].waits (K + 3)).map Wt.row)] := by rw [mkAll_getD _ _ _ _ _ h, ← hK]; rfl
    have hst := mix_set hl (i := i) (by simpa using h)
    rw [hn] at hst
    have hsg : ∀ r, ((mixR ((mkAll Gr.m Gr.mw xs k).map Gr.rowO) (xs.map Gr.rowO) i).set i r).getD i [] = r := fun r => set_getD (by omega) r
    have wi : IntKind.i64.wrap ((i : Int) + 1) = ((i + 1 : Nat) : Int) := by rw [wrap64 (by omega) (by omega)]; omega
    have w0 : IntKind.i64.wrap (K + 1) = K + 1 := by rw [wrap64 (by omega) (by omega)]
    have w1 : IntKind.i64.wrap (K + 1 + 1) = K + 2 := by rw [wrap64 (by omega) (by omega)]; omega
    have w2 : IntKind.i64.wrap (K + 2 + 1) = K + 3 := by rw [wrap64 (by omega) (by omega)]; omega
    have z3 : wSum Wt.mw xs[i].waits ≤ Gr.mw xs[i] := by rw [hmw]; omega
    simp -implicitDefEqProofs only [go_sem, hml, h0i, h1i, h, hg, hsg, wi, w0, w1, w2]
    refine .one (s_markText _ (by omega)) p_markText rfl trivial ?_
    simp -implicitDefEqProofs only [go_sem, hml, h0i, h1i, h, hg, hsg, wi, w0, w1, w2]
    refine CallW.n [(9000, 336)] [] [I (K + 3)] 336 rfl (by conv => lhs; simp -implicitDefEqProofs only [go_sem, hml, h0i, h1i, h, hg, hsg, wi, w0, w1, w2]) (s_markWaitS xs[i].waits (K + 3) (by omega) (by omega) (by have := wSum_len (w := Wt.mw) (fun _ => by unfold Wt.mw; omega) xs[i].waits; omega)) p_markWaitS o87 rfl rfl (by conv => lhs; simp -implicitDefEqProofs only [go_sem]) (by simp -implicitDefEqProofs only [go_sem]) ?_
    rintro _ _ ⟨rfl, rfl⟩
    simp -implicitDefEqProofs only [go_sem, hml, h0i, h1i, h, hg, hsg, wi, w0, w1, w2]
    refine .to [] (i + 1) rfl ?_ ?_ (by omega) (by omega)
    · simp -implicitDefEqProofs only [go_sem, LeTs_undef, LeTs_same, LeTs_nil, hK1, hmw]
      try simp [LeTs]
      try omega
    · try simp -implicitDefEqProofs only [go_sem, hst]
  · have h : i = xs.length := by simp at h; omega
    subst h
    have hm : mixR ((mkAll Gr.m Gr.mw xs k).map Gr.rowO) (xs.map Gr.rowO) xs.length = ((mkAll Gr.m Gr.mw xs k).map Gr.rowO) := by
      have := mix_all hl; rwa [List.length_map] at this
    simp -implicitDefEqProofs only [go_sem, hm, List.take_length, mkAll_len]
end Go.Proofs.Ytaajnbfnaoecnaa.Am
namespace Go.Proofs.Ytaajnbfnaoecnaa.Am
open Go
set_option maxRecDepth 100000
set_option linter.unusedSimpArgs false
set_option linter.unusedVariables false
theorem shared_Pr (xs : List Pr) : sharedRows (xs.map Pr.row) = xs.map Pr.row := by
  unfold sharedRows
  rw [List.map_map]
  exact List.map_congr_left fun x _ => rfl
theorem shared_Wt (xs : List Wt) : sharedRows (xs.map Wt.row) = xs.map Wt.row := by
  unfold sharedRows
  rw [List.map_map]
  exact List.map_congr_left fun x _ => rfl
theorem p_copiedPairs : Plain Try.prog 72 := ⟨_, Try.func72, rfl, by decide⟩
theorem s_copiedPairs (xs : List Pr) (hx : xs.length ≤ 2097152) : Spec Try.prog 72 [.t (.list false 2 (xs.map Pr.row))] (fun r => r = .own (.list true 2 (xs.map Pr.row))) := by
  refine Spec.of tysOk mixed Try.func72 rfl (by decide) ?_
  simp -implicitDefEqProofs only [go_sem, Try.f72, shared_Pr]
  (unfold roomy; omega)
theorem p_cloneWaits : Plain Try.prog 64 := ⟨_, Try.func64, rfl, by decide⟩
theorem s_cloneWaits (xs : List Wt) (hx : xs.length ≤ 2097152) : Spec Try.prog 64 [.t (.list false 5 (xs.map Wt.row))] (fun r => r = .own (.list true 5 (xs.map Wt.row))) := by
  refine Spec.of tysOk mixed Try.func64 rfl (by decide) ?_
  simp -implicitDefEqProofs only [go_sem, Try.f64, shared_Wt]
  (unfold roomy; omega)
theorem p_cloneItems : Plain Try.prog 32 := ⟨_, Try.func32, rfl, by decide⟩
theorem s_cloneItems (xs : List It) (hx : xs.length ≤ 2097152) (hs : ∀ x ∈ xs, x.fields.length ≤ 2097152) : Spec Try.prog 32 [.t (.list false 3 (xs.map It.row))] (fun r => r = .own (.list true 3 (xs.map It.rowO))) := by
  refine Spec.of tysOk mixed Try.func32 rfl (by decide) ?_
  simp -implicitDefEqProofs only [go_sem, Try.f32]
  refine LoopW.slotsL (α := Nat) (fun i => [(9, I i), (6, .undef)]) (fun i => [(48, .rows 3 ((xs.take i).map It.rowO))]) (fun i => xs.length - i) (fun i => i ≤ xs.length) 0 (by simp -implicitDefEqProofs only [go_sem, LeTs_undef, LeTs_same, LeTs_nil]; simp [LeTs]) rfl (by omega) ?_
  intro i hi
  simp -implicitDefEqProofs only [go_sem]
  refine BrA_i (fun h => ?_) (fun h => ?_)
  · have h : i < xs.length := by simp at h; omega
    have hw1 : IntKind.i64.wrap ((i : Int) + 1) = ((i + 1 : Nat) : Int) := by rw [wrap64 (by omega) (by omega)]; omega
    simp -implicitDefEqProofs only [go_sem, row_getD _ _ h, It.row]
    refine ⟨⟨by omega, by omega⟩, ?_⟩
    refine RegD_of sch_32_5 tysOk (by kernel_rfl) ?_
    simp -implicitDefEqProofs only [go_sem]
    refine .onep (s_copiedPairs xs[i].fields (hs _ (List.getElem_mem _))) p_copiedPairs (by simp -implicitDefEqProofs only [go_sem]) rfl ?_
    simp -implicitDefEqProofs only [go_sem]
    have e : (xs.take (i + 1)).map It.rowO = (xs.take i).map It.rowO ++ [[T.int .i64 xs[i].id.t, T.int .i64 xs[i].id.n, T.list true 2 (xs[i].fields.map Pr.row)]] := by
      rw [List.take_succ_eq_append_getElem h, List.map_append]; rfl
    refine ⟨by unfold roomy; simp; omega, .to [40] (i + 1) rfl ?_ ?_ (by omega) h⟩ <;> simp -implicitDefEqProofs only [go_sem, LeTs_undef, LeTs_same, LeTs_nil, hw1, e]
  · simp -implicitDefEqProofs only [go_sem]
    have h : i = xs.length := by simp at h; omega
    subst h
    rw [List.take_length]
    try exact ⟨by decide, rfl⟩
end Go.Proofs.Ytaajnbfnaoecnaa.Am
namespace Go.Proofs.Ytaajnbfnaoecnaa.Am
open Go
set_option maxRecDepth 100000
set_option linter.unusedSimpArgs false
set_option linter.unusedVariables false
abbrev Stm.avO (x : Stm) : AV := .agg [I x.last.t, I x.last.n, .own (.list true 3 (x.items.map It.rowO)), .own (.list true 4 (x.groups.map Gr.rowO))]
def Stm.md (s : Stm) : Prop := s.items.length ≤ 1048576 ∧ s.groups.length ≤ 1048576 ∧ (∀ i ∈ s.items, i.fields.length ≤ 1048576) ∧ ∀ g ∈ s.groups, g.waits.length ≤ 1048576
theorem p_cloneStream : Plain Try.prog 30 := ⟨_, Try.func30, rfl, by decide⟩
theorem s_cloneStream (s : Stm) (hs : s.md) : Spec Try.prog 30 [s.av] (fun r => r = s.avO) := by
  obtain ⟨hs1, hs2, hs3, hs4⟩ := hs
  refine Spec.of tysOk mixed Try.func30 rfl (by decide) ?_
  simp -implicitDefEqProofs only [go_sem, Try.f30]
  (first | refine RegD_to sch_30_1 ?sx tysOk (by decide +kernel) ?ga ?gb | refine RegD_to sch_30_5 ?sx tysOk (by decide +kernel) ?ga ?gb)
  case ga =>
    simp -implicitDefEqProofs only [go_sem]
    repeat' (first
      | (refine CallW.onep (s_cloneItems s.items (by omega) (fun x hx => by have := hs3 x hx; omega)) p_cloneItems (by simp -implicitDefEqProofs only [go_sem]) rfl ?_; simp -implicitDefEqProofs only [go_sem])
      | exact rfl
      | refine ⟨?_, ?_⟩)
  simp -implicitDefEqProofs only [go_sem]
  refine LoopW.slotsM [false, false, true, true, false, false, false, false, false, false, false, false, false, false, true, true, true, false, false, false, false, false, false, false, false, false, false, false, false, false, false, false, false, false, false] (α := Nat) (fun i => [(16, I i)]) (fun i => [(88, .rows 4 ((s.groups.take i).map Gr.rowO))]) (fun i => s.groups.length - i) (fun i => i ≤ s.groups.length) 0 (by simp -implicitDefEqProofs only [go_sem, LeTs_undef, LeTs_same, LeTs_nil]; try simp [LeTs]) (by simp -implicitDefEqProofs only [go_sem, List.take_zero]) (by omega) ?_
  intro i hi
  simp -implicitDefEqProofs only [go_sem]
  refine BrA_i (fun h => ?_) (fun h => ?_) <;> simp -implicitDefEqProofs only [go_sem]
  · have h : i < s.groups.length := by simp at h; omega
    have h0i : (0 : Int) ≤ i := by omega
    have h1i : (i : Int) < s.groups.length := by omega
    have wi : IntKind.i64.wrap ((i : Int) + 1) = ((i + 1 : Nat) : Int) := by rw [wrap64 (by omega) (by omega)]; omega
    have hf := hs4 _ (List.getElem_mem h)
    have e : (s.groups.take (i + 1)).map Gr.rowO = (s.groups.take i).map Gr.rowO ++ [[T.str s.groups[i].name, T.int .i64 s.groups[i].last.t, T.int .i64 s.groups[i].last.n, T.list true 5 (s.groups[i].waits.map Wt.row)]] := by
      rw [List.take_succ_eq_append_getElem h, List.map_append]; rfl
    simp -implicitDefEqProofs only [go_sem, h, h0i, h1i, row_getD _ _ h, Gr.row]
    (first | refine RegD_of sch_30_1 tysOk (by decide +kernel) ?_ | refine RegD_of sch_30_5 tysOk (by decide +kernel) ?_)
    simp -implicitDefEqProofs only [go_sem]
    refine CallW.onep (s_cloneWaits s.groups[i].waits (by omega)) p_cloneWaits (by simp -implicitDefEqProofs only [go_sem]) rfl ?_
    simp -implicitDefEqProofs only [go_sem, wi]
    refine ⟨by unfold roomy; simp; omega, .to [40, 240, 248, 225, 226, 227] (i + 1) rfl ?_ ?_ (by omega) h⟩ <;> simp -implicitDefEqProofs only [go_sem, LeTs_undef, LeTs_same, LeTs_nil, e]
  · have h : i = s.groups.length := by simp at h; omega
    subst h
    simp -implicitDefEqProofs only [go_sem, List.take_length]
theorem p_l9Item : Plain Try.prog 73 := ⟨_, Try.func73, rfl, by decide⟩
theorem s_l9Item (x : It) (hx : x.fields.length ≤ 2097152) : Spec Try.prog 73 [x.av] (fun r => r = .agg [I x.id.t, I x.id.n, .own (.list true 2 (x.fields.map Pr.row))]) := by
  refine Spec.of tysOk mixed Try.func73 rfl (by decide) ?_
  simp -implicitDefEqProofs only [go_sem, Try.f73]
  (first | refine RegD_of sch_73_1 tysOk (by decide +kernel) ?_)
  simp -implicitDefEqProofs only [go_sem, shared_Pr]
  (unfold roomy; omega)
theorem p_l9Copy : Plain Try.prog 34 := ⟨_, Try.func34, rfl, by decide⟩
theorem s_l9Copy (s : Stm) (hs : s.md) : Spec Try.prog 34 [s.av] (fun r => r = s.avO) := by
  obtain ⟨hs1, hs2, hs3, hs4⟩ := hs
  refine Spec.of tysOk mixed Try.func34 rfl (by decide) ?_
  simp -implicitDefEqProofs only [go_sem, Try.f34]
  refine LoopW.nil [(24, 2, 208, 3), (24, 3, 392, 4)] (by conv => lhs; simp -implicitDefEqProofs only [go_sem]) ?_
  refine LoopW.slotsM [false, true, true, true, true, false, false, false, false, false, false, false, false, false, false, false, false, false, false, false, false, false, false, false, false, false, false, false, false, false, false, false, false, false, false, false, false, false, false, false, false, false, false, false, false, false, false, false, false, false, false, false] (α := Nat) (fun i => [(4, I i)]) (fun i => [(208, .rows 3 ((s.items.take i).map It.rowO))]) (fun i => s.items.length - i) (fun i => i ≤ s.items.length) 0 (by simp -implicitDefEqProofs only [go_sem, LeTs_undef, LeTs_same, LeTs_nil]; try simp [LeTs]) (by simp -implicitDefEqProofs only [go_sem, List.take_zero, List.map_nil]) (by omega) ?_
  intro i hi
  simp -implicitDefEqProofs only [go_sem]
  refine BrA_i (fun h => ?_) (fun h => ?_) <;> simp -implicitDefEqProofs only [go_sem]
  · have h : i < s.items.length := by simp at h; omega
    have h0i : (0 : Int) ≤ i := by omega
    have h1i : (i : Int) < s.items.length := by omega
    have wi : IntKind.i64.wrap ((i : Int) + 1) = ((i + 1 : Nat) : Int) := by rw [wrap64 (by omega) (by omega)]; omega
    have hf := hs3 _ (List.getElem_mem h)
    have e : (s.items.take (i + 1)).map It.rowO = (s.items.take i).map It.rowO ++ [[T.int .i64 s.items[i].id.t, T.int .i64 s.items[i].id.n, T.list true 2 (s.items[i].fields.map Pr.row)]] := by
      rw [List.take_succ_eq_append_getElem h, List.map_append]; rfl
    refine RegD_of sch_34_5 tysOk (by kernel_rfl) ?_
    simp -implicitDefEqProofs only [go_sem, h, h0i, h1i, row_getD _ _ h, It.row]
    refine CallW.onep (s_l9Item s.items[i] (by omega)) p_l9Item (by simp -implicitDefEqProofs only [go_sem]) rfl ?_
    simp -implicitDefEqProofs only [go_sem, wi]
    refine ⟨by unfold roomy; simp; omega, .to [200, 193, 194, 195] (i + 1) rfl ?_ ?_ (by omega) h⟩ <;> simp -implicitDefEqProofs only [go_sem, LeTs_undef, LeTs_same, LeTs_nil, e]
  · have h : i = s.items.length := by simp at h; omega
    subst h
    clear hi
    simp -implicitDefEqProofs only [go_sem, List.take_length]
    refine LoopW.slotsM [false, true, true, true, false, true, false, false, false, false, false, false, false, false, false, false, false, false, false, false, false, false, false, false, false, false, false, false, false, false, false, false, false, false, false, false, false, false, false, false, false, false, false, false, false, false, false, false, false, false, false, false] (α := Nat) (fun i => [(5, I i)]) (fun i => [(392, .rows 4 ((s.groups.take i).map Gr.rowO))]) (fun i => s.groups.length - i) (fun i => i ≤ s.groups.length) 0 (by simp -implicitDefEqProofs only [go_sem, LeTs_undef, LeTs_same, LeTs_nil]; try simp [LeTs]) (by simp -implicitDefEqProofs only [go_sem, List.take_zero, List.map_nil]) (by omega) ?_
    intro i hi
    simp -implicitDefEqProofs only [go_sem]
    refine BrA_i (fun h => ?_) (fun h => ?_) <;> simp -implicitDefEqProofs only [go_sem]
    · have h : i < s.groups.length := by simp at h; omega
      have h0i : (0 : Int) ≤ i := by omega
      have h1i : (i : Int) < s.groups.length := by omega
      have wi : IntKind.i64.wrap ((i : Int) + 1) = ((i + 1 : Nat) : Int) := by rw [wrap64 (by omega) (by omega)]; omega
      have hf := hs4 _ (List.getElem_mem h)
      have e : (s.groups.take (i + 1)).map Gr.rowO = (s.groups.take i).map Gr.rowO ++ [[T.str s.groups[i].name, T.int .i64 s.groups[i].last.t, T.int .i64 s.groups[i].last.n, T.list true 5 (s.groups[i].waits.map Wt.row)]] := by
        rw [List.take_succ_eq_append_getElem h, List.map_append]; rfl
      have hr : roomy s.groups[i].waits.length 48 := by unfold roomy; omega
      simp -implicitDefEqProofs only [go_sem, h, h0i, h1i, row_getD _ _ h, Gr.row, shared_Wt, hr, wi]
      refine ⟨by unfold roomy; simp; omega, .to [48, 320, 344, 384] (i + 1) rfl ?_ ?_ (by omega) h⟩ <;> simp -implicitDefEqProofs only [go_sem, LeTs_undef, LeTs_same, LeTs_nil, e]
    · have h : i = s.groups.length := by simp at h; omega
      subst h
      simp -implicitDefEqProofs only [go_sem, List.take_length]
end Go.Proofs.Ytaajnbfnaoecnaa.Am
namespace Go.Proofs.Ytaajnbfnaoecnaa.Am
open Go
set_option maxRecDepth 100000
set_option linter.unusedSimpArgs false
set_option linter.unusedVariables false
theorem s_isNaN (n : Int) : Spec Try.prog 101 [I n] (fun r => r = Bo false) := by
  refine Spec.of tysOk mixed Try.func101 rfl (by decide) ?_
  simp -implicitDefEqProofs only [go_sem, Try.f101]
theorem p_isNaN : Plain Try.prog 101 := ⟨_, Try.func101, rfl, by decide⟩
def cmpM (a b : Int) : Int := if a < b then -1 else if b < a then 1 else 0
theorem s_compare (a b : Int) : Spec Try.prog 77 [I a, I b] (fun r => r = I (cmpM a b)) := by
  refine Spec.of tysOk mixed Try.func77 rfl (by decide) ?_
  simp -implicitDefEqProofs only [go_sem, Try.f77]
  refine .one (s_isNaN _) p_isNaN rfl trivial ?_
  simp -implicitDefEqProofs only [go_sem]
  refine .one (s_isNaN _) p_isNaN rfl trivial ?_
  simp -implicitDefEqProofs only [go_sem]
  refine BrA_i (fun h => ?_) (fun h => ?_)
  · simp -implicitDefEqProofs only [go_sem]; simp_all [cmpM]
  · simp -implicitDefEqProofs only [go_sem]
    refine BrA_i (fun h => ?_) (fun h => ?_) <;> simp -implicitDefEqProofs only [go_sem] <;> simp_all [cmpM] <;> omega
theorem p_compare : Plain Try.prog 77 := ⟨_, Try.func77, rfl, by decide⟩
def firstM (xs : List Int) : Int := (xs.find? (· != 0)).getD 0
theorem s_or (xs : List Int) (hx : xs.length < 1000000) : Spec Try.prog 76 [.t (.list false 1 (xs.map fun n => [T.int .i64 n]))] (fun r => r = I (firstM xs)) := by
  refine Spec.of tysOk mixed Try.func76 rfl (by decide) ?_
  simp -implicitDefEqProofs only [go_sem, Try.f76]
  refine LoopW.slots (α := Nat) (fun i => [(8, I i)]) (fun _ => []) (fun i => xs.length - i) (fun i => i ≤ xs.length ∧ (∀ n ∈ xs.take i, n = 0)) 0 rfl rfl (by simp) ?_
  rintro i ⟨hi, hz⟩
  simp -implicitDefEqProofs only [go_sem]
  refine BrA_i (fun h => ?_) (fun h => ?_)
  · have h : i < xs.length := by simp at h; omega
    simp -implicitDefEqProofs only [go_sem, row_getD _ _ h]
    refine ⟨⟨by omega, by omega⟩, BrA_i (fun h0 => ?_) (fun h0 => ?_)⟩
    rotate_left
    · simp -implicitDefEqProofs only [go_sem]
      have hz' : ∀ n ∈ xs.take i, ¬ ((n != 0) = true) := fun n hn => by simp [hz n hn]
      have : xs = xs.take i ++ xs[i] :: xs.drop (i + 1) := by simp
      have h0 : (xs[i] != 0) = true := by simpa using h0
      have h1 : xs.find? (· != 0) = some xs[i] := by
        rw [List.find?_eq_some_iff_append]
        exact ⟨h0, _, _, this, fun n hn => by simp [hz n hn]⟩
      unfold firstM; rw [h1]; rfl
    · simp -implicitDefEqProofs only [go_sem]
      refine .to [] (i + 1) rfl ?_ rfl (by omega) ⟨h, ?_⟩
      · simp -implicitDefEqProofs only [go_sem, LeTs_undef, LeTs_same]
        simp only [wrap64 (n := (i : Int) + 1) (by omega) (by omega)]
        simp [LeTs]
      · intro n hn
        simp at h0
        rw [List.take_succ_eq_append_getElem h, List.mem_append, List.mem_singleton] at hn
        rcases hn with hn | hn
        · exact hz n hn
        · rw [hn]; exact h0
  · simp -implicitDefEqProofs only [go_sem]
    have h : i = xs.length := by simp at h; omega
    subst h
    have : xs.find? (· != 0) = none := List.find?_eq_none.2 fun n hn => by simp [hz n (by simpa using hn)]
    simp [firstM, this]
theorem p_or : Plain Try.prog 76 := ⟨_, Try.func76, rfl, by decide⟩
def ordM (a b c d : Int) : Int := if cmpM a c = 0 then cmpM b d else cmpM a c
theorem find2 (x y : Int) : firstM [x, y] = if x = 0 then y else x := by
  unfold firstM
  by_cases h : x = 0 <;> by_cases h' : y = 0 <;> simp [List.find?_cons, h, h', bne]
  all_goals (split <;> simp_all)
theorem s_idOrder (a b c d : Int) : Spec Try.prog 41 [.agg [I a, I b], .agg [I c, I d]] (fun r => r = I (ordM a b c d)) := by
  refine Spec.of tysOk mixed Try.func41 rfl (by decide) ?_
  simp -implicitDefEqProofs only [go_sem, Try.f41]
  refine RegD_of sch_41_1 tysOk (by kernel_rfl) ?_
  simp -implicitDefEqProofs only [go_sem]
  refine .one (s_compare _ _) p_compare rfl trivial ?_
  simp -implicitDefEqProofs only [go_sem]
  refine .one (s_compare _ _) p_compare rfl trivial ?_
  simp -implicitDefEqProofs only [go_sem]
  refine .one (s_or [cmpM a c, cmpM b d] (by simp)) p_or rfl trivial ?_
  simp -implicitDefEqProofs only [go_sem]
  rw [find2]; rfl
theorem p_idOrder : Plain Try.prog 41 := ⟨_, Try.func41, rfl, by decide⟩
theorem s_IdLess (a b c d : Int) : Spec Try.prog 25 [.agg [I a, I b], .agg [I c, I d]] (fun r => r = Bo (decide (ordM a b c d < 0))) := by
  refine Spec.of tysOk mixed Try.func25 rfl (by decide) ?_
  simp -implicitDefEqProofs only [go_sem, Try.f25]
  refine .one (s_idOrder _ _ _ _) p_idOrder rfl trivial ?_
  simp -implicitDefEqProofs only [go_sem]
theorem p_IdLess : Plain Try.prog 25 := ⟨_, Try.func25, rfl, by decide⟩
def withinM (n lo hi : Int) : Bool := decide (lo ≤ n) && decide (n ≤ hi)
theorem s_within (n lo hi : Int) : Spec Try.prog 63 [I n, I lo, I hi] (fun r => r = Bo (withinM n lo hi)) := by
  refine Spec.of tysOk mixed Try.func63 rfl (by decide) ?_
  simp -implicitDefEqProofs only [go_sem, Try.f63]
  refine BrA_i (fun h => ?_) (fun h => ?_) <;> simp -implicitDefEqProofs only [go_sem] <;> simp_all [withinM] <;> omega
theorem p_within : Plain Try.prog 63 := ⟨_, Try.func63, rfl, by decide⟩
def keyOkM (b : ByteArray) : Bool := withinM b.size 1 12
theorem s_keyOk (b : ByteArray) : Spec Try.prog 62 [.t (.str b)] (fun r => r = Bo (keyOkM b)) := by
  refine Spec.of tysOk mixed Try.func62 rfl (by decide) ?_
  simp -implicitDefEqProofs only [go_sem, Try.f62]
  refine .one (s_within _ _ _) p_within rfl trivial ?_
  simp -implicitDefEqProofs only [go_sem]
  rfl
theorem p_keyOk : Plain Try.prog 62 := ⟨_, Try.func62, rfl, by decide⟩
def idOkM (a b : Int) : Bool := withinM a 0 1000000 && withinM b 0 1000000000
theorem s_idOk (a b : Int) : Spec Try.prog 40 [.agg [I a, I b]] (fun r => r = Bo (idOkM a b)) := by
  refine Spec.of tysOk mixed Try.func40 rfl (by decide) ?_
  simp -implicitDefEqProofs only [go_sem, Try.f40]
  refine .one (s_within _ _ _) p_within rfl trivial ?_
  simp -implicitDefEqProofs only [go_sem]
  refine BrA_i (fun h => ?_) (fun h => ?_)
  · simp -implicitDefEqProofs only [go_sem]
    refine .one (s_within _ _ _) p_within rfl trivial ?_
    simp -implicitDefEqProofs only [go_sem]
    simp [idOkM, h]
  · simp -implicitDefEqProofs only [go_sem]
    simp [idOkM, h]
theorem p_idOk : Plain Try.prog 40 := ⟨_, Try.func40, rfl, by decide⟩
def okAt (lt ln : Int) (ws : List Wt) (i : Nat) (x : Wt) : Bool :=
  idOkM x.id.t x.id.n && (match i with | 0 => true | j + 1 => match ws[j]? with | some y => decide (ordM y.id.t y.id.n x.id.t x.id.n < 0) | none => true) && !decide (ordM lt ln x.id.t x.id.n < 0) && keyOkM x.who && withinM x.at' 0 1000000 && withinM x.tm 1 1000000000
theorem s_groupOk (name : ByteArray) (lt ln : Int) (ws : List Wt) (hw : ws.length < 2000000) : Spec Try.prog 43 [.agg [.t (.str name), I lt, I ln, .t (.list false 5 (ws.map Wt.row))]]
    (fun r => ∃ b, r = Bo b ∧ b = (decide (∀ i (h : i < ws.length), okAt lt ln ws i ws[i] = true) && keyOkM name && idOkM lt ln && decide (ws.length ≤ 16))) := by
  refine Spec.of tysOk mixed Try.func43 rfl (by decide) ?_
  simp -implicitDefEqProofs only [go_sem, Try.f43]
  refine LoopW.slots (α := Nat) (fun i => [(8, I i)]) (fun _ => []) (fun i => ws.length - i) (fun i => i ≤ ws.length ∧ (∀ j (h : j < ws.length), j < i → okAt lt ln ws j ws[j] = true)) 0 rfl rfl (by simp) ?_
  rintro i ⟨hi, hz⟩
  simp -implicitDefEqProofs only [go_sem]
  refine BrA_i (fun h => ?_) (fun h => ?_)
  · have h : i < ws.length := by simp at h; omega
    simp -implicitDefEqProofs only [go_sem, row_getD _ _ h, Wt.row]
    refine ⟨⟨by omega, by omega⟩, ?_⟩
    refine RegD_of sch_43_4 tysOk (by kernel_rfl) ?_
    have hp : 0 < i → IntKind.i64.wrap ((i : Int) - 1) = ((i - 1 : Nat) : Int) := fun h0 => by rw [wrap64 (by omega) (by omega)]; omega
    have hq : 0 < i → i - 1 < ws.length := fun _ => by omega
    have good : okAt lt ln ws i ws[i] = true → (∀ j (h : j < ws.length), j < i + 1 → okAt lt ln ws j ws[j] = true) := fun hg j hj hl => by
      rcases Nat.lt_succ_iff_lt_or_eq.1 hl with hl | rfl
      · exact hz j hj hl
      · exact hg
    have bad : okAt lt ln ws i ws[i] = false → (∃ b, Bo false = Bo b ∧ b = (decide (∀ i (h : i < ws.length), okAt lt ln ws i ws[i] = true) && keyOkM name && idOkM lt ln && decide (ws.length ≤ 16))) := fun hg => by
      refine ⟨_, rfl, ?_⟩
      have : ¬ ∀ i (h : i < ws.length), okAt lt ln ws i ws[i] = true := fun hall => by rw [hall i h] at hg; cases hg
      simp [this]
    have hw1 : IntKind.i64.wrap ((i : Int) + 1) = ((i + 1 : Nat) : Int) := by rw [wrap64 (by omega) (by omega)]; omega
    simp -implicitDefEqProofs only [go_sem]
    refine .one (s_idOk _ _) p_idOk rfl trivial ?_
    simp -implicitDefEqProofs only [go_sem]
    refine BrA_i (fun h1 => ?_) (fun h1 => ?_) <;> simp -implicitDefEqProofs only [go_sem]
    · refine BrA_i (fun h2 => ?_) (fun h2 => ?_) <;> simp -implicitDefEqProofs only [go_sem]
      · have h2 : 0 < i := by simpa using h2
        simp -implicitDefEqProofs only [go_sem, hp h2, row_getD _ _ (hq h2), Wt.row]
        refine ⟨⟨by omega, by omega⟩, ?_⟩
        refine .one (s_idOrder _ _ _ _) p_idOrder rfl trivial ?_
        simp -implicitDefEqProofs only [go_sem]
        refine BrA_i (fun h3 => ?_) (fun h3 => ?_) <;> simp -implicitDefEqProofs only [go_sem]
        · refine bad ?_
          obtain ⟨j, rfl⟩ : ∃ j, i = j + 1 := ⟨i - 1, by omega⟩
          have hj : ws[j]? = some ws[j] := List.getElem?_eq_getElem (by omega)
          simp only [Nat.add_sub_cancel, decide_eq_true_eq] at h3
          have : ¬ ordM ws[j].id.t ws[j].id.n ws[j + 1].id.t ws[j + 1].id.n < 0 := by omega
          simp [okAt, hj, this]
        have hprev : (match i with | 0 => true | j + 1 => match ws[j]? with | some y => decide (ordM y.id.t y.id.n ws[i].id.t ws[i].id.n < 0) | none => true) = true := by
          obtain ⟨j, rfl⟩ : ∃ j, i = j + 1 := ⟨i - 1, by omega⟩
          have hj : ws[j]? = some ws[j] := List.getElem?_eq_getElem (by omega)
          simp only [Nat.add_sub_cancel, decide_eq_false_iff_not] at h3
          have : ordM ws[j].id.t ws[j].id.n ws[j + 1].id.t ws[j + 1].id.n < 0 := by omega
          simp [hj, this]
        refine .one (s_IdLess _ _ _ _) p_IdLess rfl trivial ?_
        simp -implicitDefEqProofs only [go_sem]
        refine BrA_i (fun h4 => ?_) (fun h4 => ?_) <;> simp -implicitDefEqProofs only [go_sem]
        · exact bad (by simp [okAt, h4])
        refine .one (s_keyOk _) p_keyOk rfl trivial ?_
        simp -implicitDefEqProofs only [go_sem]
        refine BrA_i (fun h5 => ?_) (fun h5 => ?_) <;> simp -implicitDefEqProofs only [go_sem]
        · refine .one (s_within _ _ _) p_within rfl trivial ?_
          simp -implicitDefEqProofs only [go_sem]
          refine BrA_i (fun h6 => ?_) (fun h6 => ?_) <;> simp -implicitDefEqProofs only [go_sem]
          · refine .one (s_within _ _ _) p_within rfl trivial ?_
            simp -implicitDefEqProofs only [go_sem]
            refine BrA_i (fun h7 => ?_) (fun h7 => ?_) <;> simp -implicitDefEqProofs only [go_sem]
            · refine .to [32] (i + 1) rfl ?_ ?_ (by omega) ⟨h, good (by simp [okAt, h1, h4, h5, h6, h7, hprev])⟩ <;> simp -implicitDefEqProofs only [go_sem, LeTs_undef, LeTs_same, LeTs_nil, hw1]
            · exact bad (by simp [okAt, h7])
          · exact bad (by simp [okAt, h6])
        · exact bad (by simp [okAt, h5])
      · have h2 : i = 0 := by simp at h2; omega
        have hprev : (match i with | 0 => true | j + 1 => match ws[j]? with | some y => decide (ordM y.id.t y.id.n ws[i].id.t ws[i].id.n < 0) | none => true) = true := by subst h2; rfl
        refine .one (s_IdLess _ _ _ _) p_IdLess rfl trivial ?_
        simp -implicitDefEqProofs only [go_sem]
        refine BrA_i (fun h4 => ?_) (fun h4 => ?_) <;> simp -implicitDefEqProofs only [go_sem]
        · exact bad (by simp [okAt, h4])
        refine .one (s_keyOk _) p_keyOk rfl trivial ?_
        simp -implicitDefEqProofs only [go_sem]
        refine BrA_i (fun h5 => ?_) (fun h5 => ?_) <;> simp -implicitDefEqProofs only [go_sem]
        · refine .one (s_within _ _ _) p_within rfl trivial ?_
          simp -implicitDefEqProofs only [go_sem]
          refine BrA_i (fun h6 => ?_) (fun h6 => ?_) <;> simp -implicitDefEqProofs only [go_sem]
          · refine .one (s_within _ _ _) p_within rfl trivial ?_
            simp -implicitDefEqProofs only [go_sem]
            refine BrA_i (fun h7 => ?_) (fun h7 => ?_) <;> simp -implicitDefEqProofs only [go_sem]
            · refine .to [32] (i + 1) rfl ?_ ?_ (by omega) ⟨h, good (by simp [okAt, h1, h4, h5, h6, h7, hprev])⟩ <;> simp -implicitDefEqProofs only [go_sem, LeTs_undef, LeTs_same, LeTs_nil, hw1]
            · exact bad (by simp [okAt, h7])
          · exact bad (by simp [okAt, h6])
        · exact bad (by simp [okAt, h5])
    · exact bad (by simp [okAt, h1])
  · simp -implicitDefEqProofs only [go_sem]
    refine .one (s_keyOk _) p_keyOk rfl trivial ?_
    simp -implicitDefEqProofs only [go_sem]
    have hz' : ∀ i (h : i < ws.length), okAt lt ln ws i ws[i] = true := fun j hj => hz j hj (by simp at h; omega)
    refine BrA_i (fun h1 => ?_) (fun h1 => ?_) <;> simp -implicitDefEqProofs only [go_sem]
    · refine .one (s_idOk _ _) p_idOk rfl trivial ?_
      simp -implicitDefEqProofs only [go_sem]
      refine BrA_i (fun h2 => ?_) (fun h2 => ?_) <;> simp -implicitDefEqProofs only [go_sem]
      · refine ⟨_, rfl, ?_⟩
        simp [h1, h2, hz']
        omega
      · refine ⟨_, rfl, ?_⟩
        simp [h1, h2, hz']
    · refine ⟨_, rfl, ?_⟩
      simp [h1]
end Go.Proofs.Ytaajnbfnaoecnaa.Am
namespace Go.Proofs.Ytaajnbfnaoecnaa.Am
open Go
set_option maxRecDepth 100000
set_option linter.unusedSimpArgs false
set_option linter.unusedVariables false
theorem p_l1In : Plain Try.prog 74 := ⟨_, Try.func74, rfl, by decide⟩
theorem s_l1In (n lo hi : Int) : Spec Try.prog 74 [I n, I lo, I hi] (fun r => r = Bo (withinM n lo hi)) := by
  refine Spec.of tysOk mixed Try.func74 rfl (by decide) ?_
  simp -implicitDefEqProofs only [go_sem, Try.f74]
  refine BrA_i (fun h => ?_) (fun h => ?_) <;> simp -implicitDefEqProofs only [go_sem] <;> simp_all [withinM] <;> omega
theorem p_l4Key : Plain Try.prog 75 := ⟨_, Try.func75, rfl, by decide⟩
theorem s_l4Key (b : ByteArray) : Spec Try.prog 75 [.t (.str b)] (fun r => r = Bo (keyOkM b)) := by
  refine Spec.of tysOk mixed Try.func75 rfl (by decide) ?_
  simp -implicitDefEqProofs only [go_sem, Try.f75]
  refine .one (s_l1In _ _ _) p_l1In rfl trivial ?_
  simp -implicitDefEqProofs only [go_sem]
  rfl
theorem p_l9Id : Plain Try.prog 36 := ⟨_, Try.func36, rfl, by decide⟩
theorem s_l9Id (a b : Int) : Spec Try.prog 36 [.agg [I a, I b]] (fun r => r = Bo (idOkM a b)) := by
  refine Spec.of tysOk mixed Try.func36 rfl (by decide) ?_
  simp -implicitDefEqProofs only [go_sem, Try.f36]
  refine .one (s_l1In _ _ _) p_l1In rfl trivial ?_
  simp -implicitDefEqProofs only [go_sem]
  refine BrA_i (fun h => ?_) (fun h => ?_) <;> simp -implicitDefEqProofs only [go_sem]
  · refine .one (s_l1In _ _ _) p_l1In rfl trivial ?_
    simp -implicitDefEqProofs only [go_sem]
    simp [idOkM, h]
  · simp [idOkM, h]
theorem ordM_lt (a b c d : Int) : ordM a b c d < 0 ↔ a < c ∨ (a = c ∧ b < d) := by
  unfold ordM cmpM
  split <;> split <;> (try split) <;> (try split) <;> omega
theorem p_sIdLess : Plain Try.prog 37 := ⟨_, Try.func37, rfl, by decide⟩
theorem s_sIdLess (a b c d : Int) : Spec Try.prog 37 [.agg [I a, I b], .agg [I c, I d]] (fun r => r = Bo (decide (ordM a b c d < 0))) := by
  refine Spec.of tysOk mixed Try.func37 rfl (by decide) ?_
  have e := ordM_lt a b c d
  simp -implicitDefEqProofs only [go_sem, Try.f37]
  refine BrA_i (fun h => ?_) (fun h => ?_) <;> simp -implicitDefEqProofs only [go_sem]
  · simp at h; simp [e, h]
  refine BrA_i (fun h1 => ?_) (fun h1 => ?_) <;> simp -implicitDefEqProofs only [go_sem]
  · simp at h h1; subst h1; simp [e]
  · simp at h h1
    have : ¬ a < c := by omega
    simp [e, h1, this]
end Go.Proofs.Ytaajnbfnaoecnaa.Am
namespace Go.Proofs.Ytaajnbfnaoecnaa.Am
open Go
set_option maxRecDepth 100000
set_option linter.unusedSimpArgs false
set_option linter.unusedVariables false
def allAt {α : Type} (good : α → Bool) (link : α → α → Bool) (xs : List α) : Bool := xs.all good && (xs.zip xs.tail).all fun p => link p.1 p.2
def goodAt {α : Type} (good : α → Bool) (link : α → α → Bool) (xs : List α) (i : Nat) : Bool :=
  match xs[i]? with
  | none => true
  | some x => good x && match i with
    | 0 => true
    | j + 1 => match xs[j]? with
      | none => true
      | some y => link y x
theorem allAt_iff {α : Type} (good : α → Bool) (link : α → α → Bool) (xs : List α) : allAt good link xs = true ↔ ∀ i, i < xs.length → goodAt good link xs i = true := by
  unfold allAt
  rw [Bool.and_eq_true, List.all_eq_true, List.all_eq_true]
  constructor
  · rintro ⟨h1, h2⟩ i hi
    unfold goodAt
    rw [List.getElem?_eq_getElem hi]
    simp only [Bool.and_eq_true]
    refine ⟨h1 _ (List.getElem_mem _), ?_⟩
    cases i with
    | zero => rfl
    | succ j =>
      have hj : j < xs.length := by omega
      simp only [List.getElem?_eq_getElem hj]
      refine h2 (xs[j], xs[j + 1]) ?_
      rw [List.mem_iff_getElem]
      refine ⟨j, by simp; omega, ?_⟩
      simp
  · intro h
    refine ⟨fun x hx => ?_, fun p hp => ?_⟩
    · obtain ⟨i, hi, rfl⟩ := List.mem_iff_getElem.1 hx
      have := h i hi
      unfold goodAt at this
      rw [List.getElem?_eq_getElem hi] at this
      simp only [Bool.and_eq_true] at this
      exact this.1
    · obtain ⟨j, hj, rfl⟩ := List.mem_iff_getElem.1 hp
      simp at hj
      have := h (j + 1) (by omega)
      unfold goodAt at this
      rw [List.getElem?_eq_getElem (show j + 1 < xs.length by omega)] at this
      simp only [Bool.and_eq_true, List.getElem?_eq_getElem (show j < xs.length by omega)] at this
      simpa using this.2
theorem goodAt_0 {α : Type} (good : α → Bool) (link : α → α → Bool) (xs : List α) {i : Nat} (h : i < xs.length) (h0 : i = 0) : goodAt good link xs i = good xs[i] := by
  subst h0
  simp [goodAt, h]
theorem goodAt_s {α : Type} (good : α → Bool) (link : α → α → Bool) (xs : List α) {i : Nat} (h : i < xs.length) (h0 : 0 < i) : goodAt good link xs i = (good xs[i] && link (xs[i - 1]'(by omega)) xs[i]) := by
  obtain ⟨j, rfl⟩ : ∃ j, i = j + 1 := ⟨i - 1, by omega⟩
  have hj : j < xs.length := by omega
  simp [goodAt, h, hj]
theorem goodAt_no {α : Type} (good : α → Bool) (link : α → α → Bool) (xs : List α) {i : Nat} (h : i < xs.length) (hg : good xs[i] = false) : goodAt good link xs i = false := by
  simp [goodAt, h, hg]
theorem p_FieldsOk : Plain Try.prog 78 := ⟨_, Try.func78, rfl, by decide⟩
def prGood (x : Pr) : Bool := decide (x.k.size ≤ 40) && decide (x.v.size ≤ 40)
def prLink (x y : Pr) : Bool := bytesLt x.k y.k
def fieldsOkM (xs : List Pr) : Bool := allAt prGood prLink xs && decide (xs.length ≤ 16)
theorem s_FieldsOk (xs : List Pr) (hx : xs.length < 4611686018427387904) : Spec Try.prog 78 [.t (.list false 2 (xs.map Pr.row))] (fun r => r = Bo (fieldsOkM xs)) := by
  refine Spec.of tysOk mixed Try.func78 rfl (by decide) ?_
  simp -implicitDefEqProofs only [go_sem, Try.f78]
  refine LoopW.slots (α := Nat) (fun i => [(7, I i)]) (fun _ => []) (fun i => xs.length - i) (fun i => i ≤ xs.length ∧ ∀ j, j < i → goodAt prGood prLink xs j = true) 0 rfl rfl (by simp) ?_
  rintro i ⟨hi, hz⟩
  simp -implicitDefEqProofs only [go_sem]
  refine BrA_i (fun h => ?_) (fun h => ?_)
  · have h : i < xs.length := by simp at h; omega
    have hw1 : IntKind.i64.wrap ((i : Int) + 1) = ((i + 1 : Nat) : Int) := by rw [wrap64 (by omega) (by omega)]; omega
    have hp : 0 < i → IntKind.i64.wrap ((i : Int) - 1) = ((i - 1 : Nat) : Int) := fun h0 => by rw [wrap64 (by omega) (by omega)]; omega
    have bad : goodAt prGood prLink xs i = false → AV.t (T.bool false) = Bo (fieldsOkM xs) := fun hg => by
      have : allAt prGood prLink xs = false := by
        cases ha : allAt prGood prLink xs
        · rfl
        · rw [(allAt_iff _ _ _).1 ha i h] at hg; cases hg
      simp [fieldsOkM, this]
    simp -implicitDefEqProofs only [go_sem, row_getD _ _ h, Pr.row]
    refine ⟨⟨by omega, by omega⟩, ?_⟩
    refine RegD_of sch_78_4 tysOk (by kernel_rfl) ?_
    simp -implicitDefEqProofs only [go_sem]
    refine BrA_i (fun h1 => ?_) (fun h1 => ?_) <;> simp -implicitDefEqProofs only [go_sem]
    · exact bad (goodAt_no _ _ _ h (by simp at h1; simp [prGood]; omega))
    refine BrA_i (fun h2 => ?_) (fun h2 => ?_) <;> simp -implicitDefEqProofs only [go_sem]
    · exact bad (goodAt_no _ _ _ h (by simp at h2; simp [prGood]; omega))
    have hg : prGood xs[i] = true := by simp at h1 h2; simp [prGood]; omega
    refine BrA_i (fun h3 => ?_) (fun h3 => ?_) <;> simp -implicitDefEqProofs only [go_sem]
    · have h3 : 0 < i := by simpa using h3
      have hq : i - 1 < xs.length := by omega
      simp -implicitDefEqProofs only [go_sem, hp h3, row_getD _ _ hq, Pr.row]
      refine ⟨⟨by omega, by omega⟩, ?_⟩
      refine BrA_i (fun h4 => ?_) (fun h4 => ?_) <;> simp -implicitDefEqProofs only [go_sem]
      · refine .to [32] (i + 1) rfl ?_ ?_ (by omega) ⟨h, fun j hj => ?_⟩ <;> (try simp -implicitDefEqProofs only [go_sem, LeTs_undef, LeTs_same, LeTs_nil, hw1])
        rcases Nat.lt_succ_iff_lt_or_eq.1 hj with hl | rfl
        · exact hz j hl
        · rw [goodAt_s _ _ _ h h3, hg]; simpa [prLink] using h4
      · exact bad (by rw [goodAt_s _ _ _ h h3]; simp [prLink, h4])
    · have h3 : i = 0 := by simp at h3; omega
      refine .to [32] (i + 1) rfl ?_ ?_ (by omega) ⟨h, fun j hj => ?_⟩ <;> (try simp -implicitDefEqProofs only [go_sem, LeTs_undef, LeTs_same, LeTs_nil, hw1])
      rcases Nat.lt_succ_iff_lt_or_eq.1 hj with hl | rfl
      · exact hz j hl
      · rw [goodAt_0 _ _ _ h h3, hg]
  · simp -implicitDefEqProofs only [go_sem]
    have h : i = xs.length := by simp at h; omega
    subst h
    have : allAt prGood prLink xs = true := (allAt_iff _ _ _).2 hz
    simp [fieldsOkM, this]
    omega
theorem p_sFieldsOk : Plain Try.prog 38 := ⟨_, Try.func38, rfl, by decide⟩
theorem s_sFieldsOk (xs : List Pr) (hx : xs.length < 4611686018427387904) : Spec Try.prog 38 [.t (.list false 2 (xs.map Pr.row))] (fun r => r = Bo (fieldsOkM xs)) := by
  refine Spec.of tysOk mixed Try.func38 rfl (by decide) ?_
  simp -implicitDefEqProofs only [go_sem, Try.f38]
  refine LoopW.slots (α := Nat) (fun i => [(3, I i)]) (fun _ => []) (fun i => xs.length - i) (fun i => i ≤ xs.length ∧ ∀ j, j < i → goodAt prGood prLink xs j = true) 0 rfl rfl (by simp) ?_
  rintro i ⟨hi, hz⟩
  simp -implicitDefEqProofs only [go_sem]
  refine BrA_i (fun h => ?_) (fun h => ?_)
  · have h : i < xs.length := by simp at h; omega
    have hw1 : IntKind.i64.wrap ((i : Int) + 1) = ((i + 1 : Nat) : Int) := by rw [wrap64 (by omega) (by omega)]; omega
    have hp : 0 < i → IntKind.i64.wrap ((i : Int) - 1) = ((i - 1 : Nat) : Int) := fun h0 => by rw [wrap64 (by omega) (by omega)]; omega
    have bad : goodAt prGood prLink xs i = false → AV.t (T.bool false) = Bo (fieldsOkM xs) := fun hg => by
      have : allAt prGood prLink xs = false := by
        cases ha : allAt prGood prLink xs
        · rfl
        · rw [(allAt_iff _ _ _).1 ha i h] at hg; cases hg
      simp [fieldsOkM, this]
    simp -implicitDefEqProofs only [go_sem]
    refine RegD_of sch_38_4 tysOk (by kernel_rfl) ?_
    simp -implicitDefEqProofs only [go_sem, row_getD _ _ h, Pr.row]
    refine ⟨⟨by omega, by omega⟩, ?_⟩
    refine BrA_i (fun h1 => ?_) (fun h1 => ?_) <;> simp -implicitDefEqProofs only [go_sem]
    · exact bad (goodAt_no _ _ _ h (by simp at h1; simp [prGood]; omega))
    simp -implicitDefEqProofs only [go_sem, row_getD _ _ h, Pr.row]
    refine ⟨⟨by omega, by omega⟩, ?_⟩
    refine BrA_i (fun h2 => ?_) (fun h2 => ?_) <;> simp -implicitDefEqProofs only [go_sem]
    · exact bad (goodAt_no _ _ _ h (by simp at h2; simp [prGood]; omega))
    have hg : prGood xs[i] = true := by simp at h1 h2; simp [prGood]; omega
    refine BrA_i (fun h3 => ?_) (fun h3 => ?_) <;> simp -implicitDefEqProofs only [go_sem]
    · have h3 : 0 < i := by simpa using h3
      have hq : i - 1 < xs.length := by omega
      simp -implicitDefEqProofs only [go_sem, hp h3, row_getD _ _ hq, Pr.row]
      refine ⟨⟨by omega, by omega⟩, ?_⟩
      simp -implicitDefEqProofs only [go_sem, row_getD _ _ h, Pr.row]
      refine ⟨⟨by omega, by omega⟩, ?_⟩
      refine BrA_i (fun h4 => ?_) (fun h4 => ?_) <;> simp -implicitDefEqProofs only [go_sem]
      · refine .to [] (i + 1) rfl ?_ ?_ (by omega) ⟨h, fun j hj => ?_⟩ <;> (try simp -implicitDefEqProofs only [go_sem, LeTs_undef, LeTs_same, LeTs_nil, hw1])
        rcases Nat.lt_succ_iff_lt_or_eq.1 hj with hl | rfl
        · exact hz j hl
        · rw [goodAt_s _ _ _ h h3, hg]; simpa [prLink] using h4
      · exact bad (by rw [goodAt_s _ _ _ h h3]; simp [prLink, h4])
    · have h3 : i = 0 := by simp at h3; omega
      refine .to [] (i + 1) rfl ?_ ?_ (by omega) ⟨h, fun j hj => ?_⟩ <;> (try simp -implicitDefEqProofs only [go_sem, LeTs_undef, LeTs_same, LeTs_nil, hw1])
      rcases Nat.lt_succ_iff_lt_or_eq.1 hj with hl | rfl
      · exact hz j hl
      · rw [goodAt_0 _ _ _ h h3, hg]
  · simp -implicitDefEqProofs only [go_sem]
    have h : i = xs.length := by simp at h; omega
    subst h
    have : allAt prGood prLink xs = true := (allAt_iff _ _ _).2 hz
    simp [fieldsOkM, this]
    omega
end Go.Proofs.Ytaajnbfnaoecnaa.Am
namespace Go.Proofs.Ytaajnbfnaoecnaa.Am
open Go
set_option maxRecDepth 100000
set_option linter.unusedSimpArgs false
set_option linter.unusedVariables false
theorem p_fieldsFull : Plain Try.prog 42 := ⟨_, Try.func42, rfl, by decide⟩
def fieldsFullM (xs : List Pr) : Bool := decide (0 < xs.length) && fieldsOkM xs
theorem s_fieldsFull (xs : List Pr) (hx : xs.length < 4611686018427387904) : Spec Try.prog 42 [.t (.list false 2 (xs.map Pr.row))] (fun r => r = Bo (fieldsFullM xs)) := by
  refine Spec.of tysOk mixed Try.func42 rfl (by decide) ?_
  simp -implicitDefEqProofs only [go_sem, Try.f42]
  refine BrA_i (fun h => ?_) (fun h => ?_) <;> simp -implicitDefEqProofs only [go_sem]
  · refine .one (s_FieldsOk xs hx) p_FieldsOk (by simp -implicitDefEqProofs only [go_sem]) trivial ?_
    simp -implicitDefEqProofs only [go_sem]
    have : 0 < xs.length := by simpa using h
    simp [fieldsFullM, this]
  · have : ¬ 0 < xs.length := by simpa using h
    simp [fieldsFullM, this]
def ltM (a b : Idt) : Bool := decide (ordM a.t a.n b.t b.n < 0)
def idM (a : Idt) : Bool := idOkM a.t a.n
def wtGood (last : Idt) (x : Wt) : Bool := idM x.id && !ltM last x.id && keyOkM x.who && withinM x.at' 0 1000000 && withinM x.tm 1 1000000000
def wtLink (x y : Wt) : Bool := ltM x.id y.id
def grOkM (g : Gr) : Bool := keyOkM g.name && idM g.last && decide (g.waits.length ≤ 16) && allAt (wtGood g.last) wtLink g.waits
def itGood (last : Idt) (x : It) : Bool := idM x.id && !ltM last x.id && fieldsFullM x.fields
def itLink (x y : It) : Bool := ltM x.id y.id
def grGood (last : Idt) (g : Gr) : Bool := grOkM g && !ltM last g.last
def grLink (x y : Gr) : Bool := bytesLt x.name y.name
def streamOkM (s : Stm) : Bool := idM s.last && decide (s.items.length ≤ 16) && decide (s.groups.length ≤ 3) && allAt (itGood s.last) itLink s.items && allAt (grGood s.last) grLink s.groups
theorem okAt_good (last : Idt) (ws : List Wt) (i : Nat) (h : i < ws.length) : okAt last.t last.n ws i ws[i] = goodAt (wtGood last) wtLink ws i := by
  rcases Nat.eq_zero_or_pos i with h0 | h0
  · rw [goodAt_0 _ _ _ h h0]
    subst h0
    simp [okAt, wtGood, idM, ltM]
  · rw [goodAt_s _ _ _ h h0]
    obtain ⟨j, rfl⟩ : ∃ j, i = j + 1 := ⟨i - 1, by omega⟩
    have hj : j < ws.length := by omega
    simp only [okAt, List.getElem?_eq_getElem hj, wtGood, wtLink, idM, ltM, Nat.add_sub_cancel]
    generalize idOkM _ _ = a
    generalize decide (ordM ws[j].id.t _ _ _ < 0) = b
    generalize decide (ordM last.t last.n _ _ < 0) = c
    generalize keyOkM _ = d
    generalize withinM _ 0 _ = e
    generalize withinM _ 1 _ = f
    cases a <;> cases b <;> cases c <;> cases d <;> cases e <;> cases f <;> rfl
theorem s_grOk (g : Gr) (h : g.waits.length < 2000000) : Spec Try.prog 43 [g.av] (fun r => r = Bo (grOkM g)) :=
  (s_groupOk g.name g.last.t g.last.n g.waits h).weaken fun r ⟨b, hr, hb⟩ => by
    rw [hr, hb]
    have : decide (∀ i (h : i < g.waits.length), okAt g.last.t g.last.n g.waits i g.waits[i] = true) = allAt (wtGood g.last) wtLink g.waits := by
      rw [Bool.eq_iff_iff, decide_eq_true_eq, allAt_iff]
      exact forall_congr' fun i => forall_congr' fun hi => by rw [okAt_good _ _ _ hi]
    rw [this]
    unfold grOkM idM
    cases allAt (wtGood g.last) wtLink g.waits <;> cases keyOkM g.name <;> cases idOkM g.last.t g.last.n <;> cases decide (g.waits.length ≤ 16) <;> rfl
end Go.Proofs.Ytaajnbfnaoecnaa.Am
namespace Go.Proofs.Ytaajnbfnaoecnaa.Am
open Go
set_option maxRecDepth 100000
set_option linter.unusedSimpArgs false
set_option linter.unusedVariables false
theorem p_grOk : Plain Try.prog 43 := ⟨_, Try.func43, rfl, by decide⟩
theorem p_StreamOk : Plain Try.prog 12 := ⟨_, Try.func12, rfl, by decide⟩
theorem s_StreamOk (s : Stm) (hs : s.sm) (hw : ∀ g ∈ s.groups, g.waits.length < 2000000) : Spec Try.prog 12 [s.av] (fun r => r = Bo (streamOkM s)) := by
  obtain ⟨hs1, hs2, hs3, hs4⟩ := hs
  refine Spec.of tysOk mixed Try.func12 rfl (by decide) ?_
  simp -implicitDefEqProofs only [go_sem, Try.f12]
  refine .one (s_idOk s.last.t s.last.n) p_idOk (by simp -implicitDefEqProofs only [go_sem]) trivial ?_
  simp -implicitDefEqProofs only [go_sem]
  refine BrA_i (fun h1 => ?_) (fun h1 => ?_) <;> simp -implicitDefEqProofs only [go_sem]
  · refine BrA_i (fun h2 => ?_) (fun h2 => ?_) <;> simp -implicitDefEqProofs only [go_sem]
    · have : ¬ s.items.length ≤ 16 := by simp at h2; omega
      simp [streamOkM, this]
    refine BrA_i (fun h3 => ?_) (fun h3 => ?_) <;> simp -implicitDefEqProofs only [go_sem]
    · have : ¬ s.groups.length ≤ 3 := by simp at h3; omega
      simp [streamOkM, this]
    have bad1 : allAt (itGood s.last) itLink s.items = false → AV.t (T.bool false) = Bo (streamOkM s) := fun h => by simp [streamOkM, h]
    have bad2 : allAt (grGood s.last) grLink s.groups = false → AV.t (T.bool false) = Bo (streamOkM s) := fun h => by simp [streamOkM, h]
    refine LoopW.slots (α := Nat) (fun i => [(26, I i)]) (fun _ => []) (fun i => s.items.length - i) (fun i => i ≤ s.items.length ∧ ∀ j, j < i → goodAt (itGood s.last) itLink s.items j = true) 0 rfl rfl (by simp) ?_
    rintro i ⟨hi, hz⟩
    simp -implicitDefEqProofs only [go_sem]
    refine BrA_i (fun h => ?_) (fun h => ?_)
    · have h : i < s.items.length := by simp at h; omega
      have hw1 : IntKind.i64.wrap ((i : Int) + 1) = ((i + 1 : Nat) : Int) := by rw [wrap64 (by omega) (by omega)]; omega
      have hp : 0 < i → IntKind.i64.wrap ((i : Int) - 1) = ((i - 1 : Nat) : Int) := fun h0 => by rw [wrap64 (by omega) (by omega)]; omega
      have bad : goodAt (itGood s.last) itLink s.items i = false → AV.t (T.bool false) = Bo (streamOkM s) := fun hg => bad1 (by
        cases ha : allAt (itGood s.last) itLink s.items
        · rfl
        · rw [(allAt_iff _ _ _).1 ha i h] at hg; cases hg)
      simp -implicitDefEqProofs only [go_sem, row_getD _ _ h, It.row]
      refine ⟨⟨by omega, by omega⟩, ?_⟩
      refine RegD_of sch_12_6 tysOk (by kernel_rfl) ?_
      simp -implicitDefEqProofs only [go_sem]
      refine .one (s_idOk s.items[i].id.t s.items[i].id.n) p_idOk (by simp -implicitDefEqProofs only [go_sem]) trivial ?_
      simp -implicitDefEqProofs only [go_sem]
      refine BrA_i (fun g1 => ?_) (fun g1 => ?_) <;> simp -implicitDefEqProofs only [go_sem]
      · refine BrA_i (fun g2 => ?_) (fun g2 => ?_) <;> simp -implicitDefEqProofs only [go_sem]
        · have g2 : 0 < i := by simpa using g2
          have hq : i - 1 < s.items.length := by omega
          simp -implicitDefEqProofs only [go_sem, hp g2, row_getD _ _ hq, It.row]
          refine ⟨⟨by omega, by omega⟩, ?_⟩
          refine .one (s_idOrder (s.items[i - 1]'hq).id.t (s.items[i - 1]'hq).id.n s.items[i].id.t s.items[i].id.n) p_idOrder (by simp -implicitDefEqProofs only [go_sem]) trivial ?_
          simp -implicitDefEqProofs only [go_sem]
          refine BrA_i (fun g3 => ?_) (fun g3 => ?_) <;> simp -implicitDefEqProofs only [go_sem]
          · exact bad (by
              rw [goodAt_s _ _ _ h g2]
              have : itLink (s.items[i - 1]'hq) s.items[i] = false := by simp [itLink, ltM]; simpa using g3
              simp [this])
          have hl : itLink (s.items[i - 1]'hq) s.items[i] = true := by simp [itLink, ltM]; simpa using g3
          refine .one (s_IdLess s.last.t s.last.n s.items[i].id.t s.items[i].id.n) p_IdLess (by simp -implicitDefEqProofs only [go_sem]) trivial ?_
          simp -implicitDefEqProofs only [go_sem]
          refine BrA_i (fun g4 => ?_) (fun g4 => ?_) <;> simp -implicitDefEqProofs only [go_sem]
          · exact bad (goodAt_no _ _ _ h (by simp [itGood, ltM, g4]))
          refine .one (s_fieldsFull s.items[i].fields (hs3 _ (List.getElem_mem _))) p_fieldsFull (by simp -implicitDefEqProofs only [go_sem]) trivial ?_
          simp -implicitDefEqProofs only [go_sem]
          refine BrA_i (fun g5 => ?_) (fun g5 => ?_) <;> simp -implicitDefEqProofs only [go_sem]
          · have hgood : itGood s.last s.items[i] = true := by simp [itGood, idM, ltM, g1, g4, g5]
            refine .to [32] (i + 1) rfl ?_ ?_ (by omega) ⟨h, fun j hj => ?_⟩ <;> (try simp -implicitDefEqProofs only [go_sem, LeTs_undef, LeTs_same, LeTs_nil, hw1])
            rcases Nat.lt_succ_iff_lt_or_eq.1 hj with hlt | rfl
            · exact hz j hlt
            · rw [goodAt_s _ _ _ h g2, hgood, hl]; rfl
          · exact bad (goodAt_no _ _ _ h (by simp [itGood, g5]))
        · have g2 : i = 0 := by simp at g2; omega
          refine .one (s_IdLess s.last.t s.last.n s.items[i].id.t s.items[i].id.n) p_IdLess (by simp -implicitDefEqProofs only [go_sem]) trivial ?_
          simp -implicitDefEqProofs only [go_sem]
          refine BrA_i (fun g4 => ?_) (fun g4 => ?_) <;> simp -implicitDefEqProofs only [go_sem]
          · exact bad (goodAt_no _ _ _ h (by simp [itGood, ltM, g4]))
          refine .one (s_fieldsFull s.items[i].fields (hs3 _ (List.getElem_mem _))) p_fieldsFull (by simp -implicitDefEqProofs only [go_sem]) trivial ?_
          simp -implicitDefEqProofs only [go_sem]
          refine BrA_i (fun g5 => ?_) (fun g5 => ?_) <;> simp -implicitDefEqProofs only [go_sem]
          · have hgood : itGood s.last s.items[i] = true := by simp [itGood, idM, ltM, g1, g4, g5]
            refine .to [32] (i + 1) rfl ?_ ?_ (by omega) ⟨h, fun j hj => ?_⟩ <;> (try simp -implicitDefEqProofs only [go_sem, LeTs_undef, LeTs_same, LeTs_nil, hw1])
            rcases Nat.lt_succ_iff_lt_or_eq.1 hj with hlt | rfl
            · exact hz j hlt
            · rw [goodAt_0 _ _ _ h g2, hgood]
          · exact bad (goodAt_no _ _ _ h (by simp [itGood, g5]))
      · exact bad (goodAt_no _ _ _ h (by simp [itGood, idM, g1]))
    · simp -implicitDefEqProofs only [go_sem]
      have hall : allAt (itGood s.last) itLink s.items = true := (allAt_iff _ _ _).2 fun j hj => hz j (by simp at h; omega)
      clear hz hi h
      refine LoopW.slots (α := Nat) (fun i => [(69, I i)]) (fun _ => []) (fun i => s.groups.length - i) (fun i => i ≤ s.groups.length ∧ ∀ j, j < i → goodAt (grGood s.last) grLink s.groups j = true) 0 rfl rfl (by simp) ?_
      rintro i ⟨hi, hz⟩
      simp -implicitDefEqProofs only [go_sem]
      refine BrA_i (fun h => ?_) (fun h => ?_)
      · have h : i < s.groups.length := by simp at h; omega
        have hw1 : IntKind.i64.wrap ((i : Int) + 1) = ((i + 1 : Nat) : Int) := by rw [wrap64 (by omega) (by omega)]; omega
        have hp : 0 < i → IntKind.i64.wrap ((i : Int) - 1) = ((i - 1 : Nat) : Int) := fun h0 => by rw [wrap64 (by omega) (by omega)]; omega
        have bad : goodAt (grGood s.last) grLink s.groups i = false → AV.t (T.bool false) = Bo (streamOkM s) := fun hg => bad2 (by
          cases ha : allAt (grGood s.last) grLink s.groups
          · rfl
          · rw [(allAt_iff _ _ _).1 ha i h] at hg; cases hg)
        simp -implicitDefEqProofs only [go_sem, row_getD _ _ h, Gr.row]
        refine ⟨⟨by omega, by omega⟩, ?_⟩
        refine RegD_of sch_12_12 tysOk (by kernel_rfl) ?_
        simp -implicitDefEqProofs only [go_sem]
        refine .one (s_grOk s.groups[i] (hw _ (List.getElem_mem _))) p_grOk (by simp -implicitDefEqProofs only [go_sem]) trivial ?_
        simp -implicitDefEqProofs only [go_sem]
        refine BrA_i (fun g1 => ?_) (fun g1 => ?_) <;> simp -implicitDefEqProofs only [go_sem]
        · refine BrA_i (fun g2 => ?_) (fun g2 => ?_) <;> simp -implicitDefEqProofs only [go_sem]
          · have g2 : 0 < i := by simpa using g2
            have hq : i - 1 < s.groups.length := by omega
            simp -implicitDefEqProofs only [go_sem, hp g2, row_getD _ _ hq, Gr.row]
            refine ⟨⟨by omega, by omega⟩, ?_⟩
            refine BrA_i (fun g3 => ?_) (fun g3 => ?_) <;> simp -implicitDefEqProofs only [go_sem]
            · have hl : grLink (s.groups[i - 1]'hq) s.groups[i] = true := g3
              refine .one (s_IdLess s.last.t s.last.n s.groups[i].last.t s.groups[i].last.n) p_IdLess (by simp -implicitDefEqProofs only [go_sem]) trivial ?_
              simp -implicitDefEqProofs only [go_sem]
              refine BrA_i (fun g4 => ?_) (fun g4 => ?_) <;> simp -implicitDefEqProofs only [go_sem]
              · exact bad (goodAt_no _ _ _ h (by simp [grGood, ltM, g4]))
              · have hgood : grGood s.last s.groups[i] = true := by simp [grGood, ltM, g1, g4]
                refine .to [48] (i + 1) rfl ?_ ?_ (by omega) ⟨h, fun j hj => ?_⟩ <;> (try simp -implicitDefEqProofs only [go_sem, LeTs_undef, LeTs_same, LeTs_nil, hw1])
                rcases Nat.lt_succ_iff_lt_or_eq.1 hj with hlt | rfl
                · exact hz j hlt
                · rw [goodAt_s _ _ _ h g2, hgood, hl]; rfl
            · exact bad (by
                rw [goodAt_s _ _ _ h g2]
                have : grLink (s.groups[i - 1]'hq) s.groups[i] = false := g3
                simp [this])
          · have g2 : i = 0 := by simp at g2; omega
            refine .one (s_IdLess s.last.t s.last.n s.groups[i].last.t s.groups[i].last.n) p_IdLess (by simp -implicitDefEqProofs only [go_sem]) trivial ?_
            simp -implicitDefEqProofs only [go_sem]
            refine BrA_i (fun g4 => ?_) (fun g4 => ?_) <;> simp -implicitDefEqProofs only [go_sem]
            · exact bad (goodAt_no _ _ _ h (by simp [grGood, ltM, g4]))
            · have hgood : grGood s.last s.groups[i] = true := by simp [grGood, ltM, g1, g4]
              refine .to [48] (i + 1) rfl ?_ ?_ (by omega) ⟨h, fun j hj => ?_⟩ <;> (try simp -implicitDefEqProofs only [go_sem, LeTs_undef, LeTs_same, LeTs_nil, hw1])
              rcases Nat.lt_succ_iff_lt_or_eq.1 hj with hlt | rfl
              · exact hz j hlt
              · rw [goodAt_0 _ _ _ h g2, hgood]
        · exact bad (goodAt_no _ _ _ h (by simp [grGood, g1]))
      · simp -implicitDefEqProofs only [go_sem]
        have hall2 : allAt (grGood s.last) grLink s.groups = true := (allAt_iff _ _ _).2 fun j hj => hz j (by simp at h; omega)
        simp at h2 h3
        have e2 : s.items.length ≤ 16 := by omega
        have e3 : s.groups.length ≤ 3 := by omega
        simp [streamOkM, idM, h1, e2, e3, hall, hall2]
  · simp [streamOkM, idM, h1]
end Go.Proofs.Ytaajnbfnaoecnaa.Am
namespace Go.Proofs.Ytaajnbfnaoecnaa.Am
open Go
set_option maxRecDepth 100000
set_option linter.unusedSimpArgs false
set_option linter.unusedVariables false
abbrev Idt.z : Idt := ⟨0, 0⟩
abbrev Stm.z : Stm := ⟨⟨0, 0⟩, [], []⟩
theorem Stm.md.sm {s : Stm} (h : s.md) : s.sm ∧ ∀ g ∈ s.groups, g.waits.length < 2000000 → True := ⟨⟨by have := h.1; omega, by have := h.2.1; omega, fun i hi => by have := h.2.2.1 i hi; unfold It.sm; omega, fun g hg => by have := h.2.2.2 g hg; unfold Gr.sm; omega⟩, fun _ _ _ => trivial⟩
end Go.Proofs.Ytaajnbfnaoecnaa.Am
namespace Go.Proofs.Ytaajnbfnaoecnaa.Am
open Go
set_option maxRecDepth 100000
set_option maxHeartbeats 400000
set_option linter.unusedSimpArgs false
set_option linter.unusedVariables false
theorem allAt_no {α : Type} {good : α → Bool} {link : α → α → Bool} {xs : List α} {i : Nat} (h : i < xs.length) (hg : goodAt good link xs i = false) : allAt good link xs = false := by
  cases ha : allAt good link xs
  · rfl
  · rw [(allAt_iff _ _ _).1 ha i h] at hg; cases hg
theorem good_step {α : Type} {good : α → Bool} {link : α → α → Bool} {xs : List α} {i : Nat} (hz : ∀ j, j < i → goodAt good link xs j = true) (hg : goodAt good link xs i = true) : ∀ j, j < i + 1 → goodAt good link xs j = true := fun j hj => by
  rcases Nat.lt_succ_iff_lt_or_eq.1 hj with hl | rfl
  · exact hz j hl
  · exact hg
theorem p_l9Group : Plain Try.prog 39 := ⟨_, Try.func39, rfl, by decide⟩
theorem s_l9Group (s : Stm) (g : Gr) (hw : g.waits.length < 2000000) : Spec Try.prog 39 [s.av, g.av] (fun r => r = Bo (grGood s.last g)) := by
  refine Spec.of tysOk mixed Try.func39 rfl (by decide) ?_
  simp -implicitDefEqProofs only [go_sem, Try.f39]
  refine LoopW.slotsM [false, false, true, true, false, true, false, false, false, false, false, false, false, false, false, false, false, false, false, false, false, false, false, false, false, false, false, false, false, false, false, false, false, false, false, false, false, false, false, false, false, false, false, false, false, false, false, false, false, false, false, false, false, false, false, false, false, false, false, false, false, false, false, false, false, false, false, false, false, false, false, false, false, false, false, false, false, false, false, false, false, false, false, false, false, false, false] (α := Nat) (fun i => [(5, I i)]) (fun _ => []) (fun i => g.waits.length - i) (fun i => i ≤ g.waits.length ∧ ∀ j, j < i → goodAt (wtGood g.last) wtLink g.waits j = true) 0 (by simp -implicitDefEqProofs only [go_sem, LeTs_undef, LeTs_same, LeTs_nil]; try simp [LeTs]) rfl (by simp) ?_
  rintro i ⟨hi, hz⟩
  simp -implicitDefEqProofs only [go_sem]
  refine BrA_i (fun h => ?_) (fun h => ?_) <;> simp -implicitDefEqProofs only [go_sem]
  · have bad : ∀ (hl : i < g.waits.length), goodAt (wtGood g.last) wtLink g.waits i = false → AV.t (T.bool false) = Bo (grGood s.last g) := fun hl hg => by
      have := allAt_no hl hg
      simp [grGood, grOkM, this]
    have h : i < g.waits.length := by simp at h; omega
    have h0i : (0 : Int) ≤ i := by omega
    have h1i : (i : Int) < g.waits.length := by omega
    have wi : IntKind.i64.wrap ((i : Int) + 1) = ((i + 1 : Nat) : Int) := by rw [wrap64 (by omega) (by omega)]; omega
    rcases Nat.eq_zero_or_pos i with h0 | h0
    · have hp : ((i : Int) > 0) = False := by simp; omega
      have hG := goodAt_0 (wtGood g.last) wtLink g.waits h h0
      simp -implicitDefEqProofs only [go_sem, h, h0i, h1i, row_getD _ _ h, Wt.row]
      refine RegD_of sch_39_5 tysOk (by kernel_rfl) ?_
      simp -implicitDefEqProofs only [go_sem, hp]
      (repeat' (first   | (refine CallW.one (s_l9Id _ _) p_l9Id (by first | (simp -implicitDefEqProofs only [go_sem]; done) | ((conv => lhs; simp -implicitDefEqProofs only [go_sem]); done) | (simp -implicitDefEqProofs only [go_sem]; rfl) | rfl) (by first | trivial | (simp [DeepR, DeepV, DeepVs, DeepC, DeepCs, T.scal]; done)) ?_; try simp -implicitDefEqProofs only [go_sem, hp])   | (refine CallW.one (s_sIdLess _ _ _ _) p_sIdLess (by first | (simp -implicitDefEqProofs only [go_sem]; done) | ((conv => lhs; simp -implicitDefEqProofs only [go_sem]); done) | (simp -implicitDefEqProofs only [go_sem]; rfl) | rfl) (by first | trivial | (simp [DeepR, DeepV, DeepVs, DeepC, DeepCs, T.scal]; done)) ?_; try simp -implicitDefEqProofs only [go_sem, hp])   | (refine CallW.one (s_l4Key _) p_l4Key (by first | (simp -implicitDefEqProofs only [go_sem]; done) | ((conv => lhs; simp -implicitDefEqProofs only [go_sem]); done) | (simp -implicitDefEqProofs only [go_sem]; rfl) | rfl) (by first | trivial | (simp [DeepR, DeepV, DeepVs, DeepC, DeepCs, T.scal]; done)) ?_; try simp -implicitDefEqProofs only [go_sem, hp])   | (refine CallW.one (s_l1In _ _ _) p_l1In (by first | (simp -implicitDefEqProofs only [go_sem]; done) | ((conv => lhs; simp -implicitDefEqProofs only [go_sem]); done) | (simp -implicitDefEqProofs only [go_sem]; rfl) | rfl) (by first | trivial | (simp [DeepR, DeepV, DeepVs, DeepC, DeepCs, T.scal]; done)) ?_; try simp -implicitDefEqProofs only [go_sem, hp])   | (refine BrA_i (fun h => ?_) (fun h => ?_) <;> (try simp only [decide_eq_true_eq, decide_eq_false_iff_not, Bool.not_eq_true', Bool.not_eq_false', gt_iff_lt, ge_iff_le] at h) <;> try simp -implicitDefEqProofs only [go_sem, hp])   | (refine And.intro (a := roomy _ _) (by (unfold roomy; (try simp only [List.length_take, List.length_append, List.length_map, List.length_cons, List.length_nil]); omega)) ?_; try simp -implicitDefEqProofs only [go_sem, hp])))
      all_goals first
        | (refine bad (by assumption) ?_; rw [hG]; clear bad hz hG h0 hp hi hw wi; simp_all [-Int.not_lt, -Int.not_le, -Nat.not_lt, -Nat.not_le, wtGood, ltM, idM]; done)
        | (refine .to [48, 169, 170, 171, 225, 226, 227, 265, 266, 267, 313, 314, 315, 361, 362, 363, 489, 490, 491] (i + 1) rfl (by simp -implicitDefEqProofs only [go_sem, LeTs_undef, LeTs_same, LeTs_nil, wi]) (by simp -implicitDefEqProofs only [go_sem]) (by omega) ⟨by assumption, good_step hz ?_⟩; rw [hG]; clear bad hz hG h0 hp hi hw wi; simp_all [-Int.not_lt, -Int.not_le, -Nat.not_lt, -Nat.not_le, wtGood, ltM, idM])
    · have hp : ((i : Int) > 0) = True := by simp; omega
      have hG := goodAt_s (wtGood g.last) wtLink g.waits h h0
      have hq : i - 1 < g.waits.length := by omega
      have wj : IntKind.i64.wrap ((i : Int) - 1) = ((i - 1 : Nat) : Int) := by rw [wrap64 (by omega) (by omega)]; omega
      have h0j : (0 : Int) ≤ ((i - 1 : Nat) : Int) := by omega
      have h1j : ((i - 1 : Nat) : Int) < g.waits.length := by omega
      simp -implicitDefEqProofs only [go_sem, h, h0i, h1i, row_getD _ _ h, Wt.row]
      refine RegD_of sch_39_5 tysOk (by kernel_rfl) ?_
      simp -implicitDefEqProofs only [go_sem, hp]
      (repeat' (first   | (refine CallW.one (s_l9Id _ _) p_l9Id (by first | (simp -implicitDefEqProofs only [go_sem]; done) | ((conv => lhs; simp -implicitDefEqProofs only [go_sem]); done) | (simp -implicitDefEqProofs only [go_sem]; rfl) | rfl) (by first | trivial | (simp [DeepR, DeepV, DeepVs, DeepC, DeepCs, T.scal]; done)) ?_; try simp -implicitDefEqProofs only [go_sem, hp, wj, h0j, h1j, hq, row_getD _ _ hq, Wt.row])   | (refine CallW.one (s_sIdLess _ _ _ _) p_sIdLess (by first | (simp -implicitDefEqProofs only [go_sem]; done) | ((conv => lhs; simp -implicitDefEqProofs only [go_sem]); done) | (simp -implicitDefEqProofs only [go_sem]; rfl) | rfl) (by first | trivial | (simp [DeepR, DeepV, DeepVs, DeepC, DeepCs, T.scal]; done)) ?_; try simp -implicitDefEqProofs only [go_sem, hp, wj, h0j, h1j, hq, row_getD _ _ hq, Wt.row])   | (refine CallW.one (s_l4Key _) p_l4Key (by first | (simp -implicitDefEqProofs only [go_sem]; done) | ((conv => lhs; simp -implicitDefEqProofs only [go_sem]); done) | (simp -implicitDefEqProofs only [go_sem]; rfl) | rfl) (by first | trivial | (simp [DeepR, DeepV, DeepVs, DeepC, DeepCs, T.scal]; done)) ?_; try simp -implicitDefEqProofs only [go_sem, hp, wj, h0j, h1j, hq, row_getD _ _ hq, Wt.row])   | (refine CallW.one (s_l1In _ _ _) p_l1In (by first | (simp -implicitDefEqProofs only [go_sem]; done) | ((conv => lhs; simp -implicitDefEqProofs only [go_sem]); done) | (simp -implicitDefEqProofs only [go_sem]; rfl) | rfl) (by first | trivial | (simp [DeepR, DeepV, DeepVs, DeepC, DeepCs, T.scal]; done)) ?_; try simp -implicitDefEqProofs only [go_sem, hp, wj, h0j, h1j, hq, row_getD _ _ hq, Wt.row])   | (refine BrA_i (fun h => ?_) (fun h => ?_) <;> (try simp only [decide_eq_true_eq, decide_eq_false_iff_not, Bool.not_eq_true', Bool.not_eq_false', gt_iff_lt, ge_iff_le] at h) <;> try simp -implicitDefEqProofs only [go_sem, hp, wj, h0j, h1j, hq, row_getD _ _ hq, Wt.row])   | (refine And.intro (a := roomy _ _) (by (unfold roomy; (try simp only [List.length_take, List.length_append, List.length_map, List.length_cons, List.length_nil]); omega)) ?_; try simp -implicitDefEqProofs only [go_sem, hp, wj, h0j, h1j, hq, row_getD _ _ hq, Wt.row])))
      all_goals first
        | (refine bad (by assumption) ?_; rw [hG]; clear bad hz hG hp hi hw wi wj h0j h1j; simp_all [-Int.not_lt, -Int.not_le, -Nat.not_lt, -Nat.not_le, wtGood, wtLink, ltM, idM]; done)
        | (refine .to [48, 169, 170, 171, 225, 226, 227, 265, 266, 267, 313, 314, 315, 361, 362, 363, 489, 490, 491] (i + 1) rfl (by simp -implicitDefEqProofs only [go_sem, LeTs_undef, LeTs_same, LeTs_nil, wi]) (by simp -implicitDefEqProofs only [go_sem]) (by omega) ⟨by assumption, good_step hz ?_⟩; rw [hG]; clear bad hz hG hp hi hw wi wj h0j h1j; simp_all [-Int.not_lt, -Int.not_le, -Nat.not_lt, -Nat.not_le, wtGood, wtLink, ltM, idM])
  · have h : i = g.waits.length := by simp at h; omega
    subst h
    have hall : allAt (wtGood g.last) wtLink g.waits = true := (allAt_iff _ _ _).2 hz
    (repeat' (first   | (refine CallW.one (s_l4Key _) p_l4Key (by first | (simp -implicitDefEqProofs only [go_sem]; done) | ((conv => lhs; simp -implicitDefEqProofs only [go_sem]); done) | (simp -implicitDefEqProofs only [go_sem]; rfl) | rfl) (by first | trivial | (simp [DeepR, DeepV, DeepVs, DeepC, DeepCs, T.scal]; done)) ?_; try simp -implicitDefEqProofs only [go_sem])   | (refine CallW.one (s_l9Id _ _) p_l9Id (by first | (simp -implicitDefEqProofs only [go_sem]; done) | ((conv => lhs; simp -implicitDefEqProofs only [go_sem]); done) | (simp -implicitDefEqProofs only [go_sem]; rfl) | rfl) (by first | trivial | (simp [DeepR, DeepV, DeepVs, DeepC, DeepCs, T.scal]; done)) ?_; try simp -implicitDefEqProofs only [go_sem])   | (refine CallW.one (s_sIdLess _ _ _ _) p_sIdLess (by first | (simp -implicitDefEqProofs only [go_sem]; done) | ((conv => lhs; simp -implicitDefEqProofs only [go_sem]); done) | (simp -implicitDefEqProofs only [go_sem]; rfl) | rfl) (by first | trivial | (simp [DeepR, DeepV, DeepVs, DeepC, DeepCs, T.scal]; done)) ?_; try simp -implicitDefEqProofs only [go_sem])   | (refine BrA_i (fun h => ?_) (fun h => ?_) <;> (try simp only [decide_eq_true_eq, decide_eq_false_iff_not, Bool.not_eq_true', Bool.not_eq_false', gt_iff_lt, ge_iff_le] at h) <;> try simp -implicitDefEqProofs only [go_sem])   | (refine And.intro (a := roomy _ _) (by (unfold roomy; (try simp only [List.length_take, List.length_append, List.length_map, List.length_cons, List.length_nil]); omega)) ?_; try simp -implicitDefEqProofs only [go_sem])))
    all_goals (clear hz hi; simp_all [-Int.not_lt, -Int.not_le, -Nat.not_lt, -Nat.not_le, grGood, grOkM, idM, ltM])
    all_goals omega
theorem p_sStreamOk : Plain Try.prog 10 := ⟨_, Try.func10, rfl, by decide⟩
theorem s_sStreamOk (s : Stm) (hs : s.sm) (hw : ∀ g ∈ s.groups, g.waits.length < 2000000) : Spec Try.prog 10 [s.av] (fun r => r = Bo (streamOkM s)) := by
  obtain ⟨hs1, hs2, hs3, hs4⟩ := hs
  refine Spec.of tysOk mixed Try.func10 rfl (by decide) ?_
  simp -implicitDefEqProofs only [go_sem, Try.f10]
  refine LoopW.slotsM [false, true, false, true, false, false, false, false, false, false, false, false, false, false, false, false, false, false, false, false, false, false, false, false, false, false, false, false, false, false, false, false, false, false, false, false, false, false, false, false, false, false, false, false, false, false, false, false, false, false, false, false, false, false, false, false, false, false, false, false, false, false, false, false, false, false, false, false, false, false, false, false, false, false, false, false, false, false, false, false, false, false, false, false, false, false, false, false, false, false, false, false, false, false, false, false, false, false, false, false, false, false, false, false, false, false, false, false] (α := Nat) (fun i => [(3, I i)]) (fun _ => []) (fun i => s.items.length - i) (fun i => i ≤ s.items.length ∧ ∀ j, j < i → goodAt (itGood s.last) itLink s.items j = true) 0 (by simp -implicitDefEqProofs only [go_sem, LeTs_undef, LeTs_same, LeTs_nil]; try simp [LeTs]) rfl (by simp) ?_
  rintro i ⟨hi, hz⟩
  simp -implicitDefEqProofs only [go_sem]
  refine BrA_i (fun h => ?_) (fun h => ?_) <;> simp -implicitDefEqProofs only [go_sem]
  · have bad : ∀ (hl : i < s.items.length), goodAt (itGood s.last) itLink s.items i = false → AV.t (T.bool false) = Bo (streamOkM s) := fun hl hg => by
      have := allAt_no hl hg
      simp [streamOkM, this]
    have hfl : ∀ (hl : i < s.items.length), s.items[i].fields.length < 4611686018427387904 := fun hl => hs3 _ (List.getElem_mem hl)
    have h : i < s.items.length := by simp at h; omega
    have h0i : (0 : Int) ≤ i := by omega
    have h1i : (i : Int) < s.items.length := by omega
    have wi : IntKind.i64.wrap ((i : Int) + 1) = ((i + 1 : Nat) : Int) := by rw [wrap64 (by omega) (by omega)]; omega
    have hlt := h
    rcases Nat.eq_zero_or_pos i with h0 | h0
    · have hp : ((i : Int) > 0) = False := by simp; omega
      have hG := goodAt_0 (itGood s.last) itLink s.items h h0
      simp -implicitDefEqProofs only [go_sem, hp, hlt, h0i, h1i, row_getD _ _ hlt, It.row]
      refine RegD_of sch_10_5 tysOk (by kernel_rfl) ?_
      simp -implicitDefEqProofs only [go_sem, hp, hlt, h0i, h1i, row_getD _ _ hlt, It.row]
      (repeat' (first   | (refine CallW.one (s_l9Id _ _) p_l9Id (by first | (simp -implicitDefEqProofs only [go_sem]; done) | ((conv => lhs; simp -implicitDefEqProofs only [go_sem]); done) | (simp -implicitDefEqProofs only [go_sem]; rfl) | rfl) (by first | trivial | (simp [DeepR, DeepV, DeepVs, DeepC, DeepCs, T.scal]; done)) ?_; try simp -implicitDefEqProofs only [go_sem, hp, hlt, h0i, h1i, row_getD _ _ hlt, It.row])   | (refine CallW.one (s_sIdLess _ _ _ _) p_sIdLess (by first | (simp -implicitDefEqProofs only [go_sem]; done) | ((conv => lhs; simp -implicitDefEqProofs only [go_sem]); done) | (simp -implicitDefEqProofs only [go_sem]; rfl) | rfl) (by first | trivial | (simp [DeepR, DeepV, DeepVs, DeepC, DeepCs, T.scal]; done)) ?_; try simp -implicitDefEqProofs only [go_sem, hp, hlt, h0i, h1i, row_getD _ _ hlt, It.row])   | (refine CallW.one (s_sFieldsOk s.items[i].fields (hfl (by assumption))) p_sFieldsOk (by first | (simp -implicitDefEqProofs only [go_sem]; done) | ((conv => lhs; simp -implicitDefEqProofs only [go_sem]); done) | (simp -implicitDefEqProofs only [go_sem]; rfl) | rfl) (by first | trivial | (simp [DeepR, DeepV, DeepVs, DeepC, DeepCs, T.scal]; done)) ?_; try simp -implicitDefEqProofs only [go_sem, hp, hlt, h0i, h1i, row_getD _ _ hlt, It.row])   | (refine BrA_i (fun h => ?_) (fun h => ?_) <;> (try simp only [decide_eq_true_eq, decide_eq_false_iff_not, Bool.not_eq_true', Bool.not_eq_false', gt_iff_lt, ge_iff_le] at h) <;> try simp -implicitDefEqProofs only [go_sem, hp, hlt, h0i, h1i, row_getD _ _ hlt, It.row])   | (refine And.intro (a := roomy _ _) (by (unfold roomy; (try simp only [List.length_take, List.length_append, List.length_map, List.length_cons, List.length_nil]); omega)) ?_; try simp -implicitDefEqProofs only [go_sem, hp, hlt, h0i, h1i, row_getD _ _ hlt, It.row])))
      all_goals first
        | (refine bad (by assumption) ?_; rw [hG]; clear bad hz hG hp hi wi h0 hfl hs1 hs2 hs3 hs4 hw; simp_all [-Int.not_lt, -Int.not_le, -Nat.not_lt, -Nat.not_le, itGood, ltM, idM, fieldsFullM]; done)
        | (refine .to [32, 161, 162, 163, 217, 218, 219, 257, 258, 259, 433, 434, 435] (i + 1) rfl (by simp -implicitDefEqProofs only [go_sem, LeTs_undef, LeTs_same, LeTs_nil, wi]) (by simp -implicitDefEqProofs only [go_sem]) (by omega) ⟨by assumption, good_step hz ?_⟩; rw [hG]; clear bad hz hG hp hi wi h0 hfl hs1 hs2 hs3 hs4 hw; simp_all [-Int.not_lt, -Int.not_le, -Nat.not_lt, -Nat.not_le, itGood, ltM, idM, fieldsFullM] <;> exact List.length_pos_iff.2 (by assumption))
    · have hp : ((i : Int) > 0) = True := by simp; omega
      have hG := goodAt_s (itGood s.last) itLink s.items h h0
      have hq : i - 1 < s.items.length := by omega
      have wj : IntKind.i64.wrap ((i : Int) - 1) = ((i - 1 : Nat) : Int) := by rw [wrap64 (by omega) (by omega)]; omega
      have h0j : (0 : Int) ≤ ((i - 1 : Nat) : Int) := by omega
      have h1j : ((i - 1 : Nat) : Int) < s.items.length := by omega
      simp -implicitDefEqProofs only [go_sem, hp, hlt, h0i, h1i, row_getD _ _ hlt, It.row, wj, h0j, h1j, hq, row_getD _ _ hq]
      refine RegD_of sch_10_5 tysOk (by kernel_rfl) ?_
      simp -implicitDefEqProofs only [go_sem, hp, hlt, h0i, h1i, row_getD _ _ hlt, It.row, wj, h0j, h1j, hq, row_getD _ _ hq]
      (repeat' (first   | (refine CallW.one (s_l9Id _ _) p_l9Id (by first | (simp -implicitDefEqProofs only [go_sem]; done) | ((conv => lhs; simp -implicitDefEqProofs only [go_sem]); done) | (simp -implicitDefEqProofs only [go_sem]; rfl) | rfl) (by first | trivial | (simp [DeepR, DeepV, DeepVs, DeepC, DeepCs, T.scal]; done)) ?_; try simp -implicitDefEqProofs only [go_sem, hp, hlt, h0i, h1i, row_getD _ _ hlt, It.row, wj, h0j, h1j, hq, row_getD _ _ hq])   | (refine CallW.one (s_sIdLess _ _ _ _) p_sIdLess (by first | (simp -implicitDefEqProofs only [go_sem]; done) | ((conv => lhs; simp -implicitDefEqProofs only [go_sem]); done) | (simp -implicitDefEqProofs only [go_sem]; rfl) | rfl) (by first | trivial | (simp [DeepR, DeepV, DeepVs, DeepC, DeepCs, T.scal]; done)) ?_; try simp -implicitDefEqProofs only [go_sem, hp, hlt, h0i, h1i, row_getD _ _ hlt, It.row, wj, h0j, h1j, hq, row_getD _ _ hq])   | (refine CallW.one (s_sFieldsOk s.items[i].fields (hfl (by assumption))) p_sFieldsOk (by first | (simp -implicitDefEqProofs only [go_sem]; done) | ((conv => lhs; simp -implicitDefEqProofs only [go_sem]); done) | (simp -implicitDefEqProofs only [go_sem]; rfl) | rfl) (by first | trivial | (simp [DeepR, DeepV, DeepVs, DeepC, DeepCs, T.scal]; done)) ?_; try simp -implicitDefEqProofs only [go_sem, hp, hlt, h0i, h1i, row_getD _ _ hlt, It.row, wj, h0j, h1j, hq, row_getD _ _ hq])   | (refine BrA_i (fun h => ?_) (fun h => ?_) <;> (try simp only [decide_eq_true_eq, decide_eq_false_iff_not, Bool.not_eq_true', Bool.not_eq_false', gt_iff_lt, ge_iff_le] at h) <;> try simp -implicitDefEqProofs only [go_sem, hp, hlt, h0i, h1i, row_getD _ _ hlt, It.row, wj, h0j, h1j, hq, row_getD _ _ hq])   | (refine And.intro (a := roomy _ _) (by (unfold roomy; (try simp only [List.length_take, List.length_append, List.length_map, List.length_cons, List.length_nil]); omega)) ?_; try simp -implicitDefEqProofs only [go_sem, hp, hlt, h0i, h1i, row_getD _ _ hlt, It.row, wj, h0j, h1j, hq, row_getD _ _ hq])))
      all_goals first
        | (refine bad (by assumption) ?_; rw [hG]; clear bad hz hG hp hi wi wj h0j h1j hfl hs1 hs2 hs3 hs4 hw; simp_all [-Int.not_lt, -Int.not_le, -Nat.not_lt, -Nat.not_le, itGood, ltM, idM, fieldsFullM, itLink]; done)
        | (refine .to [32, 161, 162, 163, 217, 218, 219, 257, 258, 259, 433, 434, 435] (i + 1) rfl (by simp -implicitDefEqProofs only [go_sem, LeTs_undef, LeTs_same, LeTs_nil, wi]) (by simp -implicitDefEqProofs only [go_sem]) (by omega) ⟨by assumption, good_step hz ?_⟩; rw [hG]; clear bad hz hG hp hi wi wj h0j h1j hfl hs1 hs2 hs3 hs4 hw; simp_all [-Int.not_lt, -Int.not_le, -Nat.not_lt, -Nat.not_le, itGood, ltM, idM, fieldsFullM, itLink] <;> exact List.length_pos_iff.2 (by assumption))
  · have h : i = s.items.length := by simp at h; omega
    subst h
    have hall : allAt (itGood s.last) itLink s.items = true := (allAt_iff _ _ _).2 hz
    clear hz hi
    refine LoopW.slotsM [false, true, false, false, false, true, false, false, false, false, false, false, false, false, false, false, false, false, false, false, false, false, false, false, false, false, false, false, false, false, false, false, false, false, false, false, false, false, false, false, false, false, false, false, false, false, false, false, false, false, false, false, false, false, false, false, false, false, false, false, false, false, false, false, false, false, false, false, false, false, false, false, false, false, false, false, false, false, false, false, false, false, false, false, false, false, false, false, false, false, false, false, false, false, false, false, false, false, false, false, false, false, false, false, false, false, false, false] (α := Nat) (fun i => [(5, I i)]) (fun _ => []) (fun i => s.groups.length - i) (fun i => i ≤ s.groups.length ∧ ∀ j, j < i → goodAt (grGood s.last) grLink s.groups j = true) 0 (by simp -implicitDefEqProofs only [go_sem, LeTs_undef, LeTs_same, LeTs_nil]; try simp [LeTs]) rfl (by simp) ?_
    rintro i ⟨hi, hz⟩
    simp -implicitDefEqProofs only [go_sem]
    refine BrA_i (fun h => ?_) (fun h => ?_) <;> simp -implicitDefEqProofs only [go_sem]
    · have bad : ∀ (hl : i < s.groups.length), goodAt (grGood s.last) grLink s.groups i = false → AV.t (T.bool false) = Bo (streamOkM s) := fun hl hg => by
        have := allAt_no hl hg
        simp [streamOkM, this]
      have hfl : ∀ (hl : i < s.groups.length), s.groups[i].waits.length < 2000000 := fun hl => hw _ (List.getElem_mem hl)
      have h : i < s.groups.length := by simp at h; omega
      have h0i : (0 : Int) ≤ i := by omega
      have h1i : (i : Int) < s.groups.length := by omega
      have wi : IntKind.i64.wrap ((i : Int) + 1) = ((i + 1 : Nat) : Int) := by rw [wrap64 (by omega) (by omega)]; omega
      have hlt := h
      rcases Nat.eq_zero_or_pos i with h0 | h0
      · have hp : ((i : Int) > 0) = False := by simp; omega
        have hG := goodAt_0 (grGood s.last) grLink s.groups h h0
        simp -implicitDefEqProofs only [go_sem, hp, hlt, h0i, h1i, row_getD _ _ hlt, Gr.row]
        refine RegD_of sch_10_10 tysOk (by kernel_rfl) ?_
        simp -implicitDefEqProofs only [go_sem, hp, hlt, h0i, h1i, row_getD _ _ hlt, Gr.row]
        (repeat' (first   | (refine CallW.one (s_l9Group s s.groups[i] (hfl (by assumption))) p_l9Group (by first | (simp -implicitDefEqProofs only [go_sem]; done) | ((conv => lhs; simp -implicitDefEqProofs only [go_sem]); done) | (simp -implicitDefEqProofs only [go_sem]; rfl) | rfl) (by first | trivial | (simp [DeepR, DeepV, DeepVs, DeepC, DeepCs, T.scal]; done)) ?_; try simp -implicitDefEqProofs only [go_sem, hp, hlt, h0i, h1i, row_getD _ _ hlt, Gr.row])   | (refine BrA_i (fun h => ?_) (fun h => ?_) <;> (try simp only [decide_eq_true_eq, decide_eq_false_iff_not, Bool.not_eq_true', Bool.not_eq_false', gt_iff_lt, ge_iff_le] at h) <;> try simp -implicitDefEqProofs only [go_sem, hp, hlt, h0i, h1i, row_getD _ _ hlt, Gr.row])   | (refine And.intro (a := roomy _ _) (by (unfold roomy; (try simp only [List.length_take, List.length_append, List.length_map, List.length_cons, List.length_nil]); omega)) ?_; try simp -implicitDefEqProofs only [go_sem, hp, hlt, h0i, h1i, row_getD _ _ hlt, Gr.row])))
        all_goals first
          | (refine bad (by assumption) ?_; rw [hG]; clear bad hz hG hp hi wi h0 hfl hs1 hs2 hs3 hs4 hw hall; simp_all [-Int.not_lt, -Int.not_le, -Nat.not_lt, -Nat.not_le, id]; done)
          | (refine .to [569, 570, 571] (i + 1) rfl (by simp -implicitDefEqProofs only [go_sem, LeTs_undef, LeTs_same, LeTs_nil, wi]) (by simp -implicitDefEqProofs only [go_sem]) (by omega) ⟨by assumption, good_step hz ?_⟩; rw [hG]; clear bad hz hG hp hi wi h0 hfl hs1 hs2 hs3 hs4 hw hall; simp_all [-Int.not_lt, -Int.not_le, -Nat.not_lt, -Nat.not_le, id])
      · have hp : ((i : Int) > 0) = True := by simp; omega
        have hG := goodAt_s (grGood s.last) grLink s.groups h h0
        have hq : i - 1 < s.groups.length := by omega
        have wj : IntKind.i64.wrap ((i : Int) - 1) = ((i - 1 : Nat) : Int) := by rw [wrap64 (by omega) (by omega)]; omega
        have h0j : (0 : Int) ≤ ((i - 1 : Nat) : Int) := by omega
        have h1j : ((i - 1 : Nat) : Int) < s.groups.length := by omega
        simp -implicitDefEqProofs only [go_sem, hp, hlt, h0i, h1i, row_getD _ _ hlt, Gr.row, wj, h0j, h1j, hq, row_getD _ _ hq]
        refine RegD_of sch_10_10 tysOk (by kernel_rfl) ?_
        simp -implicitDefEqProofs only [go_sem, hp, hlt, h0i, h1i, row_getD _ _ hlt, Gr.row, wj, h0j, h1j, hq, row_getD _ _ hq]
        (repeat' (first   | (refine CallW.one (s_l9Group s s.groups[i] (hfl (by assumption))) p_l9Group (by first | (simp -implicitDefEqProofs only [go_sem]; done) | ((conv => lhs; simp -implicitDefEqProofs only [go_sem]); done) | (simp -implicitDefEqProofs only [go_sem]; rfl) | rfl) (by first | trivial | (simp [DeepR, DeepV, DeepVs, DeepC, DeepCs, T.scal]; done)) ?_; try simp -implicitDefEqProofs only [go_sem, hp, hlt, h0i, h1i, row_getD _ _ hlt, Gr.row, wj, h0j, h1j, hq, row_getD _ _ hq])   | (refine BrA_i (fun h => ?_) (fun h => ?_) <;> (try simp only [decide_eq_true_eq, decide_eq_false_iff_not, Bool.not_eq_true', Bool.not_eq_false', gt_iff_lt, ge_iff_le] at h) <;> try simp -implicitDefEqProofs only [go_sem, hp, hlt, h0i, h1i, row_getD _ _ hlt, Gr.row, wj, h0j, h1j, hq, row_getD _ _ hq])   | (refine And.intro (a := roomy _ _) (by (unfold roomy; (try simp only [List.length_take, List.length_append, List.length_map, List.length_cons, List.length_nil]); omega)) ?_; try simp -implicitDefEqProofs only [go_sem, hp, hlt, h0i, h1i, row_getD _ _ hlt, Gr.row, wj, h0j, h1j, hq, row_getD _ _ hq])))
        all_goals first
          | (refine bad (by assumption) ?_; rw [hG]; clear bad hz hG hp hi wi wj h0j h1j hfl hs1 hs2 hs3 hs4 hw hall; simp_all [-Int.not_lt, -Int.not_le, -Nat.not_lt, -Nat.not_le, grLink]; done)
          | (refine .to [569, 570, 571] (i + 1) rfl (by simp -implicitDefEqProofs only [go_sem, LeTs_undef, LeTs_same, LeTs_nil, wi]) (by simp -implicitDefEqProofs only [go_sem]) (by omega) ⟨by assumption, good_step hz ?_⟩; rw [hG]; clear bad hz hG hp hi wi wj h0j h1j hfl hs1 hs2 hs3 hs4 hw hall; simp_all [-Int.not_lt, -Int.not_le, -Nat.not_lt, -Nat.not_le, grLink])
    · have h : i = s.groups.length := by simp at h; omega
      subst h
      have hall2 : allAt (grGood s.last) grLink s.groups = true := (allAt_iff _ _ _).2 hz
      (repeat' (first   | (refine CallW.one (s_l9Id _ _) p_l9Id (by first | (simp -implicitDefEqProofs only [go_sem]; done) | ((conv => lhs; simp -implicitDefEqProofs only [go_sem]); done) | (simp -implicitDefEqProofs only [go_sem]; rfl) | rfl) (by first | trivial | (simp [DeepR, DeepV, DeepVs, DeepC, DeepCs, T.scal]; done)) ?_; try simp -implicitDefEqProofs only [go_sem])   | (refine BrA_i (fun h => ?_) (fun h => ?_) <;> (try simp only [decide_eq_true_eq, decide_eq_false_iff_not, Bool.not_eq_true', Bool.not_eq_false', gt_iff_lt, ge_iff_le] at h) <;> try simp -implicitDefEqProofs only [go_sem])   | (refine And.intro (a := roomy _ _) (by (unfold roomy; (try simp only [List.length_take, List.length_append, List.length_map, List.length_cons, List.length_nil]); omega)) ?_; try simp -implicitDefEqProofs only [go_sem])))
      all_goals (clear hz hi hs1 hs2 hs3 hs4 hw; simp_all [-Int.not_lt, -Int.not_le, -Nat.not_lt, -Nat.not_le, streamOkM, idM])
      all_goals first
        | omega
        | (have e1 : s.items.length ≤ 16 := by omega
           simp [e1] <;> omega)
end Go.Proofs.Ytaajnbfnaoecnaa.Am
namespace Go.Proofs.Ytaajnbfnaoecnaa.Am
open Go
set_option maxRecDepth 100000
set_option linter.unusedSimpArgs false
set_option linter.unusedVariables false
def Idt.row (x : Idt) : List T := [.int .i64 x.t, .int .i64 x.n]
def lG {α : Type} (G : α → Prop) (xs : List α) : Prop := xs.length ≤ 140737488351232 ∧ ∀ x ∈ xs, G x
def Pr.G (x : Pr) : Prop := x.k.size ≤ 140737488351232 ∧ x.v.size ≤ 140737488351232
def It.G (x : It) : Prop := lG Pr.G x.fields
def Wt.G (x : Wt) : Prop := x.who.size ≤ 140737488351232
def Gr.G (x : Gr) : Prop := x.name.size ≤ 140737488351232 ∧ lG Wt.G x.waits
def Stm.G (x : Stm) : Prop := lG It.G x.items ∧ lG Gr.G x.groups
theorem p_szPair : Plain Try.prog 115 := ⟨_, Try.func115, rfl, by decide⟩
theorem s_szPair (x : Pr) (n : Int) (h0 : 0 ≤ n) (h1 : n ≤ 1048576) (hs : x.G) : Spec Try.prog 115 [x.av, I n] (fun r => r = I (cutM n x.w)) := by
  have hk : x.w = x.k.size + x.v.size := rfl
  obtain ⟨q0, q1⟩ := hs
  refine Spec.of tysOk mixed Try.func115 rfl (by decide) ?_
  simp -implicitDefEqProofs only [go_sem, Try.f115]
  have w0 : IntKind.i64.wrap (n - ((x.k.size : Nat) : Int)) = n - ((x.k.size : Nat) : Int) := wrap64 (by omega) (by omega)
  simp -implicitDefEqProofs only [go_sem, w0]
  refine BrA_i (fun g0 => ?_) (fun g0 => ?_) <;> simp -implicitDefEqProofs only [go_sem]
  · have : n < x.w := by simp at g0; omega
    simp [cutM, this]
  have g0 : 0 ≤ n - ((x.k.size : Nat) : Int) := by simp at g0; omega
  have w1 : IntKind.i64.wrap (n - ((x.k.size : Nat) : Int) - ((x.v.size : Nat) : Int)) = n - ((x.k.size : Nat) : Int) - ((x.v.size : Nat) : Int) := wrap64 (by omega) (by omega)
  simp -implicitDefEqProofs only [go_sem, w1]
  refine BrA_i (fun g1 => ?_) (fun g1 => ?_) <;> simp -implicitDefEqProofs only [go_sem]
  · have : n < x.w := by simp at g1; omega
    simp [cutM, this]
  have g1 : 0 ≤ n - ((x.k.size : Nat) : Int) - ((x.v.size : Nat) : Int) := by simp at g1; omega
  have : ¬ n < x.w := by omega
  simp only [cutM, this, if_false]
  congr 2
  all_goals omega
theorem p_szPairS : Plain Try.prog 102 := ⟨_, Try.func102, rfl, by decide⟩
theorem s_szPairS (xs : List Pr) (n : Int) (h0 : 0 ≤ n) (h1 : n ≤ 1048576) (hs : lG Pr.G xs) : Spec Try.prog 102 [.t (.list false 2 (xs.map Pr.row)), I n] (fun r => r = I (cutM n (wAll Pr.w xs))) := by
  have hk : wAll Pr.w xs = xs.length + wSum Pr.w xs := rfl
  obtain ⟨hs, hsG⟩ := hs
  refine Spec.of tysOk mixed Try.func102 rfl (by decide) ?_
  have w1 : IntKind.i64.wrap (n - (xs.length : Int)) = n - xs.length := wrap64 (by omega) (by omega)
  simp -implicitDefEqProofs only [go_sem, Try.f102, w1]
  refine BrA_i (fun h2 => ?_) (fun h2 => ?_) <;> simp -implicitDefEqProofs only [go_sem]
  · simp at h2
    have : n < wAll Pr.w xs := by omega
    simp [cutM, this]
  · simp at h2
    refine LoopW.slots (α := Nat) (fun i => [(5, I i), (1, I (n - xs.length - wSum Pr.w (xs.take i)))]) (fun _ => []) (fun i => xs.length - i) (fun i => i ≤ xs.length ∧ 0 ≤ n - xs.length - wSum Pr.w (xs.take i)) 0 (by simp -implicitDefEqProofs only [go_sem]; simp [wSum]) rfl (by simp [wSum]; omega) ?_
    rintro i ⟨hi, hz⟩
    simp -implicitDefEqProofs only [go_sem]
    refine BrA_i (fun h => ?_) (fun h => ?_)
    · have h : i < xs.length := by simp at h; omega
      have hw1 : IntKind.i64.wrap ((i : Int) + 1) = ((i + 1 : Nat) : Int) := by rw [wrap64 (by omega) (by omega)]; omega
      have e1 := wSum_take Pr.w xs h
      have e2 := wSum_le Pr.w xs (i + 1)
      simp -implicitDefEqProofs only [go_sem, row_getD _ _ h, Pr.row]
      refine ⟨⟨by omega, by omega⟩, ?_⟩
      refine .one (s_szPair xs[i] _ hz (by omega) (hsG _ (List.getElem_mem h))) p_szPair (by simp -implicitDefEqProofs only [go_sem]) trivial ?_
      simp -implicitDefEqProofs only [go_sem]
      refine BrA_i (fun h3 => ?_) (fun h3 => ?_) <;> simp -implicitDefEqProofs only [go_sem]
      · have h3 : n - xs.length - wSum Pr.w (xs.take i) < xs[i].w := (cutM_lt _ _).1 (by simpa using h3)
        have : n < wAll Pr.w xs := by omega
        simp [cutM, this]
      · have h3 : ¬ n - xs.length - wSum Pr.w (xs.take i) < xs[i].w := fun hh => by simp [(cutM_lt _ _).2 hh] at h3
        refine .to [] (i + 1) rfl ?_ ?_ (by omega) ⟨h, by omega⟩ <;> (try simp -implicitDefEqProofs only [go_sem, LeTs_undef, LeTs_same, LeTs_nil, hw1, cutM_ge h3, e1])
        refine LeTs_cons _ _ _ _ ?_ ?_
        · congr 2; omega
        · simp -implicitDefEqProofs only [go_sem, LeTs_undef, LeTs_same, LeTs_nil]
    · simp -implicitDefEqProofs only [go_sem]
      have h : i = xs.length := by simp at h; omega
      subst h
      rw [List.take_length] at hz ⊢
      have : ¬ n < wAll Pr.w xs := by omega
      simp only [cutM, this, if_false]
      congr 2
      omega
theorem p_szItem : Plain Try.prog 79 := ⟨_, Try.func79, rfl, by decide⟩
theorem s_szItem (x : It) (n : Int) (h0 : 0 ≤ n) (h1 : n ≤ 1048576) (hs : x.G) : Spec Try.prog 79 [x.av, I n] (fun r => r = I (cutM n x.w)) := by
  have hk : x.w = wAll Pr.w x.fields := rfl
  have q0 := hs
  refine Spec.of tysOk mixed Try.func79 rfl (by decide) ?_
  simp -implicitDefEqProofs only [go_sem, Try.f79]
  refine .one (s_szPairS x.fields (n) (by omega) (by omega) q0) p_szPairS (by simp -implicitDefEqProofs only [go_sem]) trivial ?_
  simp -implicitDefEqProofs only [go_sem]
  refine BrA_i (fun g0 => ?_) (fun g0 => ?_) <;> simp -implicitDefEqProofs only [go_sem]
  · have g0 := (cutM_lt _ _).1 (by simpa using g0)
    have : n < x.w := by omega
    simp [cutM, this]
  have g0 : ¬ n < ((wAll Pr.w x.fields : Nat) : Int) := fun hh => by simp [(cutM_lt _ _).2 hh] at g0
  simp -implicitDefEqProofs only [cutM_ge g0]
  have : ¬ n < x.w := by omega
  simp only [cutM, this, if_false]
  congr 2
  all_goals omega
theorem p_szItemS : Plain Try.prog 44 := ⟨_, Try.func44, rfl, by decide⟩
theorem s_szItemS (xs : List It) (n : Int) (h0 : 0 ≤ n) (h1 : n ≤ 1048576) (hs : lG It.G xs) : Spec Try.prog 44 [.t (.list false 3 (xs.map It.row)), I n] (fun r => r = I (cutM n (wAll It.w xs))) := by
  have hk : wAll It.w xs = xs.length + wSum It.w xs := rfl
  obtain ⟨hs, hsG⟩ := hs
  refine Spec.of tysOk mixed Try.func44 rfl (by decide) ?_
  have w1 : IntKind.i64.wrap (n - (xs.length : Int)) = n - xs.length := wrap64 (by omega) (by omega)
  simp -implicitDefEqProofs only [go_sem, Try.f44, w1]
  refine BrA_i (fun h2 => ?_) (fun h2 => ?_) <;> simp -implicitDefEqProofs only [go_sem]
  · simp at h2
    have : n < wAll It.w xs := by omega
    simp [cutM, this]
  · simp at h2
    refine LoopW.slots (α := Nat) (fun i => [(5, I i), (1, I (n - xs.length - wSum It.w (xs.take i)))]) (fun _ => []) (fun i => xs.length - i) (fun i => i ≤ xs.length ∧ 0 ≤ n - xs.length - wSum It.w (xs.take i)) 0 (by simp -implicitDefEqProofs only [go_sem]; simp [wSum]) rfl (by simp [wSum]; omega) ?_
    rintro i ⟨hi, hz⟩
    simp -implicitDefEqProofs only [go_sem]
    refine BrA_i (fun h => ?_) (fun h => ?_)
    · have h : i < xs.length := by simp at h; omega
      have hw1 : IntKind.i64.wrap ((i : Int) + 1) = ((i + 1 : Nat) : Int) := by rw [wrap64 (by omega) (by omega)]; omega
      have e1 := wSum_take It.w xs h
      have e2 := wSum_le It.w xs (i + 1)
      simp -implicitDefEqProofs only [go_sem, row_getD _ _ h, It.row]
      refine ⟨⟨by omega, by omega⟩, ?_⟩
      refine .one (s_szItem xs[i] _ hz (by omega) (hsG _ (List.getElem_mem h))) p_szItem (by simp -implicitDefEqProofs only [go_sem]) trivial ?_
      simp -implicitDefEqProofs only [go_sem]
      refine BrA_i (fun h3 => ?_) (fun h3 => ?_) <;> simp -implicitDefEqProofs only [go_sem]
      · have h3 : n - xs.length - wSum It.w (xs.take i) < xs[i].w := (cutM_lt _ _).1 (by simpa using h3)
        have : n < wAll It.w xs := by omega
        simp [cutM, this]
      · have h3 : ¬ n - xs.length - wSum It.w (xs.take i) < xs[i].w := fun hh => by simp [(cutM_lt _ _).2 hh] at h3
        refine .to [] (i + 1) rfl ?_ ?_ (by omega) ⟨h, by omega⟩ <;> (try simp -implicitDefEqProofs only [go_sem, LeTs_undef, LeTs_same, LeTs_nil, hw1, cutM_ge h3, e1])
        refine LeTs_cons _ _ _ _ ?_ ?_
        · congr 2; omega
        · simp -implicitDefEqProofs only [go_sem, LeTs_undef, LeTs_same, LeTs_nil]
    · simp -implicitDefEqProofs only [go_sem]
      have h : i = xs.length := by simp at h; omega
      subst h
      rw [List.take_length] at hz ⊢
      have : ¬ n < wAll It.w xs := by omega
      simp only [cutM, this, if_false]
      congr 2
      omega
theorem p_szWait : Plain Try.prog 116 := ⟨_, Try.func116, rfl, by decide⟩
theorem s_szWait (x : Wt) (n : Int) (h0 : 0 ≤ n) (h1 : n ≤ 1048576) (hs : x.G) : Spec Try.prog 116 [x.av, I n] (fun r => r = I (cutM n x.w)) := by
  have hk : x.w = x.who.size := rfl
  have q0 : x.who.size ≤ 140737488351232 := hs
  refine Spec.of tysOk mixed Try.func116 rfl (by decide) ?_
  simp -implicitDefEqProofs only [go_sem, Try.f116]
  have w0 : IntKind.i64.wrap (n - ((x.who.size : Nat) : Int)) = n - ((x.who.size : Nat) : Int) := wrap64 (by omega) (by omega)
  simp -implicitDefEqProofs only [go_sem, w0]
  refine BrA_i (fun g0 => ?_) (fun g0 => ?_) <;> simp -implicitDefEqProofs only [go_sem]
  · have : n < x.w := by simp at g0; omega
    simp [cutM, this]
  have g0 : 0 ≤ n - ((x.who.size : Nat) : Int) := by simp at g0; omega
  have : ¬ n < x.w := by omega
  simp only [cutM, this, if_false]
  congr 2
  all_goals omega
theorem p_szWaitS : Plain Try.prog 103 := ⟨_, Try.func103, rfl, by decide⟩
theorem s_szWaitS (xs : List Wt) (n : Int) (h0 : 0 ≤ n) (h1 : n ≤ 1048576) (hs : lG Wt.G xs) : Spec Try.prog 103 [.t (.list false 5 (xs.map Wt.row)), I n] (fun r => r = I (cutM n (wAll Wt.w xs))) := by
  have hk : wAll Wt.w xs = xs.length + wSum Wt.w xs := rfl
  obtain ⟨hs, hsG⟩ := hs
  refine Spec.of tysOk mixed Try.func103 rfl (by decide) ?_
  have w1 : IntKind.i64.wrap (n - (xs.length : Int)) = n - xs.length := wrap64 (by omega) (by omega)
  simp -implicitDefEqProofs only [go_sem, Try.f103, w1]
  refine BrA_i (fun h2 => ?_) (fun h2 => ?_) <;> simp -implicitDefEqProofs only [go_sem]
  · simp at h2
    have : n < wAll Wt.w xs := by omega
    simp [cutM, this]
  · simp at h2
    refine LoopW.slots (α := Nat) (fun i => [(5, I i), (1, I (n - xs.length - wSum Wt.w (xs.take i)))]) (fun _ => []) (fun i => xs.length - i) (fun i => i ≤ xs.length ∧ 0 ≤ n - xs.length - wSum Wt.w (xs.take i)) 0 (by simp -implicitDefEqProofs only [go_sem]; simp [wSum]) rfl (by simp [wSum]; omega) ?_
    rintro i ⟨hi, hz⟩
    simp -implicitDefEqProofs only [go_sem]
    refine BrA_i (fun h => ?_) (fun h => ?_)
    · have h : i < xs.length := by simp at h; omega
      have hw1 : IntKind.i64.wrap ((i : Int) + 1) = ((i + 1 : Nat) : Int) := by rw [wrap64 (by omega) (by omega)]; omega
      have e1 := wSum_take Wt.w xs h
      have e2 := wSum_le Wt.w xs (i + 1)
      simp -implicitDefEqProofs only [go_sem, row_getD _ _ h, Wt.row]
      refine ⟨⟨by omega, by omega⟩, ?_⟩
      refine .one (s_szWait xs[i] _ hz (by omega) (hsG _ (List.getElem_mem h))) p_szWait (by simp -implicitDefEqProofs only [go_sem]) trivial ?_
      simp -implicitDefEqProofs only [go_sem]
      refine BrA_i (fun h3 => ?_) (fun h3 => ?_) <;> simp -implicitDefEqProofs only [go_sem]
      · have h3 : n - xs.length - wSum Wt.w (xs.take i) < xs[i].w := (cutM_lt _ _).1 (by simpa using h3)
        have : n < wAll Wt.w xs := by omega
        simp [cutM, this]
      · have h3 : ¬ n - xs.length - wSum Wt.w (xs.take i) < xs[i].w := fun hh => by simp [(cutM_lt _ _).2 hh] at h3
        refine .to [] (i + 1) rfl ?_ ?_ (by omega) ⟨h, by omega⟩ <;> (try simp -implicitDefEqProofs only [go_sem, LeTs_undef, LeTs_same, LeTs_nil, hw1, cutM_ge h3, e1])
        refine LeTs_cons _ _ _ _ ?_ ?_
        · congr 2; omega
        · simp -implicitDefEqProofs only [go_sem, LeTs_undef, LeTs_same, LeTs_nil]
    · simp -implicitDefEqProofs only [go_sem]
      have h : i = xs.length := by simp at h; omega
      subst h
      rw [List.take_length] at hz ⊢
      have : ¬ n < wAll Wt.w xs := by omega
      simp only [cutM, this, if_false]
      congr 2
      omega
theorem p_szGroup : Plain Try.prog 80 := ⟨_, Try.func80, rfl, by decide⟩
theorem s_szGroup (x : Gr) (n : Int) (h0 : 0 ≤ n) (h1 : n ≤ 1048576) (hs : x.G) : Spec Try.prog 80 [x.av, I n] (fun r => r = I (cutM n x.w)) := by
  have hk : x.w = x.name.size + wAll Wt.w x.waits := rfl
  obtain ⟨q0, q1⟩ := hs
  refine Spec.of tysOk mixed Try.func80 rfl (by decide) ?_
  simp -implicitDefEqProofs only [go_sem, Try.f80]
  have w0 : IntKind.i64.wrap (n - ((x.name.size : Nat) : Int)) = n - ((x.name.size : Nat) : Int) := wrap64 (by omega) (by omega)
  simp -implicitDefEqProofs only [go_sem, w0]
  refine BrA_i (fun g0 => ?_) (fun g0 => ?_) <;> simp -implicitDefEqProofs only [go_sem]
  · have : n < x.w := by simp at g0; omega
    simp [cutM, this]
  have g0 : 0 ≤ n - ((x.name.size : Nat) : Int) := by simp at g0; omega
  refine .one (s_szWaitS x.waits (n - ((x.name.size : Nat) : Int)) (by omega) (by omega) q1) p_szWaitS (by simp -implicitDefEqProofs only [go_sem]) trivial ?_
  simp -implicitDefEqProofs only [go_sem]
  refine BrA_i (fun g1 => ?_) (fun g1 => ?_) <;> simp -implicitDefEqProofs only [go_sem]
  · have g1 := (cutM_lt _ _).1 (by simpa using g1)
    have : n < x.w := by omega
    simp [cutM, this]
  have g1 : ¬ n - ((x.name.size : Nat) : Int) < ((wAll Wt.w x.waits : Nat) : Int) := fun hh => by simp [(cutM_lt _ _).2 hh] at g1
  simp -implicitDefEqProofs only [cutM_ge g1]
  have : ¬ n < x.w := by omega
  simp only [cutM, this, if_false]
  congr 2
  all_goals omega
theorem p_szGroupS : Plain Try.prog 45 := ⟨_, Try.func45, rfl, by decide⟩
theorem s_szGroupS (xs : List Gr) (n : Int) (h0 : 0 ≤ n) (h1 : n ≤ 1048576) (hs : lG Gr.G xs) : Spec Try.prog 45 [.t (.list false 4 (xs.map Gr.row)), I n] (fun r => r = I (cutM n (wAll Gr.w xs))) := by
  have hk : wAll Gr.w xs = xs.length + wSum Gr.w xs := rfl
  obtain ⟨hs, hsG⟩ := hs
  refine Spec.of tysOk mixed Try.func45 rfl (by decide) ?_
  have w1 : IntKind.i64.wrap (n - (xs.length : Int)) = n - xs.length := wrap64 (by omega) (by omega)
  simp -implicitDefEqProofs only [go_sem, Try.f45, w1]
  refine BrA_i (fun h2 => ?_) (fun h2 => ?_) <;> simp -implicitDefEqProofs only [go_sem]
  · simp at h2
    have : n < wAll Gr.w xs := by omega
    simp [cutM, this]
  · simp at h2
    refine LoopW.slots (α := Nat) (fun i => [(5, I i), (1, I (n - xs.length - wSum Gr.w (xs.take i)))]) (fun _ => []) (fun i => xs.length - i) (fun i => i ≤ xs.length ∧ 0 ≤ n - xs.length - wSum Gr.w (xs.take i)) 0 (by simp -implicitDefEqProofs only [go_sem]; simp [wSum]) rfl (by simp [wSum]; omega) ?_
    rintro i ⟨hi, hz⟩
    simp -implicitDefEqProofs only [go_sem]
    refine BrA_i (fun h => ?_) (fun h => ?_)
    · have h : i < xs.length := by simp at h; omega
      have hw1 : IntKind.i64.wrap ((i : Int) + 1) = ((i + 1 : Nat) : Int) := by rw [wrap64 (by omega) (by omega)]; omega
      have e1 := wSum_take Gr.w xs h
      have e2 := wSum_le Gr.w xs (i + 1)
      simp -implicitDefEqProofs only [go_sem, row_getD _ _ h, Gr.row]
      refine ⟨⟨by omega, by omega⟩, ?_⟩
      refine .one (s_szGroup xs[i] _ hz (by omega) (hsG _ (List.getElem_mem h))) p_szGroup (by simp -implicitDefEqProofs only [go_sem]) trivial ?_
      simp -implicitDefEqProofs only [go_sem]
      refine BrA_i (fun h3 => ?_) (fun h3 => ?_) <;> simp -implicitDefEqProofs only [go_sem]
      · have h3 : n - xs.length - wSum Gr.w (xs.take i) < xs[i].w := (cutM_lt _ _).1 (by simpa using h3)
        have : n < wAll Gr.w xs := by omega
        simp [cutM, this]
      · have h3 : ¬ n - xs.length - wSum Gr.w (xs.take i) < xs[i].w := fun hh => by simp [(cutM_lt _ _).2 hh] at h3
        refine .to [] (i + 1) rfl ?_ ?_ (by omega) ⟨h, by omega⟩ <;> (try simp -implicitDefEqProofs only [go_sem, LeTs_undef, LeTs_same, LeTs_nil, hw1, cutM_ge h3, e1])
        refine LeTs_cons _ _ _ _ ?_ ?_
        · congr 2; omega
        · simp -implicitDefEqProofs only [go_sem, LeTs_undef, LeTs_same, LeTs_nil]
    · simp -implicitDefEqProofs only [go_sem]
      have h : i = xs.length := by simp at h; omega
      subst h
      rw [List.take_length] at hz ⊢
      have : ¬ n < wAll Gr.w xs := by omega
      simp only [cutM, this, if_false]
      congr 2
      omega
theorem p_szStream : Plain Try.prog 13 := ⟨_, Try.func13, rfl, by decide⟩
theorem s_szStream (x : Stm) (n : Int) (h0 : 0 ≤ n) (h1 : n ≤ 1048576) (hs : x.G) : Spec Try.prog 13 [x.av, I n] (fun r => r = I (cutM n x.w)) := by
  have hk : x.w = wAll It.w x.items + wAll Gr.w x.groups := rfl
  obtain ⟨q0, q1⟩ := hs
  refine Spec.of tysOk mixed Try.func13 rfl (by decide) ?_
  simp -implicitDefEqProofs only [go_sem, Try.f13]
  refine .one (s_szItemS x.items (n) (by omega) (by omega) q0) p_szItemS (by simp -implicitDefEqProofs only [go_sem]) trivial ?_
  simp -implicitDefEqProofs only [go_sem]
  refine BrA_i (fun g0 => ?_) (fun g0 => ?_) <;> simp -implicitDefEqProofs only [go_sem]
  · have g0 := (cutM_lt _ _).1 (by simpa using g0)
    have : n < x.w := by omega
    simp [cutM, this]
  have g0 : ¬ n < ((wAll It.w x.items : Nat) : Int) := fun hh => by simp [(cutM_lt _ _).2 hh] at g0
  simp -implicitDefEqProofs only [cutM_ge g0]
  refine .one (s_szGroupS x.groups (n - ((wAll It.w x.items : Nat) : Int)) (by omega) (by omega) q1) p_szGroupS (by simp -implicitDefEqProofs only [go_sem]) trivial ?_
  simp -implicitDefEqProofs only [go_sem]
  refine BrA_i (fun g1 => ?_) (fun g1 => ?_) <;> simp -implicitDefEqProofs only [go_sem]
  · have g1 := (cutM_lt _ _).1 (by simpa using g1)
    have : n < x.w := by omega
    simp [cutM, this]
  have g1 : ¬ n - ((wAll It.w x.items : Nat) : Int) < ((wAll Gr.w x.groups : Nat) : Int) := fun hh => by simp [(cutM_lt _ _).2 hh] at g1
  simp -implicitDefEqProofs only [cutM_ge g1]
  have : ¬ n < x.w := by omega
  simp only [cutM, this, if_false]
  congr 2
  all_goals omega
end Go.Proofs.Ytaajnbfnaoecnaa.Am
namespace Go.Proofs.Ytaajnbfnaoecnaa.Am
open Go
set_option maxRecDepth 100000
set_option linter.unusedSimpArgs false
set_option linter.unusedVariables false
theorem p_toPair : Plain Try.prog 117 := ⟨_, Try.func117, rfl, by decide⟩
theorem s_toPair (x : Pr) : Spec Try.prog 117 [x.av] (fun r => r = x.av) := by
  refine Spec.of tysOk mixed Try.func117 rfl (by decide) ?_
  simp -implicitDefEqProofs only [go_sem, Try.f117]
theorem p_toPairS : Plain Try.prog 104 := ⟨_, Try.func104, rfl, by decide⟩
theorem s_toPairS (xs : List Pr) (hx : xs.length ≤ 1048576) : Spec Try.prog 104 [.t (.list false 2 (xs.map Pr.row))] (fun r => r = .own (.list true 2 (xs.map Pr.row))) := by
  refine Spec.of tysOk mixed Try.func104 rfl (by decide) ?_
  simp -implicitDefEqProofs only [go_sem, Try.f104]
  refine ⟨⟨by omega, by unfold roomy; omega⟩, ?_⟩
  refine LoopW.slots (α := Nat) (fun i => [(4, I i)]) (fun i => [(56, .rows 2 (fillR Pr.row [T.str ⟨#[]⟩, T.str ⟨#[]⟩] xs i))]) (fun i => xs.length - i) (fun i => i ≤ xs.length) 0 rfl (by simp -implicitDefEqProofs only [go_sem, fill_0]) (by omega) ?_
  intro i hi
  simp -implicitDefEqProofs only [go_sem]
  refine BrA_i (fun h => ?_) (fun h => ?_)
  · have h : i < xs.length := by simp at h; omega
    have hw1 : IntKind.i64.wrap ((i : Int) + 1) = ((i + 1 : Nat) : Int) := by rw [wrap64 (by omega) (by omega)]; omega
    simp -implicitDefEqProofs only [go_sem, row_getD _ _ h, Pr.row]
    refine ⟨⟨by omega, by omega⟩, ?_⟩
    refine .onep (s_toPair xs[i]) p_toPair (by simp -implicitDefEqProofs only [go_sem]) rfl ?_
    simp -implicitDefEqProofs only [go_sem, fill_len _ _ _ hi, fill_getD _ _ _ h]
    have e := fill_set Pr.row [T.str ⟨#[]⟩, T.str ⟨#[]⟩] xs h
    simp only [Pr.row] at e
    refine ⟨⟨by omega, by omega⟩, h, .to [] (i + 1) rfl ?_ ?_ (by omega) h⟩ <;> simp -implicitDefEqProofs only [go_sem, LeTs_undef, LeTs_same, LeTs_nil, hw1, e]
  · simp -implicitDefEqProofs only [go_sem]
    have h : i = xs.length := by simp at h; omega
    subst h
    rw [fill_all]
    try exact ⟨by decide, rfl⟩
theorem p_toId : Plain Try.prog 15 := ⟨_, Try.func15, rfl, by decide⟩
theorem s_toId (x : Idt) : Spec Try.prog 15 [x.av] (fun r => r = x.av) := by
  refine Spec.of tysOk mixed Try.func15 rfl (by decide) ?_
  simp -implicitDefEqProofs only [go_sem, Try.f15]
theorem p_toItem : Plain Try.prog 81 := ⟨_, Try.func81, rfl, by decide⟩
theorem s_toItem (x : It) (hs : x.fields.length ≤ 1048576) : Spec Try.prog 81 [x.av] (fun r => r = .agg [I x.id.t, I x.id.n, .own (.list true 2 (x.fields.map Pr.row))]) := by
  refine Spec.of tysOk mixed Try.func81 rfl (by decide) ?_
  simp -implicitDefEqProofs only [go_sem, Try.f81]
  refine .onep (s_toId x.id) p_toId (by simp -implicitDefEqProofs only [go_sem]) rfl ?_
  simp -implicitDefEqProofs only [go_sem]
  refine .onep (s_toPairS x.fields hs) p_toPairS (by simp -implicitDefEqProofs only [go_sem]) rfl ?_
  simp -implicitDefEqProofs only [go_sem]
  try decide
theorem p_toItemS : Plain Try.prog 46 := ⟨_, Try.func46, rfl, by decide⟩
theorem s_toItemS (xs : List It) (hx : xs.length ≤ 1048576) (hs : ∀ x ∈ xs, x.fields.length ≤ 1048576) : Spec Try.prog 46 [.t (.list false 3 (xs.map It.row))] (fun r => r = .own (.list true 3 (xs.map It.rowO))) := by
  refine Spec.of tysOk mixed Try.func46 rfl (by decide) ?_
  simp -implicitDefEqProofs only [go_sem, Try.f46]
  refine ⟨⟨by omega, by unfold roomy; omega⟩, ?_⟩
  refine LoopW.slots (α := Nat) (fun i => [(4, I i)]) (fun i => [(56, .rows 3 (fillR It.rowO [T.int .i64 0, T.int .i64 0, T.list true 2 []] xs i))]) (fun i => xs.length - i) (fun i => i ≤ xs.length) 0 rfl (by simp -implicitDefEqProofs only [go_sem, fill_0]) (by omega) ?_
  intro i hi
  simp -implicitDefEqProofs only [go_sem]
  refine BrA_i (fun h => ?_) (fun h => ?_)
  · have h : i < xs.length := by simp at h; omega
    have hw1 : IntKind.i64.wrap ((i : Int) + 1) = ((i + 1 : Nat) : Int) := by rw [wrap64 (by omega) (by omega)]; omega
    simp -implicitDefEqProofs only [go_sem, row_getD _ _ h, It.row]
    refine ⟨⟨by omega, by omega⟩, ?_⟩
    refine .onep (s_toItem xs[i] (hs _ (List.getElem_mem _))) p_toItem (by simp -implicitDefEqProofs only [go_sem]) rfl ?_
    simp -implicitDefEqProofs only [go_sem, fill_len _ _ _ hi, fill_getD _ _ _ h]
    have e := fill_set It.rowO [T.int .i64 0, T.int .i64 0, T.list true 2 []] xs h
    simp only [It.rowO] at e
    refine ⟨⟨by omega, by omega⟩, h, .to [] (i + 1) rfl ?_ ?_ (by omega) h⟩ <;> simp -implicitDefEqProofs only [go_sem, LeTs_undef, LeTs_same, LeTs_nil, hw1, e]
  · simp -implicitDefEqProofs only [go_sem]
    have h : i = xs.length := by simp at h; omega
    subst h
    rw [fill_all]
    try exact ⟨by decide, rfl⟩
theorem p_toWait : Plain Try.prog 118 := ⟨_, Try.func118, rfl, by decide⟩
theorem s_toWait (x : Wt) : Spec Try.prog 118 [x.av] (fun r => r = x.av) := by
  refine Spec.of tysOk mixed Try.func118 rfl (by decide) ?_
  simp -implicitDefEqProofs only [go_sem, Try.f118]
  refine .onep (s_toId x.id) p_toId (by simp -implicitDefEqProofs only [go_sem]) rfl ?_
  simp -implicitDefEqProofs only [go_sem]
  try decide
theorem p_toWaitS : Plain Try.prog 105 := ⟨_, Try.func105, rfl, by decide⟩
theorem s_toWaitS (xs : List Wt) (hx : xs.length ≤ 1048576) : Spec Try.prog 105 [.t (.list false 5 (xs.map Wt.row))] (fun r => r = .own (.list true 5 (xs.map Wt.row))) := by
  refine Spec.of tysOk mixed Try.func105 rfl (by decide) ?_
  simp -implicitDefEqProofs only [go_sem, Try.f105]
  refine ⟨⟨by omega, by unfold roomy; omega⟩, ?_⟩
  refine LoopW.slots (α := Nat) (fun i => [(4, I i)]) (fun i => [(56, .rows 5 (fillR Wt.row [T.int .i64 0, T.int .i64 0, T.str ⟨#[]⟩, T.int .i64 0, T.int .i64 0] xs i))]) (fun i => xs.length - i) (fun i => i ≤ xs.length) 0 rfl (by simp -implicitDefEqProofs only [go_sem, fill_0]) (by omega) ?_
  intro i hi
  simp -implicitDefEqProofs only [go_sem]
  refine BrA_i (fun h => ?_) (fun h => ?_)
  · have h : i < xs.length := by simp at h; omega
    have hw1 : IntKind.i64.wrap ((i : Int) + 1) = ((i + 1 : Nat) : Int) := by rw [wrap64 (by omega) (by omega)]; omega
    simp -implicitDefEqProofs only [go_sem, row_getD _ _ h, Wt.row]
    refine ⟨⟨by omega, by omega⟩, ?_⟩
    refine .onep (s_toWait xs[i]) p_toWait (by simp -implicitDefEqProofs only [go_sem]) rfl ?_
    simp -implicitDefEqProofs only [go_sem, fill_len _ _ _ hi, fill_getD _ _ _ h]
    have e := fill_set Wt.row [T.int .i64 0, T.int .i64 0, T.str ⟨#[]⟩, T.int .i64 0, T.int .i64 0] xs h
    simp only [Wt.row] at e
    refine ⟨⟨by omega, by omega⟩, h, .to [] (i + 1) rfl ?_ ?_ (by omega) h⟩ <;> simp -implicitDefEqProofs only [go_sem, LeTs_undef, LeTs_same, LeTs_nil, hw1, e]
  · simp -implicitDefEqProofs only [go_sem]
    have h : i = xs.length := by simp at h; omega
    subst h
    rw [fill_all]
    try exact ⟨by decide, rfl⟩
theorem p_toGroup : Plain Try.prog 82 := ⟨_, Try.func82, rfl, by decide⟩
theorem s_toGroup (x : Gr) (hs : x.waits.length ≤ 1048576) : Spec Try.prog 82 [x.av] (fun r => r = .agg [.t (.str x.name), I x.last.t, I x.last.n, .own (.list true 5 (x.waits.map Wt.row))]) := by
  refine Spec.of tysOk mixed Try.func82 rfl (by decide) ?_
  simp -implicitDefEqProofs only [go_sem, Try.f82]
  refine .onep (s_toId x.last) p_toId (by simp -implicitDefEqProofs only [go_sem]) rfl ?_
  simp -implicitDefEqProofs only [go_sem]
  refine .onep (s_toWaitS x.waits hs) p_toWaitS (by simp -implicitDefEqProofs only [go_sem]) rfl ?_
  simp -implicitDefEqProofs only [go_sem]
  try decide
theorem p_toGroupS : Plain Try.prog 47 := ⟨_, Try.func47, rfl, by decide⟩
theorem s_toGroupS (xs : List Gr) (hx : xs.length ≤ 1048576) (hs : ∀ x ∈ xs, x.waits.length ≤ 1048576) : Spec Try.prog 47 [.t (.list false 4 (xs.map Gr.row))] (fun r => r = .own (.list true 4 (xs.map Gr.rowO))) := by
  refine Spec.of tysOk mixed Try.func47 rfl (by decide) ?_
  simp -implicitDefEqProofs only [go_sem, Try.f47]
  refine ⟨⟨by omega, by unfold roomy; omega⟩, ?_⟩
  refine LoopW.slots (α := Nat) (fun i => [(4, I i)]) (fun i => [(56, .rows 4 (fillR Gr.rowO [T.str ⟨#[]⟩, T.int .i64 0, T.int .i64 0, T.list true 5 []] xs i))]) (fun i => xs.length - i) (fun i => i ≤ xs.length) 0 rfl (by simp -implicitDefEqProofs only [go_sem, fill_0]) (by omega) ?_
  intro i hi
  simp -implicitDefEqProofs only [go_sem]
  refine BrA_i (fun h => ?_) (fun h => ?_)
  · have h : i < xs.length := by simp at h; omega
    have hw1 : IntKind.i64.wrap ((i : Int) + 1) = ((i + 1 : Nat) : Int) := by rw [wrap64 (by omega) (by omega)]; omega
    simp -implicitDefEqProofs only [go_sem, row_getD _ _ h, Gr.row]
    refine ⟨⟨by omega, by omega⟩, ?_⟩
    refine .onep (s_toGroup xs[i] (hs _ (List.getElem_mem _))) p_toGroup (by simp -implicitDefEqProofs only [go_sem]) rfl ?_
    simp -implicitDefEqProofs only [go_sem, fill_len _ _ _ hi, fill_getD _ _ _ h]
    have e := fill_set Gr.rowO [T.str ⟨#[]⟩, T.int .i64 0, T.int .i64 0, T.list true 5 []] xs h
    simp only [Gr.rowO] at e
    refine ⟨⟨by omega, by omega⟩, h, .to [] (i + 1) rfl ?_ ?_ (by omega) h⟩ <;> simp -implicitDefEqProofs only [go_sem, LeTs_undef, LeTs_same, LeTs_nil, hw1, e]
  · simp -implicitDefEqProofs only [go_sem]
    have h : i = xs.length := by simp at h; omega
    subst h
    rw [fill_all]
    try exact ⟨by decide, rfl⟩
theorem p_toStream : Plain Try.prog 14 := ⟨_, Try.func14, rfl, by decide⟩
theorem s_toStream (x : Stm) (h1 : x.items.length ≤ 1048576) (h2 : ∀ y ∈ x.items, y.fields.length ≤ 1048576) (h3 : x.groups.length ≤ 1048576) (h4 : ∀ y ∈ x.groups, y.waits.length ≤ 1048576) : Spec Try.prog 14 [x.av] (fun r => r = .agg [I x.last.t, I x.last.n, .own (.list true 3 (x.items.map It.rowO)), .own (.list true 4 (x.groups.map Gr.rowO))]) := by
  refine Spec.of tysOk mixed Try.func14 rfl (by decide) ?_
  simp -implicitDefEqProofs only [go_sem, Try.f14]
  refine .onep (s_toId x.last) p_toId (by simp -implicitDefEqProofs only [go_sem]) rfl ?_
  simp -implicitDefEqProofs only [go_sem]
  refine .onep (s_toItemS x.items h1 h2) p_toItemS (by simp -implicitDefEqProofs only [go_sem]) rfl ?_
  simp -implicitDefEqProofs only [go_sem]
  refine .onep (s_toGroupS x.groups h3 h4) p_toGroupS (by simp -implicitDefEqProofs only [go_sem]) rfl ?_
  simp -implicitDefEqProofs only [go_sem]
  try decide
end Go.Proofs.Ytaajnbfnaoecnaa.Am
namespace Go.Proofs.Ytaajnbfnaoecnaa.Am
open Go
set_option maxRecDepth 100000
set_option linter.unusedSimpArgs false
set_option linter.unusedVariables false
theorem p_eqPair : Plain Try.prog 119 := ⟨_, Try.func119, rfl, by decide⟩
theorem s_eqPair (x y : Pr) : Spec Try.prog 119 [x.av, y.av] (fun r => r = Bo (decide (x = y))) := by
  have ext := Pr.ext_iff (x := x) (y := y)
  refine Spec.of tysOk mixed Try.func119 rfl (by decide) ?_
  simp -implicitDefEqProofs only [go_sem, Try.f119]
  refine BrA_i (fun h0 => ?_) (fun h0 => ?_) <;> simp -implicitDefEqProofs only [go_sem]
  · skip
    refine BrA_i (fun h1 => ?_) (fun h1 => ?_) <;> simp -implicitDefEqProofs only [go_sem]
    · simp only [decide_eq_true_eq] at h0 h1; simp [ext, *]
    · simp only [decide_eq_false_iff_not] at h1; simp [ext, h1]
  · simp only [decide_eq_false_iff_not] at h0; simp [ext, h0]
theorem p_eqPairS : Plain Try.prog 106 := ⟨_, Try.func106, rfl, by decide⟩
theorem s_eqPairS (xs ys : List Pr) (hx : xs.length < 4611686018427387904) : Spec Try.prog 106 [.t (.list false 2 (xs.map Pr.row)), .t (.list false 2 (ys.map Pr.row))] (fun r => r = Bo (decide (xs = ys))) := by
  refine Spec.of tysOk mixed Try.func106 rfl (by decide) ?_
  simp -implicitDefEqProofs only [go_sem, Try.f106]
  refine BrA_i (fun h => ?_) (fun h => ?_) <;> simp -implicitDefEqProofs only [go_sem]
  · have hl : xs.length = ys.length := by simp at h; omega
    refine LoopW.slots (α := Nat) (fun i => [(5, I i)]) (fun _ => []) (fun i => xs.length - i) (fun i => i ≤ xs.length ∧ ∀ j (h : j < xs.length), j < i → xs[j] = ys[j]) 0 rfl rfl (by simp) ?_
    rintro i ⟨hi, hz⟩
    simp -implicitDefEqProofs only [go_sem]
    refine BrA_i (fun h => ?_) (fun h => ?_)
    · have h : i < xs.length := by simp at h; omega
      have h' : i < ys.length := by omega
      have hw1 : IntKind.i64.wrap ((i : Int) + 1) = ((i + 1 : Nat) : Int) := by rw [wrap64 (by omega) (by omega)]; omega
      simp -implicitDefEqProofs only [go_sem]
      refine RegD_of sch_106_6 tysOk (by kernel_rfl) ?_
      simp -implicitDefEqProofs only [go_sem, row_getD _ _ h, row_getD _ _ h', Pr.row]
      refine ⟨⟨by omega, by omega⟩, ⟨by omega, by omega⟩, ?_⟩
      refine .one (s_eqPair xs[i] ys[i]) p_eqPair (by simp -implicitDefEqProofs only [go_sem]) trivial ?_
      simp -implicitDefEqProofs only [go_sem]
      refine BrA_i (fun h1 => ?_) (fun h1 => ?_) <;> simp -implicitDefEqProofs only [go_sem]
      · refine .to [] (i + 1) rfl ?_ ?_ (by omega) ⟨h, fun j hj hl => ?_⟩ <;> (try simp -implicitDefEqProofs only [go_sem, LeTs_undef, LeTs_same, LeTs_nil, hw1])
        rcases Nat.lt_succ_iff_lt_or_eq.1 hl with hl | rfl
        · exact hz j hj hl
        · simpa using h1
      · have : xs ≠ ys := fun e => by subst e; simp at h1
        simp [this]
    · simp -implicitDefEqProofs only [go_sem]
      have : xs = ys := List.ext_getElem hl fun j h1 h2 => hz j h1 (by simp at h; omega)
      simp [this]
  · have : xs ≠ ys := fun e => by subst e; simp at h
    simp [this]
theorem p_eqId : Plain Try.prog 48 := ⟨_, Try.func48, rfl, by decide⟩
theorem s_eqId (x y : Idt) : Spec Try.prog 48 [x.av, y.av] (fun r => r = Bo (decide (x = y))) := by
  have ext := Idt.ext_iff (x := x) (y := y)
  refine Spec.of tysOk mixed Try.func48 rfl (by decide) ?_
  simp -implicitDefEqProofs only [go_sem, Try.f48]
  refine BrA_i (fun h0 => ?_) (fun h0 => ?_) <;> simp -implicitDefEqProofs only [go_sem]
  · skip
    refine BrA_i (fun h1 => ?_) (fun h1 => ?_) <;> simp -implicitDefEqProofs only [go_sem]
    · simp only [decide_eq_true_eq] at h0 h1; simp [ext, *]
    · simp only [decide_eq_false_iff_not] at h1; simp [ext, h1]
  · simp only [decide_eq_false_iff_not] at h0; simp [ext, h0]
theorem p_eqItem : Plain Try.prog 83 := ⟨_, Try.func83, rfl, by decide⟩
theorem s_eqItem (x y : It) (hs : x.sm) : Spec Try.prog 83 [x.av, y.av] (fun r => r = Bo (decide (x = y))) := by
  have ext := It.ext_iff (x := x) (y := y)
  refine Spec.of tysOk mixed Try.func83 rfl (by decide) ?_
  simp -implicitDefEqProofs only [go_sem, Try.f83]
  refine .one (s_eqId x.id y.id) p_eqId (by simp -implicitDefEqProofs only [go_sem]) trivial ?_
  simp -implicitDefEqProofs only [go_sem]
  refine BrA_i (fun h0 => ?_) (fun h0 => ?_) <;> simp -implicitDefEqProofs only [go_sem]
  · skip
    refine .one (s_eqPairS x.fields y.fields hs) p_eqPairS (by simp -implicitDefEqProofs only [go_sem]) trivial ?_
    simp -implicitDefEqProofs only [go_sem]
    refine BrA_i (fun h1 => ?_) (fun h1 => ?_) <;> simp -implicitDefEqProofs only [go_sem]
    · simp only [decide_eq_true_eq] at h0 h1; simp [ext, *]
    · simp only [decide_eq_false_iff_not] at h1; simp [ext, h1]
  · simp only [decide_eq_false_iff_not] at h0; simp [ext, h0]
theorem p_eqItemS : Plain Try.prog 49 := ⟨_, Try.func49, rfl, by decide⟩
theorem s_eqItemS (xs ys : List It) (hx : xs.length < 4611686018427387904) (hs : ∀ x ∈ xs, x.sm) : Spec Try.prog 49 [.t (.list false 3 (xs.map It.row)), .t (.list false 3 (ys.map It.row))] (fun r => r = Bo (decide (xs = ys))) := by
  refine Spec.of tysOk mixed Try.func49 rfl (by decide) ?_
  simp -implicitDefEqProofs only [go_sem, Try.f49]
  refine BrA_i (fun h => ?_) (fun h => ?_) <;> simp -implicitDefEqProofs only [go_sem]
  · have hl : xs.length = ys.length := by simp at h; omega
    refine LoopW.slots (α := Nat) (fun i => [(5, I i)]) (fun _ => []) (fun i => xs.length - i) (fun i => i ≤ xs.length ∧ ∀ j (h : j < xs.length), j < i → xs[j] = ys[j]) 0 rfl rfl (by simp) ?_
    rintro i ⟨hi, hz⟩
    simp -implicitDefEqProofs only [go_sem]
    refine BrA_i (fun h => ?_) (fun h => ?_)
    · have h : i < xs.length := by simp at h; omega
      have h' : i < ys.length := by omega
      have hw1 : IntKind.i64.wrap ((i : Int) + 1) = ((i + 1 : Nat) : Int) := by rw [wrap64 (by omega) (by omega)]; omega
      simp -implicitDefEqProofs only [go_sem]
      refine RegD_of sch_49_6 tysOk (by kernel_rfl) ?_
      simp -implicitDefEqProofs only [go_sem, row_getD _ _ h, row_getD _ _ h', It.row]
      refine ⟨⟨by omega, by omega⟩, ⟨by omega, by omega⟩, ?_⟩
      refine .one (s_eqItem xs[i] ys[i] (hs _ (List.getElem_mem _))) p_eqItem (by simp -implicitDefEqProofs only [go_sem]) trivial ?_
      simp -implicitDefEqProofs only [go_sem]
      refine BrA_i (fun h1 => ?_) (fun h1 => ?_) <;> simp -implicitDefEqProofs only [go_sem]
      · refine .to [] (i + 1) rfl ?_ ?_ (by omega) ⟨h, fun j hj hl => ?_⟩ <;> (try simp -implicitDefEqProofs only [go_sem, LeTs_undef, LeTs_same, LeTs_nil, hw1])
        rcases Nat.lt_succ_iff_lt_or_eq.1 hl with hl | rfl
        · exact hz j hj hl
        · simpa using h1
      · have : xs ≠ ys := fun e => by subst e; simp at h1
        simp [this]
    · simp -implicitDefEqProofs only [go_sem]
      have : xs = ys := List.ext_getElem hl fun j h1 h2 => hz j h1 (by simp at h; omega)
      simp [this]
  · have : xs ≠ ys := fun e => by subst e; simp at h
    simp [this]
theorem p_eqWait : Plain Try.prog 120 := ⟨_, Try.func120, rfl, by decide⟩
theorem s_eqWait (x y : Wt) : Spec Try.prog 120 [x.av, y.av] (fun r => r = Bo (decide (x = y))) := by
  have ext := Wt.ext_iff (x := x) (y := y)
  refine Spec.of tysOk mixed Try.func120 rfl (by decide) ?_
  simp -implicitDefEqProofs only [go_sem, Try.f120]
  refine .one (s_eqId x.id y.id) p_eqId (by simp -implicitDefEqProofs only [go_sem]) trivial ?_
  simp -implicitDefEqProofs only [go_sem]
  refine BrA_i (fun h0 => ?_) (fun h0 => ?_) <;> simp -implicitDefEqProofs only [go_sem]
  · skip
    refine BrA_i (fun h1 => ?_) (fun h1 => ?_) <;> simp -implicitDefEqProofs only [go_sem]
    · skip
      refine BrA_i (fun h2 => ?_) (fun h2 => ?_) <;> simp -implicitDefEqProofs only [go_sem]
      · skip
        refine BrA_i (fun h3 => ?_) (fun h3 => ?_) <;> simp -implicitDefEqProofs only [go_sem]
        · simp only [decide_eq_true_eq] at h0 h1 h2 h3; simp [ext, *]
        · simp only [decide_eq_false_iff_not] at h3; simp [ext, h3]
      · simp only [decide_eq_false_iff_not] at h2; simp [ext, h2]
    · simp only [decide_eq_false_iff_not] at h1; simp [ext, h1]
  · simp only [decide_eq_false_iff_not] at h0; simp [ext, h0]
theorem p_eqWaitS : Plain Try.prog 107 := ⟨_, Try.func107, rfl, by decide⟩
theorem s_eqWaitS (xs ys : List Wt) (hx : xs.length < 4611686018427387904) : Spec Try.prog 107 [.t (.list false 5 (xs.map Wt.row)), .t (.list false 5 (ys.map Wt.row))] (fun r => r = Bo (decide (xs = ys))) := by
  refine Spec.of tysOk mixed Try.func107 rfl (by decide) ?_
  simp -implicitDefEqProofs only [go_sem, Try.f107]
  refine BrA_i (fun h => ?_) (fun h => ?_) <;> simp -implicitDefEqProofs only [go_sem]
  · have hl : xs.length = ys.length := by simp at h; omega
    refine LoopW.slots (α := Nat) (fun i => [(5, I i)]) (fun _ => []) (fun i => xs.length - i) (fun i => i ≤ xs.length ∧ ∀ j (h : j < xs.length), j < i → xs[j] = ys[j]) 0 rfl rfl (by simp) ?_
    rintro i ⟨hi, hz⟩
    simp -implicitDefEqProofs only [go_sem]
    refine BrA_i (fun h => ?_) (fun h => ?_)
    · have h : i < xs.length := by simp at h; omega
      have h' : i < ys.length := by omega
      have hw1 : IntKind.i64.wrap ((i : Int) + 1) = ((i + 1 : Nat) : Int) := by rw [wrap64 (by omega) (by omega)]; omega
      simp -implicitDefEqProofs only [go_sem]
      refine RegD_of sch_107_6 tysOk (by kernel_rfl) ?_
      simp -implicitDefEqProofs only [go_sem, row_getD _ _ h, row_getD _ _ h', Wt.row]
      refine ⟨⟨by omega, by omega⟩, ⟨by omega, by omega⟩, ?_⟩
      refine .one (s_eqWait xs[i] ys[i]) p_eqWait (by simp -implicitDefEqProofs only [go_sem]) trivial ?_
      simp -implicitDefEqProofs only [go_sem]
      refine BrA_i (fun h1 => ?_) (fun h1 => ?_) <;> simp -implicitDefEqProofs only [go_sem]
      · refine .to [] (i + 1) rfl ?_ ?_ (by omega) ⟨h, fun j hj hl => ?_⟩ <;> (try simp -implicitDefEqProofs only [go_sem, LeTs_undef, LeTs_same, LeTs_nil, hw1])
        rcases Nat.lt_succ_iff_lt_or_eq.1 hl with hl | rfl
        · exact hz j hj hl
        · simpa using h1
      · have : xs ≠ ys := fun e => by subst e; simp at h1
        simp [this]
    · simp -implicitDefEqProofs only [go_sem]
      have : xs = ys := List.ext_getElem hl fun j h1 h2 => hz j h1 (by simp at h; omega)
      simp [this]
  · have : xs ≠ ys := fun e => by subst e; simp at h
    simp [this]
theorem p_eqGroup : Plain Try.prog 84 := ⟨_, Try.func84, rfl, by decide⟩
theorem s_eqGroup (x y : Gr) (hs : x.sm) : Spec Try.prog 84 [x.av, y.av] (fun r => r = Bo (decide (x = y))) := by
  have ext := Gr.ext_iff (x := x) (y := y)
  refine Spec.of tysOk mixed Try.func84 rfl (by decide) ?_
  simp -implicitDefEqProofs only [go_sem, Try.f84]
  refine BrA_i (fun h0 => ?_) (fun h0 => ?_) <;> simp -implicitDefEqProofs only [go_sem]
  · skip
    refine .one (s_eqId x.last y.last) p_eqId (by simp -implicitDefEqProofs only [go_sem]) trivial ?_
    simp -implicitDefEqProofs only [go_sem]
    refine BrA_i (fun h1 => ?_) (fun h1 => ?_) <;> simp -implicitDefEqProofs only [go_sem]
    · skip
      refine .one (s_eqWaitS x.waits y.waits hs) p_eqWaitS (by simp -implicitDefEqProofs only [go_sem]) trivial ?_
      simp -implicitDefEqProofs only [go_sem]
      refine BrA_i (fun h2 => ?_) (fun h2 => ?_) <;> simp -implicitDefEqProofs only [go_sem]
      · simp only [decide_eq_true_eq] at h0 h1 h2; simp [ext, *]
      · simp only [decide_eq_false_iff_not] at h2; simp [ext, h2]
    · simp only [decide_eq_false_iff_not] at h1; simp [ext, h1]
  · simp only [decide_eq_false_iff_not] at h0; simp [ext, h0]
theorem p_eqGroupS : Plain Try.prog 50 := ⟨_, Try.func50, rfl, by decide⟩
theorem s_eqGroupS (xs ys : List Gr) (hx : xs.length < 4611686018427387904) (hs : ∀ x ∈ xs, x.sm) : Spec Try.prog 50 [.t (.list false 4 (xs.map Gr.row)), .t (.list false 4 (ys.map Gr.row))] (fun r => r = Bo (decide (xs = ys))) := by
  refine Spec.of tysOk mixed Try.func50 rfl (by decide) ?_
  simp -implicitDefEqProofs only [go_sem, Try.f50]
  refine BrA_i (fun h => ?_) (fun h => ?_) <;> simp -implicitDefEqProofs only [go_sem]
  · have hl : xs.length = ys.length := by simp at h; omega
    refine LoopW.slots (α := Nat) (fun i => [(5, I i)]) (fun _ => []) (fun i => xs.length - i) (fun i => i ≤ xs.length ∧ ∀ j (h : j < xs.length), j < i → xs[j] = ys[j]) 0 rfl rfl (by simp) ?_
    rintro i ⟨hi, hz⟩
    simp -implicitDefEqProofs only [go_sem]
    refine BrA_i (fun h => ?_) (fun h => ?_)
    · have h : i < xs.length := by simp at h; omega
      have h' : i < ys.length := by omega
      have hw1 : IntKind.i64.wrap ((i : Int) + 1) = ((i + 1 : Nat) : Int) := by rw [wrap64 (by omega) (by omega)]; omega
      simp -implicitDefEqProofs only [go_sem]
      refine RegD_of sch_50_6 tysOk (by kernel_rfl) ?_
      simp -implicitDefEqProofs only [go_sem, row_getD _ _ h, row_getD _ _ h', Gr.row]
      refine ⟨⟨by omega, by omega⟩, ⟨by omega, by omega⟩, ?_⟩
      refine .one (s_eqGroup xs[i] ys[i] (hs _ (List.getElem_mem _))) p_eqGroup (by simp -implicitDefEqProofs only [go_sem]) trivial ?_
      simp -implicitDefEqProofs only [go_sem]
      refine BrA_i (fun h1 => ?_) (fun h1 => ?_) <;> simp -implicitDefEqProofs only [go_sem]
      · refine .to [] (i + 1) rfl ?_ ?_ (by omega) ⟨h, fun j hj hl => ?_⟩ <;> (try simp -implicitDefEqProofs only [go_sem, LeTs_undef, LeTs_same, LeTs_nil, hw1])
        rcases Nat.lt_succ_iff_lt_or_eq.1 hl with hl | rfl
        · exact hz j hj hl
        · simpa using h1
      · have : xs ≠ ys := fun e => by subst e; simp at h1
        simp [this]
    · simp -implicitDefEqProofs only [go_sem]
      have : xs = ys := List.ext_getElem hl fun j h1 h2 => hz j h1 (by simp at h; omega)
      simp [this]
  · have : xs ≠ ys := fun e => by subst e; simp at h
    simp [this]
theorem p_eqStream : Plain Try.prog 16 := ⟨_, Try.func16, rfl, by decide⟩
theorem s_eqStream (x y : Stm) (hs : x.sm) : Spec Try.prog 16 [x.av, y.av] (fun r => r = Bo (decide (x = y))) := by
  have ext := Stm.ext_iff (x := x) (y := y)
  refine Spec.of tysOk mixed Try.func16 rfl (by decide) ?_
  simp -implicitDefEqProofs only [go_sem, Try.f16]
  refine .one (s_eqId x.last y.last) p_eqId (by simp -implicitDefEqProofs only [go_sem]) trivial ?_
  simp -implicitDefEqProofs only [go_sem]
  refine BrA_i (fun h0 => ?_) (fun h0 => ?_) <;> simp -implicitDefEqProofs only [go_sem]
  · skip
    refine .one (s_eqItemS x.items y.items hs.1 hs.2.2.1) p_eqItemS (by simp -implicitDefEqProofs only [go_sem]) trivial ?_
    simp -implicitDefEqProofs only [go_sem]
    refine BrA_i (fun h1 => ?_) (fun h1 => ?_) <;> simp -implicitDefEqProofs only [go_sem]
    · skip
      refine .one (s_eqGroupS x.groups y.groups hs.2.1 hs.2.2.2) p_eqGroupS (by simp -implicitDefEqProofs only [go_sem]) trivial ?_
      simp -implicitDefEqProofs only [go_sem]
      refine BrA_i (fun h2 => ?_) (fun h2 => ?_) <;> simp -implicitDefEqProofs only [go_sem]
      · simp only [decide_eq_true_eq] at h0 h1 h2; simp [ext, *]
      · simp only [decide_eq_false_iff_not] at h2; simp [ext, h2]
    · simp only [decide_eq_false_iff_not] at h1; simp [ext, h1]
  · simp only [decide_eq_false_iff_not] at h0; simp [ext, h0]
end Go.Proofs.Ytaajnbfnaoecnaa.Am
namespace Go.Proofs.Ytaajnbfnaoecnaa.Am
open Go
set_option maxRecDepth 100000
set_option linter.unusedSimpArgs false
set_option linter.unusedVariables false
def Stm.mw (s : Stm) : Nat := wSum It.mw s.items + wSum Gr.mw s.groups
def Stm.m (s : Stm) (k : Int) : Stm := ⟨s.last, mkAll It.m It.mw s.items k, mkAll Gr.m Gr.mw s.groups (k + (wSum It.mw s.items : Nat))⟩
theorem Stm.m_last (s : Stm) (k : Int) : (s.m k).last = s.last := rfl
attribute [go_sem] Stm.m_last
theorem wSum_map_le {α : Type} (f g : α → Nat) (a b : Nat) (xs : List α) (h : ∀ x ∈ xs, f x ≤ a + b * g x) : wSum f xs ≤ a * xs.length + b * wSum g xs := by
  induction xs with
  | nil => simp [wSum]
  | cons x xs ih =>
    have h1 := h x (by simp)
    have h2 := ih (fun y hy => h y (by simp [hy]))
    simp only [wSum_cons, List.length_cons, Nat.mul_add, Nat.mul_one]
    omega
theorem Stm.mw_le (s : Stm) : s.mw ≤ 5 * s.w := by
  have h1 : wSum It.mw s.items ≤ 2 * s.items.length + 2 * wSum It.w s.items := wSum_map_le _ _ _ _ _ fun x _ => by
    have := wSum_map_le Pr.mw Pr.w 2 0 x.fields (fun x _ => by unfold Pr.mw; omega)
    simp only [It.mw, It.w, wAll]; omega
  have h2 : wSum Gr.mw s.groups ≤ 3 * s.groups.length + 5 * wSum Gr.w s.groups := wSum_map_le _ _ _ _ _ fun x _ => by
    have := wSum_map_le Wt.mw Wt.w 5 0 x.waits (fun x _ => by unfold Wt.mw; omega)
    simp only [Gr.mw, Gr.w, wAll]; omega
  simp only [Stm.mw, Stm.w, wAll]
  omega
theorem Stm.md_w {s : Stm} (h : s.w ≤ 1048576) : s.md := by
  simp only [Stm.w, wAll] at h
  refine ⟨by omega, by omega, fun i hi => ?_, fun g hg => ?_⟩
  · have := wSum_mem It.w hi
    simp only [It.w, wAll] at this; omega
  · have := wSum_mem Gr.w hg
    simp only [Gr.w, wAll] at this; omega
theorem Stm.sm_w {s : Stm} (h : s.w < 4611686018427387904) : s.sm := by
  simp only [Stm.w, wAll] at h
  refine ⟨by omega, by omega, fun i hi => ?_, fun g hg => ?_⟩
  · have := wSum_mem It.w hi
    simp only [It.w, wAll] at this; unfold It.sm; omega
  · have := wSum_mem Gr.w hg
    simp only [Gr.w, wAll] at this; unfold Gr.sm; omega
theorem p_markStream : Plain Try.prog 17 := ⟨_, Try.func17, rfl, by decide⟩
theorem s_markStream (s : Stm) (k : Int) (hk : 0 ≤ k) (hb : k + (s.mw : Nat) < 10000000000000000) : SpecO Try.prog 17 [.agg [I s.last.t, I s.last.n, .refw 9000, .refw 9001], I k] [(9000, .rows 3 (s.items.map It.rowO)), (9001, .rows 4 (s.groups.map Gr.rowO))]
    (fun r h => r = I (k + (s.mw : Nat)) ∧ h = [(9000, .rows 3 ((s.m k).items.map It.rowO)), (9001, .rows 4 ((s.m k).groups.map Gr.rowO))]) := by
  have hk1 : s.mw = wSum It.mw s.items + wSum Gr.mw s.groups := rfl
  have l1 := wSum_len (w := It.mw) (fun _ => by unfold It.mw; omega) s.items
  have l2 := wSum_len (w := Gr.mw) (fun _ => by unfold Gr.mw; omega) s.groups
  refine SpecO.of tysOk mixed Try.func17 rfl (by decide) ?_
  simp -implicitDefEqProofs only [go_sem, Try.f17]
  refine CallW.o [(9000, 9000)] (s_markItemS s.items k hk (by omega) (by omega)) p_markItemS o51 rfl (by conv => lhs; simp -implicitDefEqProofs only [go_sem]) (by simp -implicitDefEqProofs only [go_sem]) ?_
  rintro _ _ ⟨rfl, rfl⟩
  simp -implicitDefEqProofs only [go_sem]
  refine CallW.o [(9000, 9001)] (s_markGroupS s.groups (k + (wSum It.mw s.items : Nat)) (by omega) (by omega) (by omega)) p_markGroupS o52 rfl (by conv => lhs; simp -implicitDefEqProofs only [go_sem]) (by simp -implicitDefEqProofs only [go_sem]) ?_
  rintro _ _ ⟨rfl, rfl⟩
  simp -implicitDefEqProofs only [go_sem, mkAll_len]
  refine ⟨?_, rfl⟩
  rw [hk1]; congr 2; omega
theorem It.mk_rowsO (l : List It) : (l.map It.rowO).map (List.map (T.mk false)) = l.map It.row := by
  rw [List.map_map]; exact List.map_congr_left fun x _ => by simp only [Function.comp, It.rowO, It.row, List.map_cons, List.map_nil, T.mk_list, T.mk_int, Pr.mk_rows]
theorem Gr.mk_rowsO (l : List Gr) : (l.map Gr.rowO).map (List.map (T.mk false)) = l.map Gr.row := by
  rw [List.map_map]; exact List.map_congr_left fun x _ => by simp only [Function.comp, Gr.rowO, Gr.row, List.map_cons, List.map_nil, T.mk_list, T.mk_int, T.mk_str, Wt.mk_rows]
attribute [go_sem] It.mk_rowsO Gr.mk_rowsO
theorem deep_rows {α : Type} (row : α → List T) (h : ∀ x, ∀ t ∈ row x, Deep t) (n : Nat) (l : List α) : Deep (.list true n (l.map row)) :=
  .list _ _ fun r hr x hx => by
    obtain ⟨y, _, rfl⟩ := List.mem_map.1 hr
    exact h y x hx
theorem deep_prs (l : List Pr) : Deep (.list true 2 (l.map Pr.row)) := deep_rows _ (fun x t ht => by simp only [Pr.row, List.mem_cons, List.not_mem_nil, or_false] at ht; rcases ht with rfl | rfl <;> exact .sc _ trivial) _ _
theorem deep_wts (l : List Wt) : Deep (.list true 5 (l.map Wt.row)) := deep_rows _ (fun x t ht => by simp only [Wt.row, List.mem_cons, List.not_mem_nil, or_false] at ht; rcases ht with rfl | rfl | rfl | rfl | rfl <;> exact .sc _ trivial) _ _
theorem deep_its (l : List It) : Deep (.list true 3 (l.map It.rowO)) := deep_rows _ (fun x t ht => by simp only [It.rowO, List.mem_cons, List.not_mem_nil, or_false] at ht; rcases ht with rfl | rfl | rfl <;> first | exact .sc _ trivial | exact deep_prs _) _ _
theorem deep_grs (l : List Gr) : Deep (.list true 4 (l.map Gr.rowO)) := deep_rows _ (fun x t ht => by simp only [Gr.rowO, List.mem_cons, List.not_mem_nil, or_false] at ht; rcases ht with rfl | rfl | rfl | rfl <;> first | exact .sc _ trivial | exact deep_wts _) _ _
theorem deep_avO (s : Stm) : DeepR s.avO := ⟨trivial, trivial, deep_its _, deep_grs _, trivial⟩
end Go.Proofs.Ytaajnbfnaoecnaa.Am
namespace Go.Proofs.Ytaajnbfnaoecnaa.Am
open Go
set_option maxRecDepth 100000
set_option maxHeartbeats 400000
set_option linter.unusedSimpArgs false
set_option linter.unusedVariables false
def ixI : Option Nat → Int
  | none => -1
  | some i => i
end Go.Proofs.Ytaajnbfnaoecnaa.Am
namespace Go.Proofs.Ytaajnbfnaoecnaa.Am
open Go
set_option maxRecDepth 100000
set_option linter.unusedSimpArgs false
set_option linter.unusedVariables false
theorem Idt.mk_rows (l : List Idt) : (l.map Idt.row).map (List.map (T.mk false)) = l.map Idt.row := Am.mk_rows _ (fun _ => rfl) l
attribute [go_sem] Idt.mk_rows
def Idt.mw (x : Idt) : Nat := 2
def Idt.m (x : Idt) (k : Int) : Idt := ⟨k, k + 1⟩
end Go.Proofs.Ytaajnbfnaoecnaa.Am
namespace Go.Proofs.Ytaajnbfnaoecnaa.Am
open Go
set_option maxRecDepth 100000
set_option maxHeartbeats 400000
set_option linter.unusedSimpArgs false
set_option linter.unusedVariables false
theorem Idt.eq_iff (a b : Idt) : a = b ↔ a.t = b.t ∧ a.n = b.n := by cases a; cases b; simp
end Go.Proofs.Ytaajnbfnaoecnaa.Am
namespace Go.Proofs.Ytaajnbfnaoecnaa.Am
open Go
set_option maxRecDepth 100000
set_option maxHeartbeats 400000
set_option linter.unusedSimpArgs false
set_option linter.unusedVariables false
def itIx (l : List It) (x : Idt) : Option Nat := l.findIdx? fun y => decide (y.id = x)
theorem itIx_some {l : List It} {x : Idt} {i : Nat} (h : i < l.length) (hn : l[i].id = x) (hj : ∀ j (h : j < l.length), j < i → l[j].id ≠ x) : itIx l x = some i :=
  List.findIdx?_eq_some_iff_getElem.2 ⟨h, by simp [hn], fun j hji => by simpa using hj j (by omega) hji⟩
theorem itIx_none {l : List It} {x : Idt} (hj : ∀ j (h : j < l.length), l[j].id ≠ x) : itIx l x = none :=
  List.findIdx?_eq_none_iff.2 fun y hy => by
    obtain ⟨j, h, rfl⟩ := List.mem_iff_getElem.1 hy
    simpa using hj j h
theorem itIx_lt {l : List It} {x : Idt} {i : Nat} (h : itIx l x = some i) : i < l.length := (List.findIdx?_eq_some_iff_getElem.1 h).1
theorem p_l9At : Plain Try.prog 35 := ⟨_, Try.func35, rfl, by decide⟩
theorem s_l9At (s : Stm) (x : Idt) (hs : s.items.length ≤ 1048576) : Spec Try.prog 35 [s.av, x.av] (fun r => r = I (ixI (itIx s.items x))) := by
  refine Spec.of tysOk mixed Try.func35 rfl (by decide) ?_
  simp -implicitDefEqProofs only [go_sem, Try.f35]
  refine LoopW.slotsM [false, false, true, true, false, true, false, false, false, false, false, false, false, false, false, false, false, false, false, false, false, false] (α := Nat) (fun i => [(5, I i)]) (fun i => []) (fun i => s.items.length - i) (fun i => i ≤ s.items.length ∧ ∀ j (h : j < s.items.length), j < i → s.items[j].id ≠ x) 0 (by simp -implicitDefEqProofs only [go_sem, LeTs_undef, LeTs_same, LeTs_nil]; try simp [LeTs]) rfl ⟨by omega, fun _ _ h => by omega⟩ ?_
  rintro i ⟨hi, hj⟩
  simp -implicitDefEqProofs only [go_sem]
  refine BrA_i (fun h => ?_) (fun h => ?_) <;> simp -implicitDefEqProofs only [go_sem]
  · skip
    have h : i < s.items.length := by simp at h; omega
    have h0i : (0 : Int) ≤ i := by omega
    have h1i : (i : Int) < s.items.length := by omega
    have wi : IntKind.i64.wrap ((i : Int) + 1) = ((i + 1 : Nat) : Int) := by rw [wrap64 (by omega) (by omega)]; omega
    have hr := row_getD It.row s.items h
    simp only [It.row] at hr
    refine RegD_of sch_35_4 tysOk (by kernel_rfl) ?_
    simp -implicitDefEqProofs only [go_sem, h, h0i, h1i, hr, wi]
    have he : (decide (s.items[i].id.t = x.t) && decide (s.items[i].id.n = x.n)) = decide (s.items[i].id = x) := by
      have := Idt.eq_iff s.items[i].id x
      by_cases h1 : s.items[i].id.t = x.t <;> by_cases h2 : s.items[i].id.n = x.n <;> simp [this, h1, h2]
    rw [he]
    refine BrA_i (fun h2 => ?_) (fun h2 => ?_) <;> (try simp only [decide_eq_true_eq, decide_eq_false_iff_not] at h2) <;> simp -implicitDefEqProofs only [go_sem, h, h0i, h1i, wi]
    · rw [itIx_some h h2 (fun j hj2 => hj j hj2)]; rfl
    · refine .to [] (i + 1) rfl ?_ ?_ (by omega) ⟨by omega, fun j hj2 hj3 => by
        by_cases hji : j < i
        · exact hj j hj2 hji
        · obtain rfl : j = i := by omega
          exact h2⟩ <;> simp -implicitDefEqProofs only [go_sem, LeTs_undef, LeTs_same, LeTs_nil, wi]
  · have h : i = s.items.length := by simp at h; omega
    subst h
    rw [itIx_none (fun j h => hj j h h)]
    rfl
theorem shared_It (l : List It) : sharedRows (l.map It.rowO) = l.map It.row := by
  unfold sharedRows
  rw [List.map_map]; exact List.map_congr_left fun x _ => rfl
def dropM (s : Stm) (x : Idt) : Stm × Bool :=
  if streamOkM s = true then
    match itIx s.items x with
    | none => (s, false)
    | some i => (⟨s.last, s.items.take i ++ s.items.drop (i + 1), s.groups⟩, true)
  else (.z, false)
theorem dropM_some {s : Stm} {x : Idt} {i : Nat} (hok : streamOkM s = true) (h : itIx s.items x = some i) : dropM s x = (⟨s.last, s.items.take i ++ s.items.drop (i + 1), s.groups⟩, true) := by
  unfold dropM
  rw [if_pos hok, h]
theorem dropM_none {s : Stm} {x : Idt} (hok : streamOkM s = true) (h : itIx s.items x = none) : dropM s x = (s, false) := by
  unfold dropM
  rw [if_pos hok, h]
theorem dropM_bad {s : Stm} {x : Idt} (hok : streamOkM s = false) : dropM s x = (.z, false) := by
  unfold dropM
  rw [if_neg (by simp [hok])]
abbrev dropR (x : Stm × Bool) : AV := .tup [x.1.avO, Bo x.2]
theorem deep_dropR (x : Stm × Bool) : DeepR (dropR x) := ⟨deep_avO x.1, trivial, trivial⟩
abbrev Stm.avS (x : Stm) : AV := .agg [I x.last.t, I x.last.n, .own (.list true 3 (x.items.map It.row)), .own (.list true 4 (x.groups.map Gr.rowO))]
theorem p_sStreamDrop : Plain Try.prog 8 := ⟨_, Try.func8, rfl, by decide⟩
theorem s_sStreamDrop (s : Stm) (x : Idt) (hs : s.md) (hw : ∀ g ∈ s.groups, g.waits.length < 2000000) : Spec Try.prog 8 [s.av, x.av] (fun r => r = dropR (dropM s x) ∨ r = .tup [(dropM s x).1.avS, Bo (dropM s x).2]) := by
  have hsm := hs.sm.1
  have hs1 := hs.1
  refine Spec.of tysOk mixed Try.func8 rfl (by decide) ?_
  simp -implicitDefEqProofs only [go_sem, Try.f8]
  refine CallW.one (s_sStreamOk s hsm hw) p_sStreamOk (by first | (simp -implicitDefEqProofs only [go_sem]; done) | ((conv => lhs; simp -implicitDefEqProofs only [go_sem]); done) | (simp -implicitDefEqProofs only [go_sem]; rfl) | rfl) (by first | trivial | (simp [DeepR, DeepV, DeepVs, DeepC, DeepCs, T.scal]; done)) ?_
  simp -implicitDefEqProofs only [go_sem]
  cases hok : streamOkM s
  · simp -implicitDefEqProofs only [go_sem]
    rw [dropM_bad hok]
    left; simp
  simp -implicitDefEqProofs only [go_sem]
  refine CallW.onep (s_l9Copy s hs) p_l9Copy (by first | (simp -implicitDefEqProofs only [go_sem]; done) | ((conv => lhs; simp -implicitDefEqProofs only [go_sem]); done) | (simp -implicitDefEqProofs only [go_sem]; rfl) | rfl) rfl ?_
  simp -implicitDefEqProofs only [go_sem]
  refine CallW.one (s_l9At s x hs1) p_l9At (by first | (simp -implicitDefEqProofs only [go_sem]; done) | ((conv => lhs; simp -implicitDefEqProofs only [go_sem]); done) | (simp -implicitDefEqProofs only [go_sem]; rfl) | rfl) (by first | trivial | (simp [DeepR, DeepV, DeepVs, DeepC, DeepCs, T.scal]; done)) ?_
  simp -implicitDefEqProofs only [go_sem]
  cases hg : itIx s.items x with
  | none =>
    simp -implicitDefEqProofs only [go_sem, ixI]
    rw [dropM_none hok hg]
    left; try rfl
  | some n =>
    have hn := itIx_lt hg
    have hn0 : ¬ ((n : Nat) : Int) < 0 := by omega
    simp -implicitDefEqProofs only [go_sem, ixI, hn0, decide_false]
    have hn1 : (n : Int) ≤ s.items.length := by omega
    have hn2 : (0 : Int) ≤ n := by omega
    have hn3 : (n : Int) + 1 ≤ s.items.length := by omega
    have hn4 : (0 : Int) ≤ (n : Int) + 1 := by omega
    have wn : IntKind.i64.wrap ((n : Int) + 1) = (n : Int) + 1 := wrap64 (by omega) (by omega)
    refine RegD_of sch_8_7 tysOk (by kernel_rfl) ?_
    simp -implicitDefEqProofs only [go_sem, hn1, hn2, hn3, hn4, wn]
    have e1 : sharedRows (List.take (n - Int.toNat 0) (List.drop (Int.toNat 0) (List.map It.rowO s.items))) = (s.items.take n).map It.row := by
      rw [show Int.toNat 0 = 0 from rfl, Nat.sub_zero, List.drop_zero, ← List.map_take, shared_It]
    have e2 : sharedRows (List.take (s.items.length - ((n : Int) + 1).toNat) (List.drop ((n : Int) + 1).toNat (List.map It.rowO s.items))) = (s.items.drop (n + 1)).map It.row := by
      rw [show ((n : Int) + 1).toNat = n + 1 by omega, ← List.map_drop, List.take_of_length_le (by simp), shared_It]
    simp only [e1, e2, Int.le_refl, true_and, and_true]
    rw [dropM_some hok hg]
    repeat' (first | (unfold roomy; simp; omega) | (apply And.intro) | (right; simp; done))
end Go.Proofs.Ytaajnbfnaoecnaa.Am
namespace Go.Proofs.Ytaajnbfnaoecnaa.Am
open Go
set_option maxRecDepth 100000
set_option maxHeartbeats 400000
set_option linter.unusedSimpArgs false
set_option linter.unusedVariables false
theorem p_itemFn : Plain Try.prog 71 := ⟨_, Try.func71, rfl, by decide⟩
theorem s_itemFn (y : It) (x : Idt) : Spec Try.prog 71 [y.av, .rop false [.int .i64 x.t, .int .i64 x.n] 0] (fun r => r = Bo (decide (y.id = x))) := by
  refine Spec.of tysOk mixed Try.func71 rfl (by decide) ?_
  simp -implicitDefEqProofs only [go_sem, Try.f71]
  have he : (decide (y.id.t = x.t) && decide (y.id.n = x.n)) = decide (y.id = x) := by
    have := Idt.eq_iff y.id x
    by_cases h1 : y.id.t = x.t <;> by_cases h2 : y.id.n = x.n <;> simp [this, h1, h2]
  rw [← he]
theorem p_IndexItem : Plain Try.prog 70 := ⟨_, Try.func70, rfl, by decide⟩
theorem s_IndexItem (l : List It) (x : Idt) (hs : l.length ≤ 1048576) : Spec Try.prog 70 [.t (.list false 3 (l.map It.row)), .fn 71 [.rop false [.int .i64 x.t, .int .i64 x.n] 0]] (fun r => r = I (ixI (itIx l x))) := by
  refine Spec.of tysOk mixed Try.func70 rfl (by decide) ?_
  simp -implicitDefEqProofs only [go_sem, Try.f70]
  refine LoopW.slotsM [true, true, false, false, false, false, false, true, true, false, false, false, false, false, false, false, false, false, false] (α := Nat) (fun i => [(8, I i)]) (fun i => []) (fun i => l.length - i) (fun i => i ≤ l.length ∧ ∀ j (h : j < l.length), j < i → l[j].id ≠ x) 0 (by simp -implicitDefEqProofs only [go_sem, LeTs_undef, LeTs_same, LeTs_nil]; try simp [LeTs]) rfl ⟨by omega, fun _ _ h => by omega⟩ ?_
  rintro i ⟨hi, hj⟩
  simp -implicitDefEqProofs only [go_sem]
  refine BrA_i (fun h => ?_) (fun h => ?_) <;> simp -implicitDefEqProofs only [go_sem]
  · skip
    have h : i < l.length := by simp at h; omega
    have h0i : (0 : Int) ≤ i := by omega
    have h1i : (i : Int) < l.length := by omega
    have wi : IntKind.i64.wrap ((i : Int) + 1) = ((i + 1 : Nat) : Int) := by rw [wrap64 (by omega) (by omega)]; omega
    have hr := row_getD It.row l h
    simp only [It.row] at hr
    simp -implicitDefEqProofs only [go_sem, h, h0i, h1i, hr, wi]
    refine CallW.one (s_itemFn l[i] x) p_itemFn (by first | (simp -implicitDefEqProofs only [go_sem]; done) | ((conv => lhs; simp -implicitDefEqProofs only [go_sem]); done) | (simp -implicitDefEqProofs only [go_sem]; rfl) | rfl) (by first | trivial | (simp [DeepR, DeepV, DeepVs, DeepC, DeepCs, T.scal]; done)) ?_
    simp -implicitDefEqProofs only [go_sem]
    refine BrA_i (fun h2 => ?_) (fun h2 => ?_) <;> (try simp only [decide_eq_true_eq, decide_eq_false_iff_not] at h2) <;> simp -implicitDefEqProofs only [go_sem, h, h0i, h1i, wi]
    · rw [itIx_some h h2 (fun j hj2 => hj j hj2)]; rfl
    · refine .to [129, 130, 131] (i + 1) rfl ?_ ?_ (by omega) ⟨by omega, fun j hj2 hj3 => by
        by_cases hji : j < i
        · exact hj j hj2 hji
        · obtain rfl : j = i := by omega
          exact h2⟩ <;> simp -implicitDefEqProofs only [go_sem, LeTs_undef, LeTs_same, LeTs_nil, wi]
  · have h : i = l.length := by simp at h; omega
    subst h
    rw [itIx_none (fun j h => hj j h h)]
    rfl
theorem p_item : Plain Try.prog 31 := ⟨_, Try.func31, rfl, by decide⟩
theorem s_item (s : Stm) (x : Idt) (hs : s.items.length ≤ 1048576) : Spec Try.prog 31 [s.av, x.av] (fun r => r = I (ixI (itIx s.items x))) := by
  refine Spec.of tysOk mixed Try.func31 rfl (by decide) ?_
  simp -implicitDefEqProofs only [go_sem, Try.f31]
  refine CallW.one (s_IndexItem s.items x hs) p_IndexItem (by first | (simp -implicitDefEqProofs only [go_sem]; done) | ((conv => lhs; simp -implicitDefEqProofs only [go_sem]); done) | (simp -implicitDefEqProofs only [go_sem]; rfl) | rfl) (by first | trivial | (simp [DeepR, DeepV, DeepVs, DeepC, DeepCs, T.scal]; done)) ?_
  simp -implicitDefEqProofs only [go_sem]
end Go.Proofs.Ytaajnbfnaoecnaa.Am
namespace Go.Proofs.Ytaajnbfnaoecnaa.Am
open Go
set_option maxRecDepth 1000000
set_option maxHeartbeats 4000000
set_option linter.unusedSimpArgs false
set_option linter.unusedVariables false
structure Hdn (p : Prop) : Prop where
  out : p
theorem run_clear_one {P : Program} (w : World) (t e ty : TypeId) (z : Value) (ht : P.underlying t = some (.slice e)) (hv : ∀ w, (zeroValue e).run P w = .ok z w) (h1 : ∀ v ∈ z.cells.toList, v.oneCell' = true) (b o c : Nat)
    (hc : ∀ j, j < z.cells.size → (w.cell? ⟨b, o + j, none⟩).isSome = true) (hf : ∀ j, j < z.cells.size → w.frozen? ⟨b, o + j, none⟩ = false) :
    (Builtin.clear_ #[t] ty #[.slice (some ⟨b, o, none⟩) 1 c]).run P w = .ok (.tuple #[]) (w.setCells b o z.cells.toList) := by
  have hzc : (Builtin.zeroCells z.cells 1).toList = z.cells.toList := by
    simp [Builtin.zeroCells]
    apply List.ext_getElem
    · simp
    · intro i h1 h2
      simp at h1 h2
      simp [Nat.mod_eq_of_lt h1, getElem!_pos, h1]
  have hst := run_storeCells_cells (P := P) b o z.cells.toList 0 w (by simpa using hc) (by simpa using hf) h1
  simp only [Nat.add_zero] at hst
  simp [Builtin.clear_, run_underlying ht, hv, hzc, hst]
theorem raw_DelIt (w : World) (b cap n i j : Nat) (hj : j = i + 1) (i0 : TypeInfo) (hi0 : Try.prog.info? 60 = some i0) (hz1 : i0.size = 3) (zc : Array Value) (hz : ∀ w, (zeroValue 60).run Try.prog w = .ok (.agg zc) w) (hzs : zc.size = 3) (hzo : ∀ v ∈ zc.toList, v.oneCell' = true)
    (cell : Nat → Value) (hcell : ∀ q, q < cap * 3 → w.cell? ⟨b, q, none⟩ = some (cell q) ∧ w.frozen? ⟨b, q, none⟩ = false) (hone : ∀ q, q < n * 3 → (cell q).oneCell' = true) (hcap : n ≤ cap) (hi : i < n) :
    Calls Try.prog 33 #[.slice (some ⟨b, 0, none⟩) n cap, .int .i64 i, .int .i64 j] w fun e' w' => e' = .returned (.slice (some ⟨b, 0, none⟩) (n - 1) cap) ∧
      w' = (w.drew.setCells b (0 + i * 3) ((List.range ((n - j) * 3)).map fun t => cell (j * 3 + t))).setCells b ((n - 1) * 3) zc.toList := by
  have mx := mixed
  have hij : ¬ i = j := by omega
  have hile : i ≤ j := by omega
  have hjn : j ≤ n := by omega
  have t33 := Try.underlying25
  obtain ⟨news, hnews⟩ : ∃ news, news = (List.range ((n - j) * 3)).map fun t => cell (j * 3 + t) := ⟨_, rfl⟩
  rw [← hnews]
  have hlen : news.length = (n - j) * 3 := by rw [hnews]; simp
  have hget : ∀ t, t < (n - j) * 3 → news[t]? = some (cell (j * 3 + t)) := by
    intro t ht
    rw [hnews, List.getElem?_map, List.getElem?_range ht]; rfl
  obtain ⟨A, hA, hsrc⟩ : ∃ A : Addr, (if cap = j then some (⟨b, 0, none⟩ : Addr) else some ⟨b, j * 3, none⟩) = some A ∧ Hdn (∀ t u, news[t]? = some u → w.drew.cell? (A.add t) = some u) := by
    by_cases h : cap = j
    · refine ⟨⟨b, 0, none⟩, by simp [h], ⟨fun t u hu => ?_⟩⟩
      have h0 : news.length = 0 := by rw [hlen]; omega
      rw [List.length_eq_zero_iff.1 h0] at hu
      simp at hu
    · refine ⟨⟨b, j * 3, none⟩, by simp [h], ⟨fun t u hu => ?_⟩⟩
      have ht : t < (n - j) * 3 := by
        have := (List.getElem?_eq_some_iff.1 hu).1
        rwa [hlen] at this
      rw [hget t ht] at hu
      rw [Addr.add_lit]
      exact (hcell _ (by omega)).1.trans hu
  have s1 : Hdn (news.length = (n - j) * 3) := ⟨hlen⟩
  have s2 : Hdn (∀ u ∈ news, u.oneCell' = true) := by
    refine ⟨?_⟩
    intro u hu
    rw [hnews] at hu
    obtain ⟨t, ht, rfl⟩ := List.mem_map.1 hu
    have := List.mem_range.1 ht
    exact hone _ (by omega)
  have s3 : Hdn (∀ t, t < news.length → (w.drew.cell? ⟨b, 0 + i * 3 + t, none⟩).isSome = true ∧ w.drew.frozen? ⟨b, 0 + i * 3 + t, none⟩ = false) := by
    refine ⟨?_⟩
    intro t ht
    rw [hlen] at ht
    have := hcell (0 + i * 3 + t) (by omega)
    exact ⟨by show (w.cell? _).isSome = true; rw [this.1]; rfl, this.2⟩
  obtain ⟨W1, hW1⟩ : ∃ W1, W1 = w.drew.setCells b (0 + i * 3) news := ⟨_, rfl⟩
  rw [← hW1]
  have hW : Hdn (W1 = w.drew.setCells b (0 + i * 3) news) := ⟨hW1⟩
  have e1 : n - (i + (n - j)) = 1 := by omega
  have e2 : i + (n - j) = n - 1 := by omega
  have hcl : ∀ ty, (Builtin.clear_ #[25] ty #[.slice (some ⟨b, (i + (n - j)) * 3, none⟩) (n - (i + (n - j))) (cap - (i + (n - j)))]).run Try.prog W1 = .ok (.tuple #[]) (W1.setCells b ((n - 1) * 3) zc.toList) := by
    intro ty
    rw [e1, e2]
    refine run_clear_one W1 _ _ ty (.agg zc) t33 hz hzo b _ _ (fun k hk => ?_) (fun k hk => ?_)
    · have hk : k < zc.size := hk
      rw [hW1]
      refine World.isSome_setCells _ _ _ _ _ ?_
      show (w.cell? _).isSome = true
      rw [(hcell _ (by omega)).1]; rfl
    · have hk : k < zc.size := hk
      rw [hW1, World.frozen?_setCells]
      exact (hcell _ (by omega)).2
  have e3 : Hdn (i + (n - j) = n - 1) := ⟨e2⟩
  clear e1 e2
  have hic : i ≤ cap := by omega
  have hjc : j ≤ cap := by omega
  clear hW1 hj hget hnews hlen hcell hone
  go_enter Try.func33, Try.ntmps33
  go_wp2_with fail
  go_region_law_o (refine step_append_room rfl (.tmp 22) (.tmp 25) 25 rfl 60 i0 3 t33 hi0 hz1 b 0 i cap (by simp [Act.eval, Act.put]) A (n - j) (cap - j) news (by simp [Act.eval, Act.put]) s1.out hsrc.out s2.out (by omega) s3.out ?_; rw [← hW.out])
  go_wp2
  go_ret
  refine ⟨by rw [e3.out]; rfl, ?_⟩
  rfl
end Go.Proofs.Ytaajnbfnaoecnaa.Am
namespace Go.Proofs.Ytaajnbfnaoecnaa.Am
open Go
set_option linter.unusedVariables false
def mkC : AV → AV
  | .t x => .t (x.mk false)
  | x => x
def mkCs : List AV → List AV
  | [] => []
  | x :: l => mkC x :: mkCs l
def mkV : AV → AV
  | .agg cs => .agg (mkCs cs)
  | x => mkC x
def mkVs : List AV → List AV
  | [] => []
  | x :: l => mkV x :: mkVs l
def mkR : AV → AV
  | .tup l => .tup (mkVs l)
  | x => mkV x
theorem ResC.mk {c : Cx} {col : Col} {i j : Nat} {x : AV} {v : Value} (h : ResC c col i j x v) : ResC c col i j (mkC x) v := by
  cases x <;> first | exact Rd.mk false h | exact h
theorem ResCs.mk {c : Cx} {col : Col} {i : Nat} : ∀ {xs : List AV} {vs : List Value} {j : Nat}, ResCs c col i j xs vs → ResCs c col i j (mkCs xs) vs
  | [], [], _, _ => trivial
  | x :: xs, v :: vs, j, h => ⟨ResC.mk h.1, ResCs.mk h.2⟩
  | [], _ :: _, _, h => h.elim
  | _ :: _, [], _, h => h.elim
theorem ResV.mk {c : Cx} {col : Col} {i : Nat} {x : AV} {v : Value} (h : ResV c col i x v) : ResV c col i (mkV x) v := by
  cases x with
  | agg cs => obtain ⟨vs, e, h⟩ := h; exact ⟨vs, e, ResCs.mk h⟩
  | t y => exact ResC.mk (c := c) (col := col) (i := i) (j := 0) (x := .t y) h
  | _ => exact h
theorem ResVs.mk {c : Cx} {col : Col} : ∀ {xs : List AV} {vs : List Value} {i : Nat}, ResVs c col i xs vs → ResVs c col i (mkVs xs) vs
  | [], [], _, _ => trivial
  | x :: xs, v :: vs, i, h => ⟨ResV.mk h.1, ResVs.mk h.2⟩
  | [], _ :: _, _, h => h.elim
  | _ :: _, [], _, h => h.elim
theorem ResR.mk {c : Cx} {col : Col} {r : AV} {v : Value} (h : ResR c col r v) : ResR c col (mkR r) v := by
  cases r with
  | tup xs => obtain ⟨vs, e, h⟩ := h; exact ⟨vs, e, ResVs.mk h⟩
  | agg cs => exact ResV.mk (c := c) (col := col) (i := 0) (x := .agg cs) h
  | t y => exact ResV.mk (c := c) (col := col) (i := 0) (x := .t y) h
  | _ => exact h
theorem Spec.mkR {P : Program} {f : FuncId} {args : List AV} {Q : AV → Prop} (h : Spec P f args Q) : Spec P f args (fun r => ∃ r0, Q r0 ∧ r = Am.mkR r0) := fun w D vs hD hv => (h w D vs hD hv).mono fun e w' ⟨v, r, he, hq, hs, col, hc, hr⟩ =>
  ⟨v, Am.mkR r, he, ⟨r, hq, rfl⟩, hs, col, hc, hr.mk⟩
theorem LeS.freeze {s s' : St} {k : Nat} (h : s.freeze k = some s') : LeS s s' := fun B a w ⟨ρ, col, hs⟩ => by
  obtain ⟨sz, rs, hk, hn, hp, rfl⟩ := freeze_some h
  exact ⟨_, _, (hs.freeze hk hn hp).1⟩
theorem LeS.freezes : ∀ {ks : List Nat} {s s' : St}, s.freezes ks = some s' → LeS s s'
  | [], s, s', h => by simp [St.freezes] at h; subst h; exact LeS.refl _
  | k :: ks, s, s', h => by
    simp only [St.freezes, Option.bind_eq_some_iff] at h
    obtain ⟨s1, h1, h2⟩ := h
    exact (LeS.freeze h1).trans (LeS.freezes h2)
theorem LeS.rfz {s s' : St} {k : Nat} (h : s.rfz k = some s') : LeS s s' := fun B a w ⟨ρ, col, hs⟩ => by
  obtain ⟨sz, rs, hk, hn, hp, rfl⟩ := rfz_some h
  exact ⟨_, _, (hs.rfz hk hn hp).1⟩
theorem LoopW.fz {body : (Exit → St → Prop) → St → Prop} {K : Exit → St → Prop} {s s0 : St} (ks : List Nat) (h : s.freezes ks = some s0) (hl : LoopW body K s0) : LoopW body K s := hl.le (LeS.freezes h)
attribute [go_sem] mkC mkCs mkV mkVs mkR
end Go.Proofs.Ytaajnbfnaoecnaa.Am
namespace Go.Proofs.Ytaajnbfnaoecnaa.Am
open Go
set_option linter.unusedVariables false
def RawDel (P : Program) (f : FuncId) (sz : Nat) (zc : Array Value) : Prop :=
  ∀ (w : World) (b cap n i j : Nat), j = i + 1 → ∀ (cell : Nat → Value), (∀ q, q < cap * sz → w.cell? ⟨b, q, none⟩ = some (cell q) ∧ w.frozen? ⟨b, q, none⟩ = false) → (∀ q, q < n * sz → (cell q).oneCell' = true) → n ≤ cap → i < n →
    Calls P f #[.slice (some ⟨b, 0, none⟩) n cap, .int .i64 i, .int .i64 j] w fun e' w' => e' = .returned (.slice (some ⟨b, 0, none⟩) (n - 1) cap) ∧
      w' = (w.drew.setCells b (0 + i * sz) ((List.range ((n - j) * sz)).map fun t => cell (j * sz + t))).setCells b ((n - 1) * sz) zc.toList
def delR (rs : List (List T)) (i : Nat) (zr : List T) : List (List T) := rs.take i ++ rs.drop (i + 1) ++ [zr]
theorem delR_len (rs : List (List T)) {i : Nat} (zr : List T) (h : i < rs.length) : (delR rs i zr).length = rs.length := by simp [delR]; omega
theorem delR_lt (rs : List (List T)) {i k : Nat} (zr : List T) (h : i < rs.length) (hk : k < i) : (delR rs i zr)[k]? = rs[k]? := by
  unfold delR
  rw [List.append_assoc, List.getElem?_append_left (by simp; omega), List.getElem?_take_of_lt hk]
theorem delR_mid (rs : List (List T)) {i k : Nat} (zr : List T) (h : i < rs.length) (hk : i ≤ k) (h2 : k + 1 < rs.length) : (delR rs i zr)[k]? = rs[k + 1]? := by
  unfold delR
  rw [List.append_assoc, List.getElem?_append_right (by simp; omega), List.getElem?_append_left (by simp; omega), List.getElem?_drop]
  congr 1
  simp; omega
theorem delR_last (rs : List (List T)) {i : Nat} (zr : List T) (h : i < rs.length) : (delR rs i zr)[rs.length - 1]? = some zr := by
  unfold delR
  rw [List.getElem?_append_right (by simp; omega)]
  have : rs.length - 1 - (rs.take i ++ rs.drop (i + 1)).length = 0 := by simp; omega
  rw [this]; rfl
theorem SpecO_del {P : Program} {f : FuncId} {sz : Nat} {zc : Array Value} (raw : RawDel P f sz zc) (hsz : 0 < sz) (hzs : zc.size = sz) {zr : List T} (hzr : zr.length = sz) (hz : ∀ (w : World) (D : Dm) (q : Nat) (x : T) (v : Value), zr[q]? = some x → zc[q]? = some v → x.flat ∧ Rd w D x v)
    {rs : List (List T)} {i : Nat} (hi : i < rs.length) (hflat : ∀ r ∈ rs, ∀ x ∈ r, x.flat) :
    SpecO P f [.refw 9000, .t (.int .i64 i), .t (.int .i64 ((i + 1 : Nat) : Int))] [(9000, .rows sz rs)] (fun r h => r = .ref 9000 0 (rs.length - 1) ∧ h = [(9000, .rows sz (delR rs i zr))]) := by
  intro w D ρ col vs hh hv
  match vs, hv with
  | [v0, v1, v2], ⟨⟨sz', rs', g1, g2⟩, h1, h2, _⟩ =>
    cases h1
    cases h2
    have hk : hget [(9000, Blk.rows sz rs)] 9000 = some (.rows sz rs) := by simp [hget]
    have g1 : hget [(9000, Blk.rows sz rs)] 9000 = some (.rows sz' rs') := g1
    rw [hk] at g1
    cases g1
    rcases g2 with ⟨b, cap, e0, n0, hb, rfl, hcap, hsh, hcs⟩ | ⟨rfl, _⟩
    · obtain ⟨hrow, hrest⟩ := hh.blk 9000 _ hk
      rcases hrest with ⟨b', cells, e, fr, u, hb', hc, hf, hsz2, hu, how⟩ | ⟨rfl, _⟩
      · obtain rfl : b' = b := by
          have q1 : ρ 9000 = some b' := hb'
          have q2 : ρ 9000 = some b := hb
          rw [q2] at q1; exact (Option.some.inj q1).symm
        have hc' : w.heap[b']? = some (.cells cells e fr) := hc
        have hn0 : n0 = cells.size := by
          have : w.shape? b' = some (e0, n0) := hsh
          simp [World.shape?, hc'] at this
          exact this.2.symm
        subst hn0
        have hsize : rs.length * sz ≤ cells.size := hsz2
        refine (raw w b' cap rs.length i (i + 1) rfl (fun q => cells[q]!) (fun q hq => ?_) (fun q hq => ?_) hcap hi).mono ?_
        · have hq' : q < cells.size := by
            have h9 : cap * sz ≤ cells.size := hcs
            omega
          refine ⟨by simp [World.cell?, hc', hq', getElem!_pos], ?_⟩
          have hf' := hf
          unfold frOk at hf'
          simp only [World.frozen?, hc']
          by_cases hlt : fr.1 < fr.2
          · have := hf' hlt
            simp; omega
          · simp; omega
        · have hq2 : q < cells.size := by omega
          have hdiv : q / sz < rs.length := by rw [Nat.div_lt_iff_lt_mul hsz]; exact hq
          have hr : rs[q / sz]? = some rs[q / sz] := List.getElem?_eq_getElem hdiv
          have hmod : q % sz < rs[q / sz].length := by rw [hrow _ _ hr]; exact Nat.mod_lt _ hsz
          have hx : rs[q / sz][q % sz]? = some rs[q / sz][q % sz] := List.getElem?_eq_getElem hmod
          have h3 := hu _ _ _ _ hr hx
          rw [Nat.mul_comm, Nat.div_add_mod] at h3
          have h4 := (how _ _ _ _ hr hx).one
          have h5 : cells[q]! = u (q / sz) (q % sz) := by
            rw [getElem!_pos cells q hq2]
            rw [Array.getElem?_eq_getElem hq2] at h3
            exact Option.some.inj h3
          rw [h5]; exact h4
        rintro e' w' ⟨rfl, rfl⟩
        refine ⟨_, .ref 9000 0 (rs.length - 1), [(9000, .rows sz (delR rs i zr))], col, rfl, ⟨rfl, rfl⟩, ?_⟩
        obtain ⟨news, hnews⟩ : ∃ news, news = (List.range ((rs.length - (i + 1)) * sz)).map fun t => cells[(i + 1) * sz + t]! := ⟨_, rfl⟩
        rw [← hnews]
        have hnl : news.length = (rs.length - (i + 1)) * sz := by rw [hnews]; simp
        have hm1 : (rs.length - (i + 1)) * sz + (i + 1) * sz = rs.length * sz := by rw [← Nat.add_mul]; congr 1; omega
        have hm2 : (rs.length - 1) * sz + sz = rs.length * sz := by rw [← Nat.succ_mul]; congr 1; omega
        have hm3 : (i + 1) * sz = i * sz + sz := Nat.succ_mul i sz
        have hd : w.drew.heap[b']? = some (.cells cells e fr) := hc'
        obtain ⟨a1, a2, a3⟩ := setCells_row news (0 + i * sz) w.drew cells hd (by omega)
        obtain ⟨c1, c2, c3⟩ := setCells_row zc.toList ((rs.length - 1) * sz) (w.drew.setCells b' (0 + i * sz) news) _ a1 (by simp [repl_length]; omega)
        have only : ∀ k b1, ρ k = some b1 → b1 = b' := fun k b1 hk1 => by
          have h9 : hget [(9000, Blk.rows sz rs)] k ≠ none := fun h => by rw [hh.dom k h] at hk1; cases hk1
          have : k = 9000 := by
            simp only [hget] at h9
            split at h9
            · rename_i e; exact e.symm
            · exact absurd rfl h9
          subst this
          have hb2 : ρ 9000 = some b' := hb
          rw [hb2] at hk1; exact (Option.some.inj hk1).symm
        have szw : ((w.drew.setCells b' (0 + i * sz) news).setCells b' ((rs.length - 1) * sz) zc.toList).heap.size = w.heap.size := c3.trans a3
        refine ⟨c2.os.trans a2.os, c2.tape.trans a2.tape, c2.output.trans a2.output, by rw [szw]; exact Nat.le_refl _, fun b1 hb1 h8 _ => ?_, fun k b1 hk1 => ?_, fun b1 p hp => ⟨by rw [szw]; exact (hh.colb b1 p hp).1, .inr (.inr ⟨p, hp⟩)⟩, hh.sep, ⟨rfl, ⟨rfl, (delR_len rs zr hi).symm⟩, trivial⟩, fun k b1k hk1 => ?_, ?_⟩
        · have hne : some b1 ≠ some b' := fun h => h8 9000 (by rw [h]; exact hb)
          exact (c2.block b1 (by rw [a3]; exact hb1) hne).trans (a2.block b1 hb1 hne)
        · obtain rfl := only k b1 hk1
          unfold World.shape?
          rw [c1, hc']
          simp [repl_length]
        · have h9 : k = 9000 ∧ b1k = Blk.rows sz (delR rs i zr) := by
            simp only [hget] at hk1
            split at hk1
            · rename_i e9; exact ⟨e9.symm, (Option.some.inj hk1).symm⟩
            · cases hk1
          obtain ⟨rfl, rfl⟩ := h9
          have cases3 : ∀ (k : Nat) (r : List T), (delR rs i zr)[k]? = some r → (k < i ∧ rs[k]? = some r) ∨ (i ≤ k ∧ k + 1 < rs.length ∧ rs[k + 1]? = some r) ∨ (k = rs.length - 1 ∧ r = zr) := by
            intro k r hr
            have hkl := (List.getElem?_eq_some_iff.1 hr).1
            rw [delR_len rs zr hi] at hkl
            by_cases h1 : k < i
            · exact .inl ⟨h1, by rw [← delR_lt rs zr hi h1]; exact hr⟩
            · by_cases h2 : k + 1 < rs.length
              · exact .inr (.inl ⟨by omega, h2, by rw [← delR_mid rs zr hi (by omega) h2]; exact hr⟩)
              · have h3 : k = rs.length - 1 := by omega
                subst h3
                rw [delR_last rs zr hi] at hr
                exact .inr (.inr ⟨rfl, (Option.some.inj hr).symm⟩)
          refine ⟨fun k r hr => ?_, .inl ⟨b', _, e, fr, fun k q => if k < i then u k q else if k + 1 < rs.length then u (k + 1) q else zc[q]!, hb, c1, by simpa [repl_length] using hf, by simp only [delR_len rs zr hi]; simpa [repl_length] using hsize, fun k r q x hr hx => ?_, fun k r q x hr hx => ?_⟩⟩
          · rcases cases3 k r hr with ⟨_, h⟩ | ⟨_, _, h⟩ | ⟨_, rfl⟩
            · exact hrow _ _ h
            · exact hrow _ _ h
            · exact hzr
          · have hq : q < sz := by
              have := (List.getElem?_eq_some_iff.1 hx).1
              rcases cases3 k r hr with ⟨_, h⟩ | ⟨_, _, h⟩ | ⟨_, rfl⟩
              · rwa [hrow _ _ h] at this
              · rwa [hrow _ _ h] at this
              · rwa [hzr] at this
            show (repl ((rs.length - 1) * sz) zc.toList _).toArray[k * sz + q]? = _
            simp only [List.getElem?_toArray]
            rw [repl_get _ _ _ _ (by simp [repl_length]; omega), repl_get _ _ _ _ (by simp; omega)]
            simp only [Array.length_toList, hzs, hnl]
            rcases cases3 k r hr with ⟨h1, h⟩ | ⟨h1, h2, h⟩ | ⟨h1, rfl⟩
            · have m1 : (k + 1) * sz ≤ i * sz := Nat.mul_le_mul_right _ h1
              have m2 : i * sz ≤ (rs.length - 1) * sz := Nat.mul_le_mul_right _ (by omega)
              have m3 : (k + 1) * sz = k * sz + sz := Nat.succ_mul k sz
              rw [if_neg (by omega), if_neg (by omega), if_pos h1]
              simpa using hu _ _ _ _ h hx
            · have m1 : (k + 1) * sz ≤ (rs.length - 1) * sz := Nat.mul_le_mul_right _ (by omega)
              have m2 : i * sz ≤ k * sz := Nat.mul_le_mul_right _ h1
              have m3 : (k + 1) * sz = k * sz + sz := Nat.succ_mul k sz
              have m4 : (rs.length - (i + 1)) * sz + (i * sz) = (rs.length - 1) * sz := by rw [← Nat.add_mul]; congr 1; omega
              rw [if_neg (by omega), if_pos (by omega), if_neg (by omega), if_pos h2, hnews, List.getElem?_map, List.getElem?_range (by omega)]
              have m5 : (i + 1) * sz + (k * sz + q - (0 + i * sz)) = (k + 1) * sz + q := by omega
              have h3 := hu _ _ _ _ h hx
              simp only [Option.map_some, m5]
              have h4 := (Array.getElem?_eq_some_iff.1 h3)
              obtain ⟨h5, h6⟩ := h4
              rw [getElem!_pos cells _ h5, h6]
            · subst h1
              rw [if_pos (by omega), if_neg (by omega), if_neg (by omega)]
              have m5 : (rs.length - 1) * sz + q - (rs.length - 1) * sz = q := by omega
              rw [m5, getElem!_pos zc q (by omega)]
              simp [hzs, hq]
          · have blk' : ∀ b1, D b1 → ((w.drew.setCells b' (0 + i * sz) news).setCells b' ((rs.length - 1) * sz) zc.toList).heap[b1]? = w.heap[b1]? := fun b1 h1 => by
              obtain ⟨d1, d2, d3⟩ := hh.dis b1 h1
              have hne : some b1 ≠ some b' := fun h => d3 9000 (by rw [h]; exact hb)
              exact (c2.block b1 (by rw [a3]; exact d1) hne).trans (a2.block b1 d1 hne)
            have dp' : ∀ b1, D b1 → (oCx w D ρ ((w.drew.setCells b' (0 + i * sz) news).setCells b' ((rs.length - 1) * sz) zc.toList) col [(9000, .rows sz (delR rs i zr))]).Dp b1 := fun b1 h1 => by
              obtain ⟨d1, d2, d3⟩ := hh.dis b1 h1
              exact ⟨by rw [szw]; exact d1, .inl h1, d2, d3⟩
            show Own _ _ _ x (if k < i then u k q else if k + 1 < rs.length then u (k + 1) q else zc[q]!)
            rcases cases3 k r hr with ⟨h1, h⟩ | ⟨h1, h2, h⟩ | ⟨h1, rfl⟩
            · have hf := hflat _ (List.mem_of_getElem? h) _ (List.mem_of_getElem? hx)
              rw [if_pos h1]
              exact .rd _ _ _ hf ((Own.flat (how _ _ _ _ h hx) hf).mono blk' dp')
            · have hf := hflat _ (List.mem_of_getElem? h) _ (List.mem_of_getElem? hx)
              rw [if_neg (by omega), if_pos h2]
              exact .rd _ _ _ hf ((Own.flat (how _ _ _ _ h hx) hf).mono blk' dp')
            · have hq : q < sz := by
                have := (List.getElem?_eq_some_iff.1 hx).1
                rwa [hzr] at this
              rw [if_neg (by omega), if_neg (by omega)]
              obtain ⟨hf, hrd⟩ := hz ((w.drew.setCells b' (0 + i * sz) news).setCells b' ((rs.length - 1) * sz) zc.toList) _ q x zc[q]! hx (by rw [getElem!_pos zc q (by omega)]; exact Array.getElem?_eq_getElem _)
              exact .rd _ _ _ hf hrd
        · show AVr _ (.ref 9000 0 (rs.length - 1)) _
          exact ⟨sz, delR rs i zr, by simp [oCx, hget], by rw [delR_len rs zr hi]; omega, .inl ⟨b', cap, hb, by rw [Nat.zero_mul], by omega⟩⟩
      · simp at hi
    · simp at hi
end Go.Proofs.Ytaajnbfnaoecnaa.Am
namespace Go.Proofs.Ytaajnbfnaoecnaa.Am
open Go
set_option maxRecDepth 100000
set_option maxHeartbeats 400000
set_option linter.unusedSimpArgs false
set_option linter.unusedVariables false
theorem zero_Item : (Try.prog.info? 60).map (fun i => (i.zero, i.size)) = some (some (.agg #[.int .i64 0, .int .i64 0, .slice none 0 0]), 3) := by kernel_rfl
theorem rawDel_Item : RawDel Try.prog 33 3 #[.int .i64 0, .int .i64 0, .slice none 0 0] := by
  obtain ⟨i0, hi0, hz⟩ := Option.map_eq_some_iff.1 zero_Item
  simp only [Prod.mk.injEq] at hz
  obtain ⟨hz0, hz1⟩ := hz
  intro w b cap n i j hj cell hc ho hcap hi
  exact raw_DelIt w b cap n i j hj i0 hi0 hz1 _ (fun w => by simp [zeroValue, typeInfo, hi0, hz0]) rfl (by simp [Value.oneCell']) cell hc ho hcap hi
abbrev itZ : List T := [.int .i64 0, .int .i64 0, .list false 2 []]
theorem p_DelIt : Plain Try.prog 33 := ⟨_, Try.func33, rfl, by decide⟩
theorem It.row_flat (l : List It) : ∀ r ∈ l.map It.row, ∀ x ∈ r, x.flat := by
  intro r hr x hx
  obtain ⟨y, _, rfl⟩ := List.mem_map.1 hr
  simp only [It.row, List.mem_cons, List.not_mem_nil, or_false] at hx
  rcases hx with rfl | rfl | rfl <;> simp [T.flat]
theorem s_DelIt (l : List It) (i : Nat) (hi : i < l.length) : SpecO Try.prog 33 [.refw 9000, .t (.int .i64 i), .t (.int .i64 ((i + 1 : Nat) : Int))] [(9000, .rows 3 (l.map It.row))] (fun r h => r = .ref 9000 0 (l.length - 1) ∧ h = [(9000, .rows 3 (delR (l.map It.row) i itZ))]) := by
  have h := SpecO_del rawDel_Item (by omega) rfl (zr := itZ) rfl (fun w D q x v h1 h2 => by
    match q, h1, h2 with
    | 0, h1, h2 => cases h1; cases h2; exact ⟨trivial, .int _ _⟩
    | 1, h1, h2 => cases h1; cases h2; exact ⟨trivial, .int _ _⟩
    | 2, h1, h2 => cases h1; cases h2; exact ⟨trivial, .nil ..⟩
    | q + 3, h1, h2 => simp at h1) (rs := l.map It.row) (i := i) (by simpa using hi) (It.row_flat l)
  simpa using h
theorem p_StreamDrop : Plain Try.prog 7 := ⟨_, Try.func7, rfl, by decide⟩
theorem s_StreamDrop (s : Stm) (x : Idt) (hs : s.md) (hw : ∀ g ∈ s.groups, g.waits.length < 2000000) : Spec Try.prog 7 [s.av, x.av] (fun r => r = dropR (dropM s x)) := by
  have hsm := hs.sm.1
  have hs1 := hs.1
  refine Spec.of tysOk mixed Try.func7 rfl (by decide) ?_
  simp -implicitDefEqProofs only [go_sem, Try.f7]
  refine CallW.one (s_StreamOk s hsm hw) p_StreamOk (by first | (simp -implicitDefEqProofs only [go_sem]; done) | ((conv => lhs; simp -implicitDefEqProofs only [go_sem]); done) | (simp -implicitDefEqProofs only [go_sem]; rfl) | rfl) (by first | trivial | (simp [DeepR, DeepV, DeepVs, DeepC, DeepCs, T.scal]; done)) ?_
  simp -implicitDefEqProofs only [go_sem]
  cases hok : streamOkM s
  · simp -implicitDefEqProofs only [go_sem]
    rw [dropM_bad hok]
    try simp
  simp -implicitDefEqProofs only [go_sem]
  refine CallW.onep (s_cloneStream s hs) p_cloneStream (by first | (simp -implicitDefEqProofs only [go_sem]; done) | ((conv => lhs; simp -implicitDefEqProofs only [go_sem]); done) | (simp -implicitDefEqProofs only [go_sem]; rfl) | rfl) rfl ?_
  simp -implicitDefEqProofs only [go_sem]
  refine CallW.one (s_item s x hs1) p_item (by first | (simp -implicitDefEqProofs only [go_sem]; done) | ((conv => lhs; simp -implicitDefEqProofs only [go_sem]); done) | (simp -implicitDefEqProofs only [go_sem]; rfl) | rfl) (by first | trivial | (simp [DeepR, DeepV, DeepVs, DeepC, DeepCs, T.scal]; done)) ?_
  simp -implicitDefEqProofs only [go_sem]
  cases hg : itIx s.items x with
  | none =>
    simp -implicitDefEqProofs only [go_sem, ixI]
    rw [dropM_none hok hg]
    try simp
  | some n =>
    have hn := itIx_lt hg
    have hn0 : ¬ ((n : Nat) : Int) < 0 := by omega
    simp -implicitDefEqProofs only [go_sem, ixI, hn0, decide_false]
    have wn : IntKind.i64.wrap ((n : Int) + 1) = ((n + 1 : Nat) : Int) := by rw [wrap64 (by omega) (by omega)]; omega
    simp -implicitDefEqProofs only [go_sem, wn]
    refine CallW.fz [100105] (by (conv => lhs; simp -implicitDefEqProofs only [go_sem, shared_It]) <;> rfl) ?_
    refine CallW.o [(9000, 105)] (s_DelIt s.items n hn) p_DelIt o33 rfl (by (conv => lhs; simp -implicitDefEqProofs only [go_sem]) <;> rfl) (by (simp -implicitDefEqProofs only [go_sem]) <;> rfl) ?_
    rintro _ _ ⟨rfl, rfl⟩
    simp -implicitDefEqProofs only [go_sem]
    have hl1 : s.items.length - 1 ≤ (delR (s.items.map It.row) n itZ).length := by rw [delR_len _ _ (by simpa using hn)]; simp
    have e1 : (delR (s.items.map It.row) n itZ).take (s.items.length - 1) = (s.items.take n ++ s.items.drop (n + 1)).map It.row := by
      unfold delR
      rw [List.take_append_of_le_length (by simp; omega), List.take_of_length_le (by simp; omega), List.map_append, List.map_take, List.map_drop]
    have hm : ∀ y ∈ s.items.take n ++ s.items.drop (n + 1), y.fields.length ≤ 2097152 := fun y hy => by
      have := hs.2.2.1 y (by
        rcases List.mem_append.1 hy with h | h
        · exact List.mem_of_mem_take h
        · exact List.mem_of_mem_drop h)
      omega
    refine CallW.one (s_cloneItems (s.items.take n ++ s.items.drop (n + 1)) (by simp; omega) hm) p_cloneItems (by first | (simp -implicitDefEqProofs only [go_sem, e1, hl1, Nat.zero_add, Nat.zero_le, List.drop_zero]; done) | ((conv => lhs; simp -implicitDefEqProofs only [go_sem, e1, hl1, Nat.zero_add, Nat.zero_le, List.drop_zero]); done) | (simp -implicitDefEqProofs only [go_sem, e1, hl1, Nat.zero_add, Nat.zero_le, List.drop_zero]; rfl) | rfl) (deep_its _) ?_
    simp -implicitDefEqProofs only [go_sem]
    rw [dropM_some hok hg]
end Go.Proofs.Ytaajnbfnaoecnaa.Am
namespace Go.Proofs.Ytaajnbfnaoecnaa.Am
open Go
set_option maxRecDepth 100000
set_option linter.unusedSimpArgs false
set_option linter.unusedVariables false
theorem p_heldGroupS : Plain Try.prog 54 := ⟨_, Try.func54, rfl, by decide⟩
theorem s_heldGroupS (xs : List Gr) (k : Int) (hk : 0 ≤ k) (hb : k + (wSum Gr.mw xs : Nat) < 10000000000000000) (hx : xs.length < 10000000000000000) : Spec Try.prog 54 [.t (.list false 4 ((mkAll Gr.m Gr.mw xs k).map Gr.row)), I k]
    (fun r => r = I (k + (wSum Gr.mw xs : Nat))) := by
  refine Spec.of tysOk mixed Try.func54 rfl (by decide) ?_
  simp -implicitDefEqProofs only [go_sem, Try.f54, mkAll_len]
  refine LoopW.slotsL (α := Nat) (fun i => [(5, I i), (1, I (k + (wSum Gr.mw (xs.take i) : Nat)))]) (fun i => []) (fun i => xs.length - i) (fun i => i ≤ xs.length) 0 ?_ rfl (by omega) ?_
  · simp -implicitDefEqProofs only [go_sem, LeTs_undef, LeTs_same, LeTs_nil]
    simp [LeTs, wSum]
  intro i hi
  have hw := wSum_le Gr.mw xs i
  simp -implicitDefEqProofs only [go_sem, mkAll_len]
  refine BrA_i (fun h => ?_) (fun h => ?_) <;> simp -implicitDefEqProofs only [go_sem]
  · have h : i < xs.length := by simp at h; omega
    have hw1 := wSum_take Gr.mw xs h
    have hw2 := wSum_le Gr.mw xs (i + 1)
    obtain ⟨K, hK⟩ : ∃ K : Int, K = k + (wSum Gr.mw (xs.take i) : Nat) := ⟨_, rfl⟩
    have hK1 : k + (wSum Gr.mw (xs.take (i + 1)) : Nat) = K + (Gr.mw xs[i] : Nat) := by rw [hw1, hK]; omega
    rw [← hK]
    have hmw : Gr.mw xs[i] = 3 + wSum Wt.mw xs[i].waits := rfl
    have h0i : (0 : Int) ≤ i := by omega
    have h1i : (i : Int) < xs.length := by omega
    have hn : ((mkAll Gr.m Gr.mw xs k).map Gr.row).getD i [] = [.str (mt (K)), .int .i64 (K + 1), .int .i64 (K + 2), .list false 5 ((mkAll Wt.m Wt.mw xs[i].waits (K + 3)).map Wt.row)] := by rw [mkAll_getD _ _ _ _ _ h, ← hK]; rfl
    have wi : IntKind.i64.wrap ((i : Int) + 1) = ((i + 1 : Nat) : Int) := by rw [wrap64 (by omega) (by omega)]; omega
    have w0 : IntKind.i64.wrap (K + 1) = K + 1 := by rw [wrap64 (by omega) (by omega)]
    have w1 : IntKind.i64.wrap (K + 1 + 1) = K + 2 := by rw [wrap64 (by omega) (by omega)]; omega
    have w2 : IntKind.i64.wrap (K + 2 + 1) = K + 3 := by rw [wrap64 (by omega) (by omega)]; omega
    have z3 : wSum Wt.mw xs[i].waits ≤ Gr.mw xs[i] := by rw [hmw]; omega
    simp -implicitDefEqProofs only [go_sem, mkAll_len, h0i, h1i, h, hn, wi, w0, w1, w2]
    (first | refine RegD_of sch_54_4 tysOk (by decide +kernel) ?_)
    simp -implicitDefEqProofs only [go_sem, mkAll_len, h0i, h1i, h, hn, wi, w0, w1, w2]
    refine .one (s_markText _ (by omega)) p_markText rfl trivial ?_
    simp -implicitDefEqProofs only [go_sem, mkAll_len, h0i, h1i, h, hn, wi, w0, w1, w2]
    refine .one (s_heldWaitS xs[i].waits (K + 3) (by omega) (by omega) (by have := wSum_len (w := Wt.mw) (fun _ => by unfold Wt.mw; omega) xs[i].waits; omega)) p_heldWaitS (by simp -implicitDefEqProofs only [go_sem]) trivial ?_
    simp -implicitDefEqProofs only [go_sem, mkAll_len, h0i, h1i, h, hn, wi, w0, w1, w2]
    refine BrA_i (fun h => ?_) (fun h => ?_)
    · exfalso; simp at h; omega
    simp -implicitDefEqProofs only [go_sem, mkAll_len, h0i, h1i, h, hn, wi, w0, w1, w2]
    refine .to [] (i + 1) rfl ?_ rfl (by omega) (by omega)
    · simp -implicitDefEqProofs only [go_sem, LeTs_undef, LeTs_same, LeTs_nil, hK1, hmw]
      try simp [LeTs]
      try omega
  · have h : i = xs.length := by simp at h; omega
    subst h
    simp -implicitDefEqProofs only [go_sem, List.take_length, mkAll_len]
end Go.Proofs.Ytaajnbfnaoecnaa.Am
namespace Go.Proofs.Ytaajnbfnaoecnaa.Am
open Go
set_option maxRecDepth 100000
set_option linter.unusedSimpArgs false
set_option linter.unusedVariables false
theorem p_heldStream : Plain Try.prog 18 := ⟨_, Try.func18, rfl, by decide⟩
theorem s_heldStream (s : Stm) (k : Int) (hk : 0 ≤ k) (hb : k + (s.mw : Nat) < 10000000000000000) : Spec Try.prog 18 [(s.m k).av, I k] (fun r => r = I (k + (s.mw : Nat))) := by
  have hk1 : s.mw = wSum It.mw s.items + wSum Gr.mw s.groups := rfl
  have l1 := wSum_len (w := It.mw) (fun _ => by unfold It.mw; omega) s.items
  have l2 := wSum_len (w := Gr.mw) (fun _ => by unfold Gr.mw; omega) s.groups
  refine Spec.of tysOk mixed Try.func18 rfl (by decide) ?_
  have n1 : ¬ (k + (wSum It.mw s.items : Nat) : Int) < 0 := by omega
  have n2 : ¬ (k + (wSum It.mw s.items : Nat) + (wSum Gr.mw s.groups : Nat) : Int) < 0 := by omega
  simp -implicitDefEqProofs only [go_sem, Try.f18, Stm.m]
  refine CallW.one (s_heldItemS s.items k hk (by omega) (by omega)) p_heldItemS (by first | (simp -implicitDefEqProofs only [go_sem]; done) | ((conv => lhs; simp -implicitDefEqProofs only [go_sem]); done) | (simp -implicitDefEqProofs only [go_sem]; rfl) | rfl) (by first | trivial | (simp [DeepR, DeepV, DeepVs, DeepC, DeepCs, T.scal]; done)) ?_
  simp -implicitDefEqProofs only [go_sem, n1, n2, decide_false, decide_true]
  refine CallW.one (s_heldGroupS s.groups (k + (wSum It.mw s.items : Nat)) (by omega) (by omega) (by omega)) p_heldGroupS (by first | (simp -implicitDefEqProofs only [go_sem]; done) | ((conv => lhs; simp -implicitDefEqProofs only [go_sem]); done) | (simp -implicitDefEqProofs only [go_sem]; rfl) | rfl) (by first | trivial | (simp [DeepR, DeepV, DeepVs, DeepC, DeepCs, T.scal]; done)) ?_
  simp -implicitDefEqProofs only [go_sem, n1, n2, decide_false, decide_true]
  rw [hk1]; congr 2; omega
end Go.Proofs.Ytaajnbfnaoecnaa.Am
namespace Go.Proofs.Ytaajnbfnaoecnaa.Am
open Go
set_option maxRecDepth 100000
set_option maxHeartbeats 1000000
set_option linter.unusedSimpArgs false
set_option linter.unusedVariables false
theorem It.mkO_rows (l : List It) : (l.map It.rowO).map (List.map (T.mk false)) = l.map It.row := by
  rw [List.map_map]
  exact List.map_congr_left fun x _ => by simp only [Function.comp, It.rowO, It.row, List.map_cons, List.map_nil, T.mk_list, T.mk_int, Pr.mk_rows]
theorem Gr.mkO_rows (l : List Gr) : (l.map Gr.rowO).map (List.map (T.mk false)) = l.map Gr.row := by
  rw [List.map_map]
  exact List.map_congr_left fun x _ => by simp only [Function.comp, Gr.rowO, Gr.row, List.map_cons, List.map_nil, T.mk_list, T.mk_int, T.mk_str, Wt.mk_rows]
attribute [go_sem] It.mkO_rows Gr.mkO_rows
def gAtM : List Gr → ByteArray → Nat
  | [], _ => 0
  | x :: l, f => if bytesLt x.name f = true then gAtM l f + 1 else 0
def insG (gs : List Gr) (g : Gr) : List Gr := gs.take (gAtM gs g.name) ++ g :: gs.drop (gAtM gs g.name)
def newG (gs : List Gr) (g : Gr) : List (List T) := (gs.take (gAtM gs g.name)).map Gr.row ++ [g.rowO] ++ (gs.drop (gAtM gs g.name)).map Gr.row
theorem newG_mk (gs : List Gr) (g : Gr) : (newG gs g).map (List.map (T.mk false)) = (insG gs g).map Gr.row := by
  unfold newG insG
  rw [List.map_append, List.map_append, Gr.mk_rows, Gr.mk_rows, List.map_append, List.map_cons, List.append_assoc]
  have := Gr.mkO_rows [g]
  simp only [List.map_cons, List.map_nil] at this
  rw [List.map_cons, List.map_nil, this]; rfl
attribute [go_sem] newG_mk
end Go.Proofs.Ytaajnbfnaoecnaa.Am
namespace Go.Proofs.Ytaajnbfnaoecnaa.Am
open Go
set_option maxRecDepth 100000
set_option maxHeartbeats 400000
set_option linter.unusedSimpArgs false
set_option linter.unusedVariables false
theorem dropM_w (s : Stm) (x : Idt) : (dropM s x).1.w ≤ s.w := by
  unfold dropM
  split
  · split
    · exact Nat.le_refl _
    · rename_i i hi
      have hn := itIx_lt hi
      have e : s.items.take i ++ s.items.drop i = s.items := List.take_append_drop i s.items
      rw [List.drop_eq_getElem_cons hn] at e
      have h1 := congrArg (wSum It.w) e
      simp only [Stm.w, wAll, List.length_append, List.length_take, List.length_drop]
      unfold wSum at h1 ⊢
      rw [List.map_append, List.map_cons, List.sum_append, List.sum_cons] at h1
      rw [List.map_append, List.sum_append]
      omega
  · simp only [Stm.w, Stm.z, wAll, wSum, List.map_nil, List.sum_nil, List.length_nil]; omega
theorem dropR_share (s : Stm) (x : Idt) (r : AV) (h : r = dropR (dropM s x) ∨ r = .tup [(dropM s x).1.avS, Bo (dropM s x).2]) : shareR r = .tup [(dropM s x).1.av, Bo (dropM s x).2] := by
  rcases h with rfl | rfl
  · simp only [dropR, shareR, shareVs, shareV, shareCs, shareC, T.mk_list, It.mkO_rows, Gr.mkO_rows]
  · simp only [shareR, shareVs, shareV, shareCs, shareC, T.mk_list, It.mk_rows, Gr.mkO_rows]
theorem s_FnExactStreamDrop (s : Stm) (x : Idt) (hs : s.G) : Spec Try.prog 4 [s.av, x.av] (fun r => r = Bo true) := by
  refine Spec.of tysOk mixed Try.func4 rfl (by decide) ?_
  simp -implicitDefEqProofs only [go_sem, Try.f4]
  refine CallW.one (s_szStream s 1048576 (by omega) (by omega) hs) p_szStream (by first | (simp -implicitDefEqProofs only [go_sem]; done) | ((conv => lhs; simp -implicitDefEqProofs only [go_sem]); done) | (simp -implicitDefEqProofs only [go_sem]; rfl) | rfl) (by first | trivial | (simp [DeepR, DeepV, DeepVs, DeepC, DeepCs, T.scal]; done)) ?_
  simp -implicitDefEqProofs only [go_sem]
  refine BrA_i (fun h1 => ?_) (fun h1 => ?_) <;> simp -implicitDefEqProofs only [go_sem]
  have h1 : s.w ≤ 1048576 := by
    have : ¬ (1048576 : Int) < s.w := fun hh => by simp [(cutM_lt _ _).2 hh] at h1
    omega
  have hm : s.md := Stm.md_w h1
  have hw : ∀ g ∈ s.groups, g.waits.length < 2000000 := fun g hg => by have := hm.2.2.2 g hg; omega
  have hx : (dropM s x).1.w ≤ 1048576 := by have := dropM_w s x; omega
  have hxs : (dropM s x).1.sm := Stm.sm_w (by omega)
  have hss : s.sm := hm.sm.1
  have hxm := (dropM s x).1.mw_le
  have hsm := s.mw_le
  have n1 : ¬ (1 + (s.mw : Nat) : Int) < 0 := by omega
  have n2 : ¬ (1 + ((dropM s x).1.mw : Nat) : Int) < 0 := by omega
  refine RegD_to sch_4_5 ?sx5 tysOk (by kernel_rfl) ?ga5 ?gb5
  case ga5 =>
    simp -implicitDefEqProofs only [go_sem]
    repeat' (first
      | (with_reducible refine And.intro ?_ ?_)
      | (refine CallW.onep (s_toStream s hm.1 hm.2.2.1 hm.2.1 hm.2.2.2) p_toStream (by first | (simp -implicitDefEqProofs only [go_sem]; done) | ((conv => lhs; simp -implicitDefEqProofs only [go_sem]); done) | (simp -implicitDefEqProofs only [go_sem]; rfl) | rfl) rfl ?_; simp -implicitDefEqProofs only [go_sem])
      | (refine CallW.onep (s_toId x) p_toId (by first | (simp -implicitDefEqProofs only [go_sem]; done) | ((conv => lhs; simp -implicitDefEqProofs only [go_sem]); done) | (simp -implicitDefEqProofs only [go_sem]; rfl) | rfl) rfl ?_; simp -implicitDefEqProofs only [go_sem])
      | (refine CallW.fz [185, 186] (by conv => lhs; simp -implicitDefEqProofs only [go_sem]) ?_; refine CallW.ps (s_sStreamDrop s x hm hw) p_sStreamDrop (by first | (simp -implicitDefEqProofs only [go_sem]; done) | ((conv => lhs; simp -implicitDefEqProofs only [go_sem]); done) | (simp -implicitDefEqProofs only [go_sem]; rfl) | rfl) rfl ?_; intro r hr; rw [dropR_share s x r hr]; clear hr r; simp -implicitDefEqProofs only [go_sem])
      | exact rfl)
  simp -implicitDefEqProofs only [go_sem]
  refine CallW.onep (s_toStream s hm.1 hm.2.2.1 hm.2.1 hm.2.2.2) p_toStream (by first | (simp -implicitDefEqProofs only [go_sem]; done) | ((conv => lhs; simp -implicitDefEqProofs only [go_sem]); done) | (simp -implicitDefEqProofs only [go_sem]; rfl) | rfl) rfl ?_
  simp -implicitDefEqProofs only [go_sem]
  refine RegD_to sch_4_7 ?sx7 tysOk (by kernel_rfl) ?ga7 ?gb7
  case ga7 =>
    simp -implicitDefEqProofs only [go_sem]
    repeat' (first
      | (with_reducible refine And.intro ?_ ?_)
      | (refine CallW.onep (s_toId x) p_toId (by first | (simp -implicitDefEqProofs only [go_sem]; done) | ((conv => lhs; simp -implicitDefEqProofs only [go_sem]); done) | (simp -implicitDefEqProofs only [go_sem]; rfl) | rfl) rfl ?_; simp -implicitDefEqProofs only [go_sem])
      | (refine CallW.one (s_StreamDrop s x hm hw) p_StreamDrop (by first | (simp -implicitDefEqProofs only [go_sem]; done) | ((conv => lhs; simp -implicitDefEqProofs only [go_sem]); done) | (simp -implicitDefEqProofs only [go_sem]; rfl) | rfl) (deep_dropR _) ?_; simp -implicitDefEqProofs only [go_sem])
      | exact rfl)
  simp -implicitDefEqProofs only [go_sem]
  refine CallW.one (s_eqStream (dropM s x).1 (dropM s x).1 hxs) p_eqStream (by first | (simp -implicitDefEqProofs only [go_sem]; done) | ((conv => lhs; simp -implicitDefEqProofs only [go_sem]); done) | (simp -implicitDefEqProofs only [go_sem]; rfl) | rfl) (by first | trivial | (simp [DeepR, DeepV, DeepVs, DeepC, DeepCs, T.scal]; done)) ?_
  simp -implicitDefEqProofs only [go_sem, eq_self, decide_true, beq_self_eq_true, decide_false]
  refine RegD_to sch_4_10 ?sx10 tysOk (by kernel_rfl) ?ga10 ?gb10
  case ga10 =>
    simp -implicitDefEqProofs only [go_sem]
    repeat' (first
      | (with_reducible refine And.intro ?_ ?_)
      | (refine CallW.onep (s_toStream s hm.1 hm.2.2.1 hm.2.1 hm.2.2.2) p_toStream (by first | (simp -implicitDefEqProofs only [go_sem]; done) | ((conv => lhs; simp -implicitDefEqProofs only [go_sem]); done) | (simp -implicitDefEqProofs only [go_sem]; rfl) | rfl) rfl ?_; simp -implicitDefEqProofs only [go_sem])
      | (refine CallW.one (s_eqStream s s hss) p_eqStream (by first | (simp -implicitDefEqProofs only [go_sem]; done) | ((conv => lhs; simp -implicitDefEqProofs only [go_sem]); done) | (simp -implicitDefEqProofs only [go_sem]; rfl) | rfl) (by first | trivial | (simp [DeepR, DeepV, DeepVs, DeepC, DeepCs, T.scal]; done)) ?_; simp -implicitDefEqProofs only [go_sem, eq_self, decide_true, beq_self_eq_true, decide_false])
      | exact rfl)
  simp -implicitDefEqProofs only [go_sem, eq_self, decide_true, beq_self_eq_true, decide_false]
  refine CallW.o [(9000, 241), (9001, 242)] (s_markStream s 1 (by omega) (by omega)) p_markStream o17 rfl (by conv => lhs; simp -implicitDefEqProofs only [go_sem]) (by simp -implicitDefEqProofs only [go_sem]) ?_
  rintro _ _ ⟨rfl, rfl⟩
  simp -implicitDefEqProofs only [go_sem, eq_self, decide_true, beq_self_eq_true, decide_false, n1]
  refine CallW.one (s_eqStream (dropM s x).1 (dropM s x).1 hxs) p_eqStream (by first | (simp -implicitDefEqProofs only [go_sem]; done) | ((conv => lhs; simp -implicitDefEqProofs only [go_sem]); done) | (simp -implicitDefEqProofs only [go_sem]; rfl) | rfl) (by first | trivial | (simp [DeepR, DeepV, DeepVs, DeepC, DeepCs, T.scal]; done)) ?_
  simp -implicitDefEqProofs only [go_sem, eq_self, decide_true, beq_self_eq_true, decide_false]
  refine CallW.o [(9000, 281), (9001, 282)] (s_markStream (dropM s x).1 1 (by omega) (by omega)) p_markStream o17 rfl (by conv => lhs; simp -implicitDefEqProofs only [go_sem]) (by simp -implicitDefEqProofs only [go_sem]) ?_
  rintro _ _ ⟨rfl, rfl⟩
  simp -implicitDefEqProofs only [go_sem, eq_self, decide_true, beq_self_eq_true, decide_false]
  refine CallW.one (s_heldStream (dropM s x).1 1 (by omega) (by omega)) p_heldStream (by first | (simp -implicitDefEqProofs only [go_sem]; done) | ((conv => lhs; simp -implicitDefEqProofs only [go_sem]); done) | (simp -implicitDefEqProofs only [go_sem]; rfl) | rfl) (by first | trivial | (simp [DeepR, DeepV, DeepVs, DeepC, DeepCs, T.scal]; done)) ?_
  simp -implicitDefEqProofs only [go_sem, eq_self, decide_true, beq_self_eq_true, decide_false, n2]
  refine RegD_to sch_4_24 ?sx24 tysOk (by kernel_rfl) ?ga24 ?gb24
  case ga24 =>
    simp -implicitDefEqProofs only [go_sem]
    repeat' (first
      | (with_reducible refine And.intro ?_ ?_)
      | (refine CallW.onep (s_toStream s hm.1 hm.2.2.1 hm.2.1 hm.2.2.2) p_toStream (by first | (simp -implicitDefEqProofs only [go_sem]; done) | ((conv => lhs; simp -implicitDefEqProofs only [go_sem]); done) | (simp -implicitDefEqProofs only [go_sem]; rfl) | rfl) rfl ?_; simp -implicitDefEqProofs only [go_sem])
      | (refine CallW.onep (s_toId x) p_toId (by first | (simp -implicitDefEqProofs only [go_sem]; done) | ((conv => lhs; simp -implicitDefEqProofs only [go_sem]); done) | (simp -implicitDefEqProofs only [go_sem]; rfl) | rfl) rfl ?_; simp -implicitDefEqProofs only [go_sem])
      | (refine CallW.one (s_StreamDrop s x hm hw) p_StreamDrop (by first | (simp -implicitDefEqProofs only [go_sem]; done) | ((conv => lhs; simp -implicitDefEqProofs only [go_sem]); done) | (simp -implicitDefEqProofs only [go_sem]; rfl) | rfl) (deep_dropR _) ?_; simp -implicitDefEqProofs only [go_sem])
      | exact rfl)
  simp -implicitDefEqProofs only [go_sem, eq_self, decide_true, beq_self_eq_true, decide_false]
  refine CallW.one (s_eqStream (dropM s x).1 (dropM s x).1 hxs) p_eqStream (by first | (simp -implicitDefEqProofs only [go_sem]; done) | ((conv => lhs; simp -implicitDefEqProofs only [go_sem]); done) | (simp -implicitDefEqProofs only [go_sem]; rfl) | rfl) (by first | trivial | (simp [DeepR, DeepV, DeepVs, DeepC, DeepCs, T.scal]; done)) ?_
  simp -implicitDefEqProofs only [go_sem, eq_self, decide_true, beq_self_eq_true, decide_false]
  refine CallW.one (s_heldStream (dropM s x).1 1 (by omega) (by omega)) p_heldStream (by first | (simp -implicitDefEqProofs only [go_sem]; done) | ((conv => lhs; simp -implicitDefEqProofs only [go_sem]); done) | (simp -implicitDefEqProofs only [go_sem]; rfl) | rfl) (by first | trivial | (simp [DeepR, DeepV, DeepVs, DeepC, DeepCs, T.scal]; done)) ?_
  simp -implicitDefEqProofs only [go_sem, eq_self, decide_true, beq_self_eq_true, decide_false, n2]
end Go.Proofs.Ytaajnbfnaoecnaa.Am
namespace Go.Proofs.Ytaajnbfnaoecnaa.Am
open Go Go.ChangeShapes Go.WideShapes Go.RowKit
def RdRow (w : World) (ts : List T) (cs : List Value) : Prop := ts.length = cs.length ∧ ∀ (j : Nat) (t : T) (v : Value), ts[j]? = some t → cs[j]? = some v → Rd w (fun b => b < w.heap.size) t v
structure Opn (P : Program) (t : TypeId) (sz : Nat) {α : Type} (row : α → List T) (G : α → Prop) : Prop where
  len : ∀ x, (row x).length = sz
  op : ∀ {H : Type} {enc : TypeId × Value → H} {W : World} {fuel : Nat} {cs : List Value} {D : DataW H} {ps : List MemPlace},
    DataW.trod enc P W 0 (fun _ => true) true fuel t cs = some (D, ps) → (∀ n ∈ DataW.weights P t D, n ≤ reachBytes) → ∃ x, RdRow W (row x) cs ∧ G x
theorem RdRow.one {w : World} {t : T} {v : Value} (h : Rd w (fun b => b < w.heap.size) t v) : RdRow w [t] [v] :=
  ⟨rfl, fun j t' v' h1 h2 => by
    cases j with
    | zero => simp at h1 h2; subst h1 h2; exact h
    | succ j => simp at h1⟩
theorem RdRow.append {w : World} {a b : List T} {c d : List Value} (h : RdRow w a c) (h' : RdRow w b d) : RdRow w (a ++ b) (c ++ d) :=
  ⟨by simp [h.1, h'.1], fun j t v h1 h2 => by
    rw [List.getElem?_append] at h1 h2
    have := h.1
    split at h1
    · rename_i hj
      rw [if_pos (by omega)] at h2
      exact h.2 j t v h1 h2
    · rename_i hj
      rw [if_neg (by omega)] at h2
      rw [this] at h1
      exact h'.2 _ t v h1 h2⟩
section
variable {P : Program} {t : TypeId}
theorem Opn.int {k : IntKind} (hu : P.underlying t = some (.int k)) : Opn P t 1 (fun x : Int => [T.int k x]) (fun x => (Lit.int k x).wf = true) where
  len := fun _ => rfl
  op := fun h _ => by
    obtain ⟨m, rfl, _, hw⟩ := DataW.trod_int hu h
    exact ⟨m, .one (.int _ _), hw⟩
theorem Opn.bool (hu : P.underlying t = some .bool) : Opn P t 1 (fun x : Bool => [T.bool x]) (fun _ => True) where
  len := fun _ => rfl
  op := fun h _ => by
    obtain ⟨m, rfl, _⟩ := DataW.trod_bool hu h
    exact ⟨m, .one (.bool _), trivial⟩
theorem Opn.string (hu : P.underlying t = some .string) : Opn P t 1 (fun x : ByteArray => [T.str x]) (fun x => x.size ≤ 140737488351232) where
  len := fun _ => rfl
  op := fun h hz => by
    obtain ⟨m, rfl, e, _⟩ := DataW.trod_string hu h
    obtain ⟨rfl, _⟩ := Prod.mk.inj e
    refine ⟨m, .one (.str _), ?_⟩
    have := hz m.data.toList.length (by simp [DataW.weights])
    simpa [reachBytes] using this
theorem Opn.slice {e : TypeId} {sz : Nat} {α : Type} {row : α → List T} {G : α → Prop} (he : Opn P e sz row G) (hu : P.underlying t = some (.slice e)) (hc : P.cellsOf e = sz) (hs : 0 < sz) {B : Nat} (hB : P.bytesOf e = B) :
    Opn P t 1 (fun xs : List α => [T.list false sz (xs.map row)]) (fun xs => xs.length * B ≤ 140737488351232 ∧ ∀ x ∈ xs, G x) where
  len := fun _ => rfl
  op := fun {H enc W fuel cs D ps} h hz => by
    rcases DataW.trod_slice hu h with ⟨rfl, _⟩ | ⟨a, len, cap, elems, rest, n, _, rfl, hx, hb, hl, hm, hlen, hel, hsp, _⟩
    · exact ⟨[], .one (.nil ..), by simp, by simp⟩
    · obtain ⟨rfl, _⟩ := Prod.mk.inj hx
      have hw0 := hz ((elems.map (·.1)).length + (rest.map (·.1)).length |>.mul (P.bytesOf e)) (by simp [DataW.weights, hu])
      have each : ∀ i, i < len → ∃ x c, RdRow W (row x) c ∧ G x ∧ c.length = sz ∧ ∀ j u, c[j]? = some u → W.cell? (a.add (i * sz + j)) = some u := by
        intro i hi
        have h1 := hel i hi
        have hil : i < elems.length := by omega
        rw [List.getElem?_eq_getElem hil] at h1
        rw [Option.bind_eq_some_iff] at h1
        obtain ⟨c, hcs, hy⟩ := h1
        have hD : ∀ m ∈ DataW.weights P e (elems[i]).1, m ≤ reachBytes := by
          intro m hmem
          refine hz m ?_
          simp only [DataW.weights, hu]
          refine List.mem_cons_of_mem _ (List.mem_append_left _ ?_)
          have : ∀ (l : List (DataW H)) (y : DataW H), y ∈ l → m ∈ DataW.weights P e y → m ∈ DataW.weightsAll P e l := by
            intro l
            induction l with
            | nil => intro y hy; cases hy
            | cons z l ih =>
              intro y hy hm2
              simp only [DataW.weightsAll, List.mem_append]
              rcases List.mem_cons.1 hy with rfl | hy
              · exact Or.inl hm2
              · exact Or.inr (ih y hy hm2)
          exact this _ _ (List.mem_map.2 ⟨elems[i], List.getElem_mem hil, rfl⟩) hmem
        obtain ⟨x, hK, hG⟩ := he.op (show DataW.trod enc P W 0 (fun _ => true) true n e c = some ((elems[i]).1, (elems[i]).2) from hy) hD
        obtain ⟨hb1, hb2, hb3⟩ := World.cells?_some hcs
        have hlen2 : c.length = sz := by rw [← hK.1, he.len]
        refine ⟨x, c, hK, hG, hlen2, fun j u hu2 => ?_⟩
        have hj := (List.getElem?_eq_some_iff.1 hu2).1
        have h3 := hb3 j (by rw [hc]; omega)
        rw [hu2] at h3
        rw [← h3, hc, Addr.add_add]
      have pick : ∀ l, l ≤ len → ∃ xs : List α, xs.length = l ∧ (∀ x ∈ xs, G x) ∧ ∀ j p, xs[j]? = some p → ∃ c, c.length = sz ∧ RdRow W (row p) c ∧ ∀ i u, c[i]? = some u → W.cell? (a.add (j * sz + i)) = some u := by
        intro l
        induction l with
        | zero => exact fun _ => ⟨[], rfl, by simp, fun j p h => by simp at h⟩
        | succ l ih =>
          intro hll
          obtain ⟨xs, h1, h2, h3⟩ := ih (by omega)
          obtain ⟨x, c, q1, q2, q3, q4⟩ := each l (by omega)
          refine ⟨xs ++ [x], by simp [h1], ?_, ?_⟩
          · intro y hy
            rcases List.mem_append.1 hy with hy | hy
            · exact h2 y hy
            · obtain rfl := List.mem_singleton.1 hy
              exact q2
          · intro j p hj
            by_cases hjl : j < xs.length
            · exact h3 j p (by rwa [List.getElem?_append_left hjl] at hj)
            · rw [List.getElem?_append_right (by omega)] at hj
              have : j - xs.length = 0 := by
                have := (List.getElem?_eq_some_iff.1 hj).1
                simpa using this
              rw [this] at hj
              have hjl2 : j = l := by omega
              subst hjl2
              obtain rfl : x = p := by simpa using hj
              exact ⟨c, q3, q1, q4⟩
      obtain ⟨xs, h1, h2, h3⟩ := pick len (Nat.le_refl _)
      subst h1
      refine ⟨xs, .one ?_, ?_, h2⟩
      · obtain ⟨ab, ao, asp⟩ := a
        have at0 : ∀ (j : Nat) (p : α), xs[j]? = some p → ∀ i, i < sz → ∃ u, W.cell? ⟨ab, ao + (j * sz + i), none⟩ = some u ∧ ∀ x, (row p)[i]? = some x → Rd W (fun b => b < W.heap.size) x u := by
          intro j p hj i hi
          obtain ⟨c, c1, c2, c3⟩ := h3 j p hj
          obtain ⟨u, hu2⟩ : ∃ u, c[i]? = some u := ⟨c[i]'(by omega), List.getElem?_eq_getElem _⟩
          have h4 := c3 i u hu2
          refine ⟨u, ?_, fun x hx => c2.2 i x u hx hu2⟩
          by_cases h0 : j * sz + i = 0
          · rw [h0] at h4 ⊢
            have : asp = none := by
              unfold World.cell? at h4
              simp only [Addr.add] at h4
              cases asp with
              | none => rfl
              | some q => simp at h4; split at h4 <;> simp at h4
            subst this
            exact h4
          · unfold Addr.add at h4
            rw [if_neg h0] at h4
            exact h4
        cases xs with
        | nil => exact .nil ..
        | cons x0 xs0 =>
          obtain ⟨u0, hu0, _⟩ := at0 0 x0 rfl 0 hs
          have hab : ab < W.heap.size := by
            unfold World.cell? at hu0
            simp only at hu0
            split at hu0
            · rename_i hh
              exact (Array.getElem?_eq_some_iff.1 hh).1
            · cases hu0
          have e1 : asp = none := by
            obtain ⟨c, c1, c2, c3⟩ := h3 0 x0 rfl
            have h4 := c3 0 (c[0]'(by omega)) (List.getElem?_eq_getElem _)
            simp only [Nat.zero_mul, Nat.add_zero, Addr.add, if_pos] at h4
            unfold World.cell? at h4
            cases asp with
            | none => rfl
            | some q => simp at h4; split at h4 <;> simp at h4
          subst e1
          have hrow : ∀ (i : Nat) (r : List T), ((x0 :: xs0).map row)[i]? = some r → ∃ p, (x0 :: xs0)[i]? = some p ∧ r = row p := by
            intro i r hr
            rw [List.getElem?_map] at hr
            cases hp : (x0 :: xs0)[i]? with
            | none => rw [hp] at hr; cases hr
            | some p => rw [hp] at hr; cases hr; exact ⟨p, rfl, rfl⟩
          have hfin := @Rd.list W (fun b => b < W.heap.size) false sz ((x0 :: xs0).map row) ab ao cap (fun i j => (W.cell? ⟨ab, ao + (i * sz + j), none⟩).getD Go.undef) (by simpa using hl) hab
            (fun i r hr => by obtain ⟨p, _, rfl⟩ := hrow i r hr; exact he.len p)
            (fun i r j x hr hx => by
              obtain ⟨p, hp, rfl⟩ := hrow i r hr
              obtain ⟨u, hu1, _⟩ := at0 i p hp j (by have := (List.getElem?_eq_some_iff.1 hx).1; rw [he.len] at this; exact this)
              simp only [hu1, Option.getD_some])
            (fun i r j x hr hx => by
              obtain ⟨p, hp, rfl⟩ := hrow i r hr
              obtain ⟨u, hu1, hu2⟩ := at0 i p hp j (by have := (List.getElem?_eq_some_iff.1 hx).1; rw [he.len] at this; exact this)
              simp only [hu1, Option.getD_some]
              exact hu2 x hx)
          rwa [List.length_map] at hfin
      have hw1 : (elems.length + rest.length) * P.bytesOf e ≤ reachBytes := by simpa using hw0
      rw [hB] at hw1
      rw [← hlen]
      exact Nat.le_trans (Nat.mul_le_mul_right _ (Nat.le_add_right _ _)) hw1
structure OpnF (P : Program) (fs : List Field) (o sz : Nat) {α : Type} (row : α → List T) (G : α → Prop) : Prop where
  len : ∀ x, (row x).length = sz
  op : ∀ {H : Type} {enc : TypeId × Value → H} {W : World} {fuel : Nat} {cs : List Value} {xs : List (DataW H × List MemPlace)},
    xs.length = fs.length → (∀ (i : Nat) (f : Field), fs[i]? = some f → DataW.trod enc P W 0 (fun _ => true) true fuel f.type ((cs.drop f.offset).take (P.cellsOf f.type)) = xs[i]?) →
    (∀ n ∈ DataW.weightsEach P (fs.map (·.type)) (xs.map (·.1)), n ≤ reachBytes) → cs.length = o + sz → ∃ x, RdRow W (row x) (cs.drop o) ∧ G x
theorem OpnF.one {f : Field} {o sz : Nat} {α : Type} {row : α → List T} {G : α → Prop} (he : Opn P f.type sz row G) (ho : f.offset = o) (hc : P.cellsOf f.type = sz) : OpnF P [f] o sz row G where
  len := he.len
  op := fun {H enc W fuel cs xs} hx h hz hl => by
    match xs, hx with
    | [y], _ =>
      have hy := h 0 f rfl
      rw [ho, hc, List.take_of_length_le (by simp; omega)] at hy
      exact he.op (show _ = some (y.1, y.2) from hy) (fun n hn => hz n (by simp only [List.map_cons, List.map_nil, DataW.weightsEach]; exact List.mem_append_left _ hn))
theorem OpnF.cons {f : Field} {r : List Field} {o sz sz2 : Nat} {α β : Type} {row : α → List T} {row2 : β → List T} {G : α → Prop} {G2 : β → Prop} (he : Opn P f.type sz row G) (ho : f.offset = o) (hc : P.cellsOf f.type = sz) (hr : OpnF P r (o + sz) sz2 row2 G2) :
    OpnF P (f :: r) o (sz + sz2) (fun x : α × β => row x.1 ++ row2 x.2) (fun x => G x.1 ∧ G2 x.2) where
  len := fun x => by rw [List.length_append, he.len, hr.len]
  op := fun {H enc W fuel cs xs} hx h hz hl => by
    match xs, hx with
    | y :: ys, hx =>
      have hl2 : cs.length = o + sz + sz2 := by omega
      have hy := h 0 f rfl
      rw [ho, hc] at hy
      obtain ⟨x, hK, hG⟩ := he.op (show _ = some (y.1, y.2) from hy) (fun n hn => hz n (by simp only [List.map_cons, DataW.weightsEach]; exact List.mem_append_left _ hn))
      obtain ⟨x2, hK2, hG2⟩ := hr.op (xs := ys) (by simpa using hx) (fun i g hg => h (i + 1) g hg) (fun n hn => hz n (by simp only [List.map_cons, DataW.weightsEach]; exact List.mem_append_right _ hn)) hl2
      refine ⟨(x, x2), ?_, hG, hG2⟩
      have := hK.append hK2
      rwa [← List.drop_drop, List.take_append_drop] at this
theorem Opn.struct {fs : Array Field} {sz : Nat} {α β : Type} {row : α → List T} {row2 : β → List T} {G : α → Prop} {G2 : β → Prop} (g : α → β) (hf : OpnF P fs.toList 0 sz row G) (hu : P.underlying t = some (.struct fs)) (hg : ∀ a, row2 (g a) = row a) (hG2 : ∀ a, G a → G2 (g a)) (hlen : ∀ b, (row2 b).length = sz) (hc : P.cellsOf t = sz) :
    Opn P t sz row2 G2 where
  len := hlen
  op := fun {H enc W fuel cs D ps} h hz => by
    obtain ⟨xs, n, _, hx, hl, hm, he⟩ := DataW.trod_struct hu h
    obtain ⟨rfl, _⟩ := Prod.mk.inj hx
    obtain ⟨x, hK, hG⟩ := hf.op (xs := xs) (by simpa using hm) (fun i f hf => he i f (by simpa using hf)) (fun n hn => hz n (by simp only [DataW.weights, hu]; exact hn)) (by omega)
    exact ⟨g x, by rw [hg]; simpa using hK, hG2 x hG⟩
end
theorem each_of {H : Type} {P : Program} {ts : List TypeId} {ds : List (DataW H)} (h : (DataW.weightsEach P ts ds).all (· ≤ reachBytes) = true) {j : Nat} {t : TypeId} {D : DataW H} (ht : ts[j]? = some t) (hd : ds[j]? = some D) : ∀ n ∈ DataW.weights P t D, n ≤ reachBytes := by
  intro n hn
  have := List.all_eq_true.1 h _ (DataW.weights_mem_each ht hd n hn)
  simpa using this
theorem AVrs_of {W : World} : ∀ {ts : List T} {cs : List Value}, RdRow W ts cs → AVr.AVrs (inCx W fun b => b < W.heap.size) (ts.map .t) cs
  | [], [], _ => trivial
  | t :: ts, c :: cs, h => ⟨h.2 0 t c rfl rfl, AVrs_of ⟨by have := h.1; simpa using this, fun j t' v' h1 h2 => h.2 (j + 1) t' v' h1 h2⟩⟩
  | [], _ :: _, h => by have := h.1; simp at this
  | _ :: _, [], h => by have := h.1; simp at this
theorem arg_agg {W : World} {ts : List T} {cs : Array Value} (h : RdRow W ts (Value.agg cs).cells.toList) : AVr (inCx W fun b => b < W.heap.size) (.agg (ts.map .t)) (.agg cs) :=
  ⟨cs.toList, by simp, AVrs_of h⟩
theorem okWide_agg {P : Program} {W : World} {base : Nat} {t : TypeId} {fs : Array Field} {v : Value} (hu : P.underlying t = some (.struct fs)) (h : Value.okWide P W .any base t v) : ∃ cs, v = .agg cs := by
  unfold Value.okWide at h
  rw [hu] at h
  obtain ⟨cs, h, _⟩ := h
  exact ⟨cs, h⟩
theorem out_bool {w w' : World} {D : Dm} {b : Bool} {v : Value} (h : Out w D w' (.t (.bool b)) v) : v = .bool b ∧ Below w.heap.size w w' := by
  obtain ⟨h1, col, _, h2⟩ := h
  refine ⟨?_, h1.os, h1.tape, h1.output, h1.size, fun k hk => h1.block k hk (by simp)⟩
  have h3 : Rd (outCx w D w' col).w (outCx w D w' col).Dp (.bool b) v := h2
  cases h3
  rfl
end Go.Proofs.Ytaajnbfnaoecnaa.Am
namespace Go.Proofs.Ytaajnbfnaoecnaa.Am
open Go
set_option linter.unusedVariables false
set_option linter.unusedSimpArgs false
set_option maxRecDepth 100000
theorem lG_mk {α : Type} {G : α → Prop} {B : Nat} {xs : List α} (hB : 1 ≤ B) (h : xs.length * B ≤ 140737488351232 ∧ ∀ x ∈ xs, G x) : lG G xs :=
  ⟨Nat.le_trans (Nat.le_mul_of_pos_right _ hB) h.1, h.2⟩
def Stm.row (x : Stm) : List T := [.int .i64 x.last.t, .int .i64 x.last.n, .list false 3 (x.items.map It.row), .list false 4 (x.groups.map Gr.row)]
theorem opn_int : Opn Try.prog 3 1 (fun x : Int => [T.int .i64 x]) (fun x => (Lit.int .i64 x).wf = true) := Opn.int Try.underlying3
theorem opn_Id : Opn Try.prog 37 2 Idt.row (fun _ => True) := by
  refine Opn.struct (sz := 1 + 1) (fun (a : Int × Int) => ⟨a.1, a.2⟩) (OpnF.cons opn_int rfl (by kernel_rfl) (OpnF.one opn_int rfl (by kernel_rfl))) Try.underlying37 ?_ ?_ (fun _ => rfl) (by kernel_rfl)
  · exact fun _ => rfl
  · exact (fun _ _ => trivial)
theorem opn_Pair : Opn Try.prog 150 2 Pr.row Pr.G := by
  refine Opn.struct (sz := 1 + 1) (fun (a : ByteArray × ByteArray) => ⟨a.1, a.2⟩) (OpnF.cons (Opn.string Try.underlying9) rfl (by kernel_rfl) (OpnF.one (Opn.string Try.underlying9) rfl (by kernel_rfl))) Try.underlying150 ?_ ?_ (fun _ => rfl) (by kernel_rfl)
  · exact fun _ => rfl
  · exact (fun _ h => h)
theorem Opn.weaken {P : Program} {t : TypeId} {sz : Nat} {α : Type} {row : α → List T} {G G' : α → Prop} (h : Opn P t sz row G) (hg : ∀ x, G x → G' x) : Opn P t sz row G' :=
  ⟨h.len, fun h1 h2 => by obtain ⟨x, a, b⟩ := h.op h1 h2; exact ⟨x, a, hg x b⟩⟩
theorem opn_Pairs : Opn Try.prog 112 1 (fun xs : List Pr => [T.list false 2 (xs.map Pr.row)]) (lG Pr.G) :=
  (Opn.slice opn_Pair Try.underlying112 (by kernel_rfl) (by omega) (B := 32) (by kernel_rfl)).weaken fun _ => lG_mk (by omega)
theorem opn_Item : Opn Try.prog 114 3 It.row It.G := by
  refine Opn.struct (sz := 2 + 1) (fun (a : Idt × List Pr) => ⟨a.1, a.2⟩) (OpnF.cons opn_Id rfl (by kernel_rfl) (OpnF.one opn_Pairs rfl (by kernel_rfl))) Try.underlying114 ?_ ?_ (fun _ => rfl) (by kernel_rfl)
  · exact fun _ => rfl
  · exact (fun _ h => h.2)
theorem opn_Items : Opn Try.prog 38 1 (fun xs : List It => [T.list false 3 (xs.map It.row)]) (lG It.G) :=
  (Opn.slice opn_Item Try.underlying38 (by kernel_rfl) (by omega) (B := 40) (by kernel_rfl)).weaken fun _ => lG_mk (by omega)
theorem opn_Wait : Opn Try.prog 153 5 Wt.row Wt.G := by
  refine Opn.struct (sz := 2 + (1 + (1 + 1))) (fun (a : Idt × ByteArray × Int × Int) => ⟨a.1, a.2.1, a.2.2.1, a.2.2.2⟩) (OpnF.cons opn_Id rfl (by kernel_rfl) (OpnF.cons (Opn.string Try.underlying9) rfl (by kernel_rfl) (OpnF.cons opn_int rfl (by kernel_rfl) (OpnF.one opn_int rfl (by kernel_rfl))))) Try.underlying153 ?_ ?_ (fun _ => rfl) (by kernel_rfl)
  · exact fun _ => rfl
  · exact (fun _ h => h.2.1)
theorem opn_Waits : Opn Try.prog 116 1 (fun xs : List Wt => [T.list false 5 (xs.map Wt.row)]) (lG Wt.G) :=
  (Opn.slice opn_Wait Try.underlying116 (by kernel_rfl) (by omega) (B := 48) (by kernel_rfl)).weaken fun _ => lG_mk (by omega)
theorem opn_Group : Opn Try.prog 118 4 Gr.row Gr.G := by
  refine Opn.struct (sz := 1 + (2 + 1)) (fun (a : ByteArray × Idt × List Wt) => ⟨a.1, a.2.1, a.2.2⟩) (OpnF.cons (Opn.string Try.underlying9) rfl (by kernel_rfl) (OpnF.cons opn_Id rfl (by kernel_rfl) (OpnF.one opn_Waits rfl (by kernel_rfl)))) Try.underlying118 ?_ ?_ (fun _ => rfl) (by kernel_rfl)
  · exact fun _ => rfl
  · exact (fun _ h => ⟨h.1, h.2.2⟩)
theorem opn_Groups : Opn Try.prog 39 1 (fun xs : List Gr => [T.list false 4 (xs.map Gr.row)]) (lG Gr.G) :=
  (Opn.slice opn_Group Try.underlying39 (by kernel_rfl) (by omega) (B := 56) (by kernel_rfl)).weaken fun _ => lG_mk (by omega)
theorem opn_Stream : Opn Try.prog 41 4 Stm.row Stm.G := by
  refine Opn.struct (sz := 2 + (1 + 1)) (fun (a : Idt × List It × List Gr) => ⟨a.1, a.2.1, a.2.2⟩) (OpnF.cons opn_Id rfl (by kernel_rfl) (OpnF.cons opn_Items rfl (by kernel_rfl) (OpnF.one opn_Groups rfl (by kernel_rfl)))) Try.underlying41 ?_ ?_ (fun _ => rfl) (by kernel_rfl)
  · exact fun _ => rfl
  · exact (fun _ h => h.2)
end Go.Proofs.Ytaajnbfnaoecnaa.Am
