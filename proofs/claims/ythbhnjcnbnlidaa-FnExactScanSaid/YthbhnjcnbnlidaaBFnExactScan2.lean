/- Texts of this claim, packed: walks and laws that its row stands on. Each states its own conditions. -/
import Derived.Below
import Derived.ChangeArms
import Derived.ChangeOld
import Derived.ChangeSlices
import Derived.DataElems
import Derived.Deep.LoopGhost
import Derived.Deep.RegionLaw
import Derived.Lib.Bytealg
import Derived.Lib.Walk
import Derived.OpenShut
import Derived.ProofKit
import Derived.Shelf.RegionOpenPlain
import Derived.Shelf.SlSortCmp.NoneTotal
import Derived.Shelf.SlSortCmp.WholeK
import Derived.ShutString
import Derived.SizedLaws
import Derived.Test.YthbhnjcnbnlidaaBFnExactScan1
namespace Go.Proofs.Ythbhnjcnbnlidaa.Am
open Go
set_option linter.unusedVariables false
def sw (m n k : Nat) : Nat := if k = m then n else if k = n then m else k
theorem sw_sw (m n k : Nat) : sw m n (sw m n k) = k := by
  unfold sw
  by_cases h1 : k = m
  · subst h1
    by_cases h2 : n = k <;> simp [h2]
  · by_cases h2 : k = n
    · subst h2; simp [h1]
    · simp [h1, h2]
theorem sw_eq {m n k k' : Nat} : sw m n k = k' ↔ k = sw m n k' := ⟨fun h => by rw [← h, sw_sw], fun h => by rw [h, sw_sw]⟩
theorem sw_inj {m n k k' : Nat} (h : sw m n k = sw m n k') : k = k' := by rw [← sw_sw m n k, h, sw_sw]
theorem sw_ge {m n k p : Nat} (hm : m < p) (hn : n < p) (hk : p ≤ k) : sw m n k = k := by
  unfold sw; rw [if_neg (by omega), if_neg (by omega)]
def AV.ren (m n : Nat) : AV → AV
  | .refw k => .refw (sw m n k)
  | .ref k o l => .ref (sw m n k) o l
  | .ptr k i j => .ptr (sw m n k) i j
  | .ls x (some (k, i, j)) => .ls x (some (sw m n k, i, j))
  | .agg cs => .agg (rens m n cs)
  | .tup cs => .tup (rens m n cs)
  | .fn f cs => .fn f (rens m n cs)
  | v => v
where rens (m n : Nat) : List AV → List AV
  | [] => []
  | v :: l => v.ren m n :: rens m n l
def Blk.ren (m n : Nat) : Blk → Blk
  | .box cs => .box (AV.ren.rens m n cs)
  | .rows sz rs => .rows sz rs
def hren (m n : Nat) : Hp → Hp
  | [] => []
  | (k, b) :: h => hput (hren m n h) (sw m n k) (b.ren m n)
def St.ren (s : St) (m n : Nat) : St := ⟨AV.ren.rens m n s.tm, hren m n s.hp⟩
theorem hget_hren (m n : Nat) (h : Hp) (k : Nat) : hget (hren m n h) k = (hget h (sw m n k)).map (Blk.ren m n) := by
  induction h with
  | nil => rfl
  | cons p h ih =>
    obtain ⟨k0, b⟩ := p
    simp only [hren, hget, hget_hput]
    by_cases e : sw m n k0 = k
    · rw [if_pos e, if_pos (sw_eq.1 e)]; rfl
    · rw [if_neg e, if_neg (fun e' => e (sw_eq.2 e')), ih]
theorem gt_rens (m n : Nat) (l : List AV) (i : Nat) : gt (AV.ren.rens m n l) i = (gt l i).ren m n := by
  induction l generalizing i with
  | nil => simp [AV.ren.rens, gt, AV.ren]
  | cons a l ih => cases i <;> simp [AV.ren.rens, gt, ih]
theorem rens_length (m n : Nat) (l : List AV) : (AV.ren.rens m n l).length = l.length := by
  induction l with
  | nil => rfl
  | cons a l ih => simp [AV.ren.rens, ih]
def ρR (m n : Nat) (ρ : Nat → Option Nat) : Nat → Option Nat := fun k => ρ (sw m n k)
def colR (m n : Nat) (col : Col) : Col := fun b => match col b with
  | some (k, i, j) => some (sw m n k, i, j)
  | none => none
section
variable {B : Base} {ρ : Nat → Option Nat} {col : Col} {s : St} {a : Act} {w : World} {m n : Nat}
theorem ren_Dp {hp : Hp} {b : Nat} (h : (cx B ρ col w hp).Dp b) : (cx B (ρR m n ρ) (colR m n col) w (hren m n hp)).Dp b :=
  ⟨h.1, h.2.1, by have := h.2.2.1; simp only [colR, this], fun k => h.2.2.2 (sw m n k)⟩
theorem ren_Dl (hm : m < pin) (hn : n < pin) {hp : Hp} {b : Nat} (h : (cx B ρ col w hp).Dl b) : (cx B (ρR m n ρ) (colR m n col) w (hren m n hp)).Dl b := by
  refine ⟨h.1, fun k => h.2.1 (sw m n k), fun i j e => ?_⟩
  simp only [colR] at e
  split at e
  · rename_i k i' j' hc
    simp only [Option.some.injEq, Prod.mk.injEq] at e
    obtain ⟨e1, rfl, rfl⟩ := e
    have : k = limKey := by rw [sw_eq.1 e1]; exact sw_ge (p := pin) hm hn (by decide)
    subst this
    exact h.2.2 _ _ hc
  · cases e
mutual
theorem AVr.ren (hm : m < pin) (hn : n < pin) {hp : Hp} : ∀ (x : AV) (v : Value), AVr (cx B ρ col w hp) x v → AVr (cx B (ρR m n ρ) (colR m n col) w (hren m n hp)) (x.ren m n) v
  | .t x, v, hx => Rd.mono hx (fun _ _ => rfl) (fun b hb => ren_Dp hb)
  | .own _, _, hx => hx
  | .ls x none, v, hx => ⟨Rd.mono hx.1 (fun _ _ => rfl) (fun b hb => ren_Dl hm hn hb), trivial⟩
  | .ls x (some (k, i, j)), v, hx => by
    refine ⟨Rd.mono hx.1 (fun _ _ => rfl) (fun b hb => ren_Dl hm hn hb), ?_⟩
    obtain ⟨b, sz, rs, t1, t2, t3, t4, t5⟩ := hx.2
    have t2' : hget hp k = some (.rows sz rs) := t2
    exact ⟨b, sz, rs, by show ρ (sw m n (sw m n k)) = _; rw [sw_sw]; exact t1, by show hget (hren m n hp) _ = _; rw [hget_hren, sw_sw, t2']; rfl, t3, t4, t5⟩
  | .nils _, _, hx => hx
  | .agg cs, v, ⟨vs, e, hx⟩ => ⟨vs, e, AVrs.ren hm hn cs vs hx⟩
  | .tup cs, v, ⟨vs, e, hx⟩ => ⟨vs, e, AVrs.ren hm hn cs vs hx⟩
  | .refw k, v, ⟨sz, rs, h1, h2⟩ => by
    have h1' : hget hp k = some (.rows sz rs) := h1
    refine ⟨sz, rs, by show hget (hren m n hp) _ = _; rw [hget_hren, sw_sw, h1']; rfl, ?_⟩
    rcases h2 with ⟨b, cap, e, q, g1, g2, g3, g4, g5⟩ | h2
    · exact .inl ⟨b, cap, e, q, by show ρ (sw m n (sw m n k)) = _; rw [sw_sw]; exact g1, g2, g3, g4, g5⟩
    · exact .inr h2
  | .ref k o l, v, ⟨sz, rs, h1, h0, h2⟩ => by
    have h1' : hget hp k = some (.rows sz rs) := h1
    refine ⟨sz, rs, by show hget (hren m n hp) _ = _; rw [hget_hren, sw_sw, h1']; rfl, h0, ?_⟩
    rcases h2 with ⟨b, cap, g1, g2, g3⟩ | h2
    · exact .inl ⟨b, cap, by show ρ (sw m n (sw m n k)) = _; rw [sw_sw]; exact g1, g2, g3⟩
    · exact .inr h2
  | .ptr k i j, v, ⟨b, h1, h2⟩ => by
    refine ⟨b, by show ρ (sw m n (sw m n k)) = _; rw [sw_sw]; exact h1, ?_⟩
    have e : hget (cx B (ρR m n ρ) (colR m n col) w (hren m n hp)).hp (sw m n k) = (hget hp k).map (Blk.ren m n) := by show hget (hren m n hp) _ = _; rw [hget_hren, sw_sw]
    rw [e]
    have h2' : match hget hp k with
      | some (.box _) => v = .pointer (some ⟨b, j, none⟩) ∧ i = 0
      | some (.rows sz _) => v = .pointer (some ⟨b, i * sz + j, none⟩)
      | none => False := h2
    revert h2'
    cases hget hp k with
    | none => exact id
    | some blk => cases blk <;> exact id
  | .rop false row j, v, ⟨b, off, h1, h2, h3⟩ => by
    simp only [Bool.false_eq_true, if_false] at h2 h3
    refine ⟨b, off, h1, by simpa using ren_Dp h2, fun q x hq => ?_⟩
    obtain ⟨u, h4, h5⟩ := h3 q x hq
    exact ⟨u, h4, by simp only [Bool.false_eq_true, if_false]; exact h5.mono (fun _ _ => rfl) (fun b hb => ren_Dp hb)⟩
  | .rop true row j, v, ⟨b, off, h1, h2, h3⟩ => by
    simp only [if_true] at h2 h3
    refine ⟨b, off, h1, by simpa using ren_Dl hm hn h2, fun q x hq => ?_⟩
    obtain ⟨u, h4, h5⟩ := h3 q x hq
    exact ⟨u, h4, by simp only [if_true]; exact h5.mono (fun _ _ => rfl) (fun b hb => ren_Dl hm hn hb)⟩
  | .fn f cap, v, ⟨vs, e, hx⟩ => ⟨vs, e, AVrs.ren hm hn cap vs hx⟩
  | .skip, _, hx => hx
  | .undef, _, _ => trivial
theorem AVrs.ren (hm : m < pin) (hn : n < pin) {hp : Hp} : ∀ (xs : List AV) (vs : List Value), AVr.AVrs (cx B ρ col w hp) xs vs → AVr.AVrs (cx B (ρR m n ρ) (colR m n col) w (hren m n hp)) (AV.ren.rens m n xs) vs
  | [], [], _ => trivial
  | x :: xs, v :: vs, hx => ⟨AVr.ren hm hn x v hx.1, AVrs.ren hm hn xs vs hx.2⟩
  | [], _ :: _, hx => hx
  | _ :: _, [], hx => hx
end
theorem SimR.ren (h : SimR B ρ col s a w) (hm : m < pin) (hn : n < pin) : SimR B (ρR m n ρ) (colR m n col) (s.ren m n) a w := by
  refine ⟨h.defers, by simp [St.ren, rens_length, h.len], h.keep, fun i => ?_, fun k b hb => ?_, fun k hk => ?_, fun k k' b h1 h2 => sw_inj (h.inj _ _ b h1 h2), fun k b hb => ?_, fun k b hb => h.lab _ b hb, fun b p hb => ?_, fun k hk => ?_, ?_⟩
  · simp only [St.ren, gt_rens]
    exact AVr.ren hm hn _ _ (h.tm i)
  · have hb1 : hget (hren m n s.hp) k = some b := hb
    rw [hget_hren] at hb1
    obtain ⟨b0, e0, rfl⟩ := Option.map_eq_some_iff.1 hb1
    have := h.hp _ b0 e0
    cases b0 with
    | box cs =>
      obtain ⟨g, vs, e, fr, e1, e2, e3, e4⟩ := this
      exact ⟨g, vs, e, fr, e1, e2, e3, AVrs.ren hm hn cs vs e4⟩
    | rows sz rs =>
      obtain ⟨r1, r2⟩ := this
      refine ⟨r1, ?_⟩
      rcases r2 with ⟨g, cells, e, fr, u, q1, q2, q3, q4, q5, q6⟩ | ⟨q1, q2⟩
      · refine .inl ⟨g, cells, e, fr, u, q1, q2, q3, q4, q5, fun i r j x hi hj => Own.mono (q6 i r j x hi hj) (fun _ _ => rfl) (fun b hb => ren_Dp hb) (fun _ _ => rfl) (fun b hb => ?_)⟩
        simp only [colR, hb, sw_sw]
      · exact .inr ⟨q1, q2⟩
  · have hk1 : hget (hren m n s.hp) k = none := hk
    rw [hget_hren, Option.map_eq_none_iff] at hk1
    exact h.dom _ hk1
  · have := h.sep _ b hb
    simp only [colR, this]
  · simp only [colR] at hb
    split at hb
    · rename_i hc; exact h.colb b _ hc
    · cases hb
  · show ρ (sw m n k) = _
    rw [sw_ge hm hn hk]; exact h.pins k hk
  · show hget (hren m n s.hp) limKey = none
    rw [hget_hren, sw_ge (p := pin) hm hn (by decide), h.nolim]; rfl
theorem LeS.ren (s : St) (hm : m < pin) (hn : n < pin) : LeS s (s.ren m n) := fun B a w ⟨ρ, col, h⟩ => ⟨_, _, h.ren hm hn⟩
def St.rens (s : St) : List (Nat × Nat) → St
  | [] => s
  | p :: l => (s.ren p.1 p.2).rens l
theorem LeS.rens : ∀ (l : List (Nat × Nat)) (s : St), (l.all fun p => decide (p.1 < pin) && decide (p.2 < pin)) = true → LeS s (s.rens l)
  | [], s, _ => LeS.refl s
  | p :: l, s, h => by
    simp only [List.all_cons, Bool.and_eq_true, decide_eq_true_eq] at h
    exact (LeS.ren s h.1.1 h.1.2).trans (LeS.rens l _ h.2)
theorem Rnd.toR {α : Type} {inv : α → St} {rank : α → Nat} {ok : α → Prop} {k : Nat} {s : St} (ks : List Nat) (ps : List (Nat × Nat)) (y : α) (hk : (ks.all fun k => decide (k < pin)) = true) (hp : (ps.all fun p => decide (p.1 < pin) && decide (p.2 < pin)) = true)
    (h1 : LeTs ((s.drops ks).rens ps).tm (inv y).tm) (h2 : ((s.drops ks).rens ps).hp = (inv y).hp) (hr : rank y < k) (ho : ok y) : Rnd inv rank ok k s :=
  ⟨y, (LeS.drops s (fun k hk' => of_decide_eq_true (List.all_eq_true.1 hk k hk'))).trans ((LeS.rens ps _ hp).trans (LeS.forget h1 h2)), hr, ho⟩
end
def emp (h : Hp) : AV → AV
  | .refw k => match hget h k with
    | some (.rows sz []) => .t (.list false sz [])
    | _ => .refw k
  | .nils sz => .t (.list false sz [])
  | x => x
theorem emp_r {c : Cx} {x : AV} {v : Value} (h : AVr c x v) : AVr c (emp c.hp x) v := by
  unfold emp
  split
  · rename_i k
    split
    · rename_i sz hk
      obtain ⟨sz', rs, h1, h2⟩ := h
      rw [hk] at h1; cases h1
      rcases h2 with ⟨b, cap, e, q, g1, rfl, _⟩ | ⟨_, a, rfl⟩
      · exact .nil ..
      · exact .nil ..
    · exact h
  · have h' : v = .slice none 0 0 := h
    subst h'
    exact .nil ..
  · exact h
def empT (s : St) : List Nat → St
  | [] => s
  | i :: l => empT ⟨pt s.tm i (emp s.hp (gt s.tm i)), s.hp⟩ l
theorem pt_len : ∀ (l : List AV) (i : Nat) (v : AV), (pt l i v).length = l.length
  | [], _, _ => rfl
  | a :: l, 0, v => rfl
  | a :: l, i + 1, v => by simp [pt, pt_len l i v]
theorem emp_le (s : St) (i : Nat) : LeS s ⟨pt s.tm i (emp s.hp (gt s.tm i)), s.hp⟩ := fun B a w ⟨ρ, col, h⟩ => ⟨ρ, col, ⟨h.defers, by rw [pt_len]; exact h.len, h.keep, fun j => by
    show AVr (cx B ρ col w s.hp) (gt (pt s.tm i (emp s.hp (gt s.tm i))) j) _
    rw [gt_pt]
    split
    · rename_i e; rw [e.1]; exact emp_r (h.tm i)
    · exact h.tm j, h.hp, h.dom, h.inj, h.sep, h.lab, h.colb, h.pins, h.nolim⟩⟩
theorem empT_le : ∀ (l : List Nat) (s : St), LeS s (empT s l)
  | [], s => LeS.refl s
  | i :: l, s => LeS.trans (emp_le s i) (empT_le l _)
theorem LoopW.empT {body : (Exit → St → Prop) → St → Prop} {K : Exit → St → Prop} {s s0 : St} (l : List Nat) (h : Am.empT s l = s0) (hl : LoopW body K s0) : LoopW body K s := hl.le (h ▸ empT_le l s)
def nilT (s : St) : List (Nat × Nat) → Option St
  | [] => some s
  | (k, j) :: l => match hget s.hp k with
    | some (.box cs) => match gt cs j with
      | .nils sz => nilT ⟨s.tm, hput s.hp k (.box (pt cs j (.t (.list false sz []))))⟩ l
      | _ => none
    | _ => none
theorem nilT_le : ∀ {l : List (Nat × Nat)} {s s' : St}, nilT s l = some s' → LeS s s'
  | [], s, s', h => by simp [nilT] at h; subst h; exact LeS.refl _
  | (k, j) :: l, s, s', h => by
    unfold nilT at h
    split at h
    · rename_i cs hk
      split at h
      · rename_i sz hz
        refine LeS.trans ?_ (nilT_le h)
        rintro B a w ⟨ρ, col, hs⟩
        have hgp : ∀ n, hget (hput s.hp k (.box (pt cs j (.t (.list false sz []))))) n = if k = n then some (.box (pt cs j (.t (.list false sz [])))) else hget s.hp n := by
          intro n; rw [hget_hput]
        have hle : (cx B ρ col w s.hp).le (cx B ρ col w (hput s.hp k (.box (pt cs j (.t (.list false sz [])))))) fun _ => True := by
          refine ⟨fun _ _ _ => rfl, fun n b _ hb => ?_, fun b hb => ⟨hb, rfl⟩, fun b hb => ⟨hb, rfl⟩, fun _ _ _ _ => rfl, fun _ _ _ _ _ => rfl⟩
          have hb' : hget s.hp n = some b := hb
          show ∃ b', hget (hput s.hp k (.box (pt cs j (.t (.list false sz []))))) n = some b' ∧ _
          rw [hgp]
          split
          · rename_i e; subst e; rw [hk] at hb'; cases hb'; exact ⟨_, rfl, trivial⟩
          · exact ⟨b, hb', blk_sim_refl b⟩
        refine ⟨ρ, col, ⟨hs.defers, hs.len, hs.keep, fun i => AVr.mono hle _ _ (hs.tm i), fun n b hb => ?_, fun n hn => ?_, hs.inj, hs.sep, hs.lab, hs.colb, hs.pins, by rw [hgp, if_neg (fun e => by rw [e, hs.nolim] at hk; cases hk), hs.nolim]⟩⟩
        · have hb1 := hb
          simp only at hb1
          rw [hgp] at hb1
          split at hb1
          · rename_i e; subst e; cases hb1
            obtain ⟨b, vs, e, fr, f1, f2, f3, f4⟩ := hs.hp k _ hk
            refine ⟨b, vs, e, fr, f1, f2, f3, AVrs_pt (AVrs.mono hle _ _ f4) (fun u hu => ?_)⟩
            rw [hz] at hu
            have hu' : u = .slice none 0 0 := hu
            subst hu'
            exact .nil ..
          · exact (hs.hp n b hb1).mono hle rfl (fun _ _ => rfl) (fun _ _ _ h => ⟨h, rfl⟩)
        · have hn1 := hn
          simp only at hn1
          rw [hgp] at hn1
          split at hn1
          · cases hn1
          · exact hs.dom n hn1
      · cases h
    · cases h
theorem LoopW.nilT {body : (Exit → St → Prop) → St → Prop} {K : Exit → St → Prop} {s s0 : St} (l : List (Nat × Nat)) (h : Am.nilT s l = some s0) (hl : LoopW body K s0) : LoopW body K s := hl.le (nilT_le h)
attribute [go_sem] emp empT nilT sw AV.ren AV.ren.rens Blk.ren hren St.ren St.rens shareC shareCs shareV shareVs shareR
end Go.Proofs.Ythbhnjcnbnlidaa.Am
namespace Go.Proofs.Ythbhnjcnbnlidaa.Am
open Go
set_option linter.unusedVariables false
def mixR (new old : List (List T)) (i : Nat) : List (List T) := new.take i ++ old.drop i
theorem mix_0 (new old : List (List T)) : mixR new old 0 = old := by simp [mixR]
theorem mix_all {new old : List (List T)} (h : new.length = old.length) : mixR new old old.length = new := by simp [mixR, ← h]
theorem mix_len {new old : List (List T)} {i : Nat} (h : new.length = old.length) (hi : i ≤ old.length) : (mixR new old i).length = old.length := by simp [mixR]; omega
theorem mix_getD {new old : List (List T)} {i : Nat} (h : new.length = old.length) (hi : i < old.length) : (mixR new old i).getD i [] = old.getD i [] := by
  have h1 : (new.take i).length = i := by simp; omega
  simp only [mixR, List.getD_eq_getElem?_getD]
  rw [List.getElem?_append_right (by omega), h1, Nat.sub_self]
  simp
theorem mix_set {new old : List (List T)} {i : Nat} (h : new.length = old.length) (hi : i < old.length) : (mixR new old i).set i (new.getD i []) = mixR new old (i + 1) := by
  have h1 : (new.take i).length = i := by simp; omega
  simp only [mixR]
  rw [List.set_append_right _ _ (by omega), h1, Nat.sub_self, List.take_succ_eq_append_getElem (by omega), List.append_assoc]
  congr 1
  rw [List.drop_eq_getElem_cons hi, List.set_cons_zero]
  simp [List.getD_eq_getElem?_getD, List.getElem?_eq_getElem (show i < new.length by omega)]
theorem set_getD {l : List (List T)} {i : Nat} (h : i < l.length) (r : List T) : (l.set i r).getD i [] = r := by
  simp [List.getD_eq_getElem?_getD, h]
def wSum {α : Type} (w : α → Nat) (l : List α) : Nat := (l.map w).sum
def wAll {α : Type} (w : α → Nat) (l : List α) : Nat := l.length + wSum w l
theorem wSum_take {α : Type} (w : α → Nat) (l : List α) {i : Nat} (h : i < l.length) : wSum w (l.take (i + 1)) = wSum w (l.take i) + w l[i] := by
  rw [List.take_succ_eq_append_getElem h]; unfold wSum; rw [List.map_append, List.sum_append]; simp only [List.map_cons, List.map_nil, List.sum_cons, List.sum_nil, Nat.add_zero]
theorem wSum_le {α : Type} (w : α → Nat) (l : List α) (i : Nat) : wSum w (l.take i) ≤ wSum w l := by
  have : l = l.take i ++ l.drop i := (List.take_append_drop i l).symm
  have h2 : wSum w l = wSum w (l.take i) + wSum w (l.drop i) := by
    conv => lhs; rw [this]
    unfold wSum; rw [List.map_append, List.sum_append]
  omega
theorem wSum_cons {α : Type} (w : α → Nat) (x : α) (l : List α) : wSum w (x :: l) = w x + wSum w l := by simp [wSum]
theorem wSum_mem {α : Type} (w : α → Nat) {l : List α} {x : α} (h : x ∈ l) : w x ≤ wSum w l := by
  induction l with
  | nil => cases h
  | cons y l ih =>
    rw [wSum_cons]
    rcases List.mem_cons.1 h with rfl | h
    · omega
    · have := ih h; omega
theorem wSum_len {α : Type} {w : α → Nat} (h : ∀ x, 1 ≤ w x) (l : List α) : l.length ≤ wSum w l := by
  induction l with
  | nil => exact Nat.zero_le _
  | cons y l ih => rw [wSum_cons, List.length_cons]; have := h y; omega
theorem wSum_const {α : Type} (c : Nat) (l : List α) : wSum (fun _ => c) l = c * l.length := by
  induction l with
  | nil => rfl
  | cons y l ih => rw [wSum_cons, ih, List.length_cons, Nat.mul_add, Nat.mul_one]; omega
def mkAll {α : Type} (m : α → Int → α) (w : α → Nat) : List α → Int → List α
  | [], _ => []
  | x :: xs, k => m x k :: mkAll m w xs (k + w x)
theorem mkAll_len {α : Type} (m : α → Int → α) (w : α → Nat) : ∀ (xs : List α) (k : Int), (mkAll m w xs k).length = xs.length
  | [], _ => rfl
  | x :: xs, k => by simp [mkAll, mkAll_len m w xs]
theorem mkAll_get {α : Type} (m : α → Int → α) (w : α → Nat) : ∀ (xs : List α) (k : Int) (i : Nat) (h : i < xs.length), (mkAll m w xs k)[i]'(by rw [mkAll_len]; exact h) = m xs[i] (k + wSum w (xs.take i))
  | x :: xs, k, 0, _ => by simp [mkAll, wSum]
  | x :: xs, k, i + 1, h => by
    simp only [mkAll, List.getElem_cons_succ, List.take_succ_cons, wSum_cons]
    rw [mkAll_get m w xs _ i (by simpa using h)]
    congr 1
    omega
theorem mkAll_getD {α : Type} (f : α → List T) (m : α → Int → α) (w : α → Nat) (xs : List α) (k : Int) {i : Nat} (h : i < xs.length) : ((mkAll m w xs k).map f).getD i [] = f (m xs[i] (k + wSum w (xs.take i))) := by
  rw [row_getD f _ (by rw [mkAll_len]; exact h), mkAll_get m w xs k i h]
theorem filter_take {α : Type} (p : α → Bool) (l : List α) {i : Nat} (h : i < l.length) : (l.take (i + 1)).filter p = (l.take i).filter p ++ if p l[i] = true then [l[i]] else [] := by
  rw [List.take_succ_eq_append_getElem h, List.filter_append]; congr 1; simp [List.filter_cons]
end Go.Proofs.Ythbhnjcnbnlidaa.Am
namespace Go.Proofs.Ythbhnjcnbnlidaa.Am
open Go
@[ext] structure Pr where
  k : ByteArray
  v : ByteArray
deriving DecidableEq
@[ext] structure Idt where
  t : Int
  n : Int
deriving DecidableEq
@[ext] structure It where
  id : Idt
  fields : List Pr
deriving DecidableEq
@[ext] structure Wt where
  id : Idt
  who : ByteArray
  at' : Int
  tm : Int
deriving DecidableEq
@[ext] structure Gr where
  name : ByteArray
  last : Idt
  waits : List Wt
deriving DecidableEq
@[ext] structure Stm where
  last : Idt
  items : List It
  groups : List Gr
deriving DecidableEq
def Pr.row (x : Pr) : List T := [.str x.k, .str x.v]
def It.row (x : It) : List T := [.int .i64 x.id.t, .int .i64 x.id.n, .list false 2 (x.fields.map Pr.row)]
def Wt.row (x : Wt) : List T := [.int .i64 x.id.t, .int .i64 x.id.n, .str x.who, .int .i64 x.at', .int .i64 x.tm]
def Gr.row (x : Gr) : List T := [.str x.name, .int .i64 x.last.t, .int .i64 x.last.n, .list false 5 (x.waits.map Wt.row)]
def It.rowO (x : It) : List T := [.int .i64 x.id.t, .int .i64 x.id.n, .list true 2 (x.fields.map Pr.row)]
def Gr.rowO (x : Gr) : List T := [.str x.name, .int .i64 x.last.t, .int .i64 x.last.n, .list true 5 (x.waits.map Wt.row)]
def It.sm (x : It) : Prop := x.fields.length < 4611686018427387904
def Gr.sm (x : Gr) : Prop := x.waits.length < 4611686018427387904
def Stm.sm (x : Stm) : Prop := x.items.length < 4611686018427387904 ∧ x.groups.length < 4611686018427387904 ∧ (∀ i ∈ x.items, i.sm) ∧ ∀ g ∈ x.groups, g.sm
def cutM (n : Int) (w : Nat) : Int := if n < w then -1 else n - w
theorem cutM_lt (n : Int) (w : Nat) : cutM n w < 0 ↔ n < w := by unfold cutM; split <;> omega
theorem cutM_ge {n : Int} {w : Nat} (h : ¬ n < w) : cutM n w = n - w := by simp [cutM, h]
def Pr.w (x : Pr) : Nat := x.k.size + x.v.size
def It.w (x : It) : Nat := wAll Pr.w x.fields
def Wt.w (x : Wt) : Nat := x.who.size
def Gr.w (x : Gr) : Nat := x.name.size + wAll Wt.w x.waits
def Stm.w (x : Stm) : Nat := wAll It.w x.items + wAll Gr.w x.groups
def ts (l : List T) : List AV := l.map .t
abbrev Pr.av (x : Pr) : AV := .agg [.t (.str x.k), .t (.str x.v)]
abbrev Idt.av (x : Idt) : AV := .agg [I x.t, I x.n]
abbrev It.av (x : It) : AV := .agg [I x.id.t, I x.id.n, .t (.list false 2 (x.fields.map Pr.row))]
abbrev Wt.av (x : Wt) : AV := .agg [I x.id.t, I x.id.n, .t (.str x.who), I x.at', I x.tm]
abbrev Gr.av (x : Gr) : AV := .agg [.t (.str x.name), I x.last.t, I x.last.n, .t (.list false 5 (x.waits.map Wt.row))]
abbrev Stm.av (x : Stm) : AV := .agg [I x.last.t, I x.last.n, .t (.list false 3 (x.items.map It.row)), .t (.list false 4 (x.groups.map Gr.row))]
theorem bytesEq_iff (a b : ByteArray) : bytesEq a b = decide (a = b) := by
  unfold bytesEq
  rw [ByteArray.toList_eq, ByteArray.toList_eq]
  obtain ⟨⟨x⟩⟩ := a
  obtain ⟨⟨y⟩⟩ := b
  by_cases h : x = y
  · subst h; simp
  · have h1 : (x == y) = false := by simpa using h
    simp [h, h1]
theorem mk_rows {α : Type} (f : α → List T) (h : ∀ x, (f x).map (T.mk false) = f x) (l : List α) : (l.map f).map (List.map (T.mk false)) = l.map f := by
  rw [List.map_map]
  exact List.map_congr_left fun x _ => h x
theorem Pr.mk_rows (l : List Pr) : (l.map Pr.row).map (List.map (T.mk false)) = l.map Pr.row := Am.mk_rows _ (fun _ => rfl) l
theorem Wt.mk_rows (l : List Wt) : (l.map Wt.row).map (List.map (T.mk false)) = l.map Wt.row := Am.mk_rows _ (fun _ => rfl) l
theorem It.mk_rows (l : List It) : (l.map It.row).map (List.map (T.mk false)) = l.map It.row := Am.mk_rows _ (fun x => by simp only [It.row, List.map_cons, List.map_nil, T.mk_list, T.mk_int, Pr.mk_rows]) l
theorem Gr.mk_rows (l : List Gr) : (l.map Gr.row).map (List.map (T.mk false)) = l.map Gr.row := Am.mk_rows _ (fun x => by simp only [Gr.row, List.map_cons, List.map_nil, T.mk_list, T.mk_int, T.mk_str, Wt.mk_rows]) l
attribute [go_sem] bytesEq_iff Pr.mk_rows Wt.mk_rows It.mk_rows Gr.mk_rows
end Go.Proofs.Ythbhnjcnbnlidaa.Am
namespace Go.Proofs.Ythbhnjcnbnlidaa.Am
open Go
set_option maxRecDepth 100000
set_option linter.unusedSimpArgs false
set_option linter.unusedVariables false
theorem s_isNaN (n : Int) : Spec Try.prog 125 [I n] (fun r => r = Bo false) := by
  refine Spec.of tysOk mixed Try.func125 rfl (by decide) ?_
  simp -implicitDefEqProofs only [go_sem, Try.f125]
theorem p_isNaN : Plain Try.prog 125 := ⟨_, Try.func125, rfl, by decide⟩
def cmpM (a b : Int) : Int := if a < b then -1 else if b < a then 1 else 0
theorem s_compare (a b : Int) : Spec Try.prog 93 [I a, I b] (fun r => r = I (cmpM a b)) := by
  refine Spec.of tysOk mixed Try.func93 rfl (by decide) ?_
  simp -implicitDefEqProofs only [go_sem, Try.f93]
  refine .one (s_isNaN _) p_isNaN rfl trivial ?_
  simp -implicitDefEqProofs only [go_sem]
  refine .one (s_isNaN _) p_isNaN rfl trivial ?_
  simp -implicitDefEqProofs only [go_sem]
  refine BrA_i (fun h => ?_) (fun h => ?_)
  · simp -implicitDefEqProofs only [go_sem]; simp_all [cmpM]
  · simp -implicitDefEqProofs only [go_sem]
    refine BrA_i (fun h => ?_) (fun h => ?_) <;> simp -implicitDefEqProofs only [go_sem] <;> simp_all [cmpM] <;> omega
theorem p_compare : Plain Try.prog 93 := ⟨_, Try.func93, rfl, by decide⟩
def firstM (xs : List Int) : Int := (xs.find? (· != 0)).getD 0
theorem s_or (xs : List Int) (hx : xs.length < 1000000) : Spec Try.prog 92 [.t (.list false 1 (xs.map fun n => [T.int .i64 n]))] (fun r => r = I (firstM xs)) := by
  refine Spec.of tysOk mixed Try.func92 rfl (by decide) ?_
  simp -implicitDefEqProofs only [go_sem, Try.f92]
  refine LoopW.slots (α := Nat) (fun i => [(8, I i)]) (fun _ => []) (fun i => xs.length - i) (fun i => i ≤ xs.length ∧ (∀ n ∈ xs.take i, n = 0)) 0 rfl rfl (by simp) ?_
  rintro i ⟨hi, hz⟩
  simp -implicitDefEqProofs only [go_sem]
  refine BrA_i (fun h => ?_) (fun h => ?_)
  · have h : i < xs.length := by simp at h; omega
    simp -implicitDefEqProofs only [go_sem, row_getD _ _ h]
    refine ⟨⟨by omega, by omega⟩, BrA_i (fun h0 => ?_) (fun h0 => ?_)⟩
    rotate_left
    · simp -implicitDefEqProofs only [go_sem]
      have hz' : ∀ n ∈ xs.take i, ¬ ((n != 0) = true) := fun n hn => by simp [hz n hn]
      have : xs = xs.take i ++ xs[i] :: xs.drop (i + 1) := by simp
      have h0 : (xs[i] != 0) = true := by simpa using h0
      have h1 : xs.find? (· != 0) = some xs[i] := by
        rw [List.find?_eq_some_iff_append]
        exact ⟨h0, _, _, this, fun n hn => by simp [hz n hn]⟩
      unfold firstM; rw [h1]; rfl
    · simp -implicitDefEqProofs only [go_sem]
      refine .to [] (i + 1) rfl ?_ rfl (by omega) ⟨h, ?_⟩
      · simp -implicitDefEqProofs only [go_sem, LeTs_undef, LeTs_same]
        simp only [wrap64 (n := (i : Int) + 1) (by omega) (by omega)]
        simp [LeTs]
      · intro n hn
        simp at h0
        rw [List.take_succ_eq_append_getElem h, List.mem_append, List.mem_singleton] at hn
        rcases hn with hn | hn
        · exact hz n hn
        · rw [hn]; exact h0
  · simp -implicitDefEqProofs only [go_sem]
    have h : i = xs.length := by simp at h; omega
    subst h
    have : xs.find? (· != 0) = none := List.find?_eq_none.2 fun n hn => by simp [hz n (by simpa using hn)]
    simp [firstM, this]
theorem p_or : Plain Try.prog 92 := ⟨_, Try.func92, rfl, by decide⟩
theorem find2 (x y : Int) : firstM [x, y] = if x = 0 then y else x := by
  unfold firstM
  by_cases h : x = 0 <;> by_cases h' : y = 0 <;> simp [List.find?_cons, h, h', bne]
  all_goals (split <;> simp_all)
def withinM (n lo hi : Int) : Bool := decide (lo ≤ n) && decide (n ≤ hi)
theorem s_within (n lo hi : Int) : Spec Try.prog 64 [I n, I lo, I hi] (fun r => r = Bo (withinM n lo hi)) := by
  refine Spec.of tysOk mixed Try.func64 rfl (by decide) ?_
  simp -implicitDefEqProofs only [go_sem, Try.f64]
  refine BrA_i (fun h => ?_) (fun h => ?_) <;> simp -implicitDefEqProofs only [go_sem] <;> simp_all [withinM] <;> omega
theorem p_within : Plain Try.prog 64 := ⟨_, Try.func64, rfl, by decide⟩
def keyOkM (b : ByteArray) : Bool := withinM b.size 1 12
theorem s_keyOk (b : ByteArray) : Spec Try.prog 103 [.t (.str b)] (fun r => r = Bo (keyOkM b)) := by
  refine Spec.of tysOk mixed Try.func103 rfl (by decide) ?_
  simp -implicitDefEqProofs only [go_sem, Try.f103]
  refine .one (s_within _ _ _) p_within rfl trivial ?_
  simp -implicitDefEqProofs only [go_sem]
  rfl
theorem p_keyOk : Plain Try.prog 103 := ⟨_, Try.func103, rfl, by decide⟩
end Go.Proofs.Ythbhnjcnbnlidaa.Am
namespace Go.Proofs.Ythbhnjcnbnlidaa.Am
open Go
set_option maxRecDepth 100000
set_option linter.unusedSimpArgs false
set_option linter.unusedVariables false
def allAt {α : Type} (good : α → Bool) (link : α → α → Bool) (xs : List α) : Bool := xs.all good && (xs.zip xs.tail).all fun p => link p.1 p.2
def goodAt {α : Type} (good : α → Bool) (link : α → α → Bool) (xs : List α) (i : Nat) : Bool :=
  match xs[i]? with
  | none => true
  | some x => good x && match i with
    | 0 => true
    | j + 1 => match xs[j]? with
      | none => true
      | some y => link y x
theorem allAt_iff {α : Type} (good : α → Bool) (link : α → α → Bool) (xs : List α) : allAt good link xs = true ↔ ∀ i, i < xs.length → goodAt good link xs i = true := by
  unfold allAt
  rw [Bool.and_eq_true, List.all_eq_true, List.all_eq_true]
  constructor
  · rintro ⟨h1, h2⟩ i hi
    unfold goodAt
    rw [List.getElem?_eq_getElem hi]
    simp only [Bool.and_eq_true]
    refine ⟨h1 _ (List.getElem_mem _), ?_⟩
    cases i with
    | zero => rfl
    | succ j =>
      have hj : j < xs.length := by omega
      simp only [List.getElem?_eq_getElem hj]
      refine h2 (xs[j], xs[j + 1]) ?_
      rw [List.mem_iff_getElem]
      refine ⟨j, by simp; omega, ?_⟩
      simp
  · intro h
    refine ⟨fun x hx => ?_, fun p hp => ?_⟩
    · obtain ⟨i, hi, rfl⟩ := List.mem_iff_getElem.1 hx
      have := h i hi
      unfold goodAt at this
      rw [List.getElem?_eq_getElem hi] at this
      simp only [Bool.and_eq_true] at this
      exact this.1
    · obtain ⟨j, hj, rfl⟩ := List.mem_iff_getElem.1 hp
      simp at hj
      have := h (j + 1) (by omega)
      unfold goodAt at this
      rw [List.getElem?_eq_getElem (show j + 1 < xs.length by omega)] at this
      simp only [Bool.and_eq_true, List.getElem?_eq_getElem (show j < xs.length by omega)] at this
      simpa using this.2
theorem goodAt_0 {α : Type} (good : α → Bool) (link : α → α → Bool) (xs : List α) {i : Nat} (h : i < xs.length) (h0 : i = 0) : goodAt good link xs i = good xs[i] := by
  subst h0
  simp [goodAt, h]
theorem goodAt_s {α : Type} (good : α → Bool) (link : α → α → Bool) (xs : List α) {i : Nat} (h : i < xs.length) (h0 : 0 < i) : goodAt good link xs i = (good xs[i] && link (xs[i - 1]'(by omega)) xs[i]) := by
  obtain ⟨j, rfl⟩ : ∃ j, i = j + 1 := ⟨i - 1, by omega⟩
  have hj : j < xs.length := by omega
  simp [goodAt, h, hj]
theorem goodAt_no {α : Type} (good : α → Bool) (link : α → α → Bool) (xs : List α) {i : Nat} (h : i < xs.length) (hg : good xs[i] = false) : goodAt good link xs i = false := by
  simp [goodAt, h, hg]
theorem p_FieldsOk : Plain Try.prog 106 := ⟨_, Try.func106, rfl, by decide⟩
def prGood (x : Pr) : Bool := decide (x.k.size ≤ 40) && decide (x.v.size ≤ 40)
def prLink (x y : Pr) : Bool := bytesLt x.k y.k
def fieldsOkM (xs : List Pr) : Bool := allAt prGood prLink xs && decide (xs.length ≤ 16)
theorem s_FieldsOk (xs : List Pr) (hx : xs.length < 4611686018427387904) : Spec Try.prog 106 [.t (.list false 2 (xs.map Pr.row))] (fun r => r = Bo (fieldsOkM xs)) := by
  refine Spec.of tysOk mixed Try.func106 rfl (by decide) ?_
  simp -implicitDefEqProofs only [go_sem, Try.f106]
  refine LoopW.slots (α := Nat) (fun i => [(7, I i)]) (fun _ => []) (fun i => xs.length - i) (fun i => i ≤ xs.length ∧ ∀ j, j < i → goodAt prGood prLink xs j = true) 0 rfl rfl (by simp) ?_
  rintro i ⟨hi, hz⟩
  simp -implicitDefEqProofs only [go_sem]
  refine BrA_i (fun h => ?_) (fun h => ?_)
  · have h : i < xs.length := by simp at h; omega
    have hw1 : IntKind.i64.wrap ((i : Int) + 1) = ((i + 1 : Nat) : Int) := by rw [wrap64 (by omega) (by omega)]; omega
    have hp : 0 < i → IntKind.i64.wrap ((i : Int) - 1) = ((i - 1 : Nat) : Int) := fun h0 => by rw [wrap64 (by omega) (by omega)]; omega
    have bad : goodAt prGood prLink xs i = false → AV.t (T.bool false) = Bo (fieldsOkM xs) := fun hg => by
      have : allAt prGood prLink xs = false := by
        cases ha : allAt prGood prLink xs
        · rfl
        · rw [(allAt_iff _ _ _).1 ha i h] at hg; cases hg
      simp [fieldsOkM, this]
    simp -implicitDefEqProofs only [go_sem, row_getD _ _ h, Pr.row]
    refine ⟨⟨by omega, by omega⟩, ?_⟩
    refine RegD_of sch_106_4 tysOk (by kernel_rfl) ?_
    simp -implicitDefEqProofs only [go_sem]
    refine BrA_i (fun h1 => ?_) (fun h1 => ?_) <;> simp -implicitDefEqProofs only [go_sem]
    · exact bad (goodAt_no _ _ _ h (by simp at h1; simp [prGood]; omega))
    refine BrA_i (fun h2 => ?_) (fun h2 => ?_) <;> simp -implicitDefEqProofs only [go_sem]
    · exact bad (goodAt_no _ _ _ h (by simp at h2; simp [prGood]; omega))
    have hg : prGood xs[i] = true := by simp at h1 h2; simp [prGood]; omega
    refine BrA_i (fun h3 => ?_) (fun h3 => ?_) <;> simp -implicitDefEqProofs only [go_sem]
    · have h3 : 0 < i := by simpa using h3
      have hq : i - 1 < xs.length := by omega
      simp -implicitDefEqProofs only [go_sem, hp h3, row_getD _ _ hq, Pr.row]
      refine ⟨⟨by omega, by omega⟩, ?_⟩
      refine BrA_i (fun h4 => ?_) (fun h4 => ?_) <;> simp -implicitDefEqProofs only [go_sem]
      · refine .to [32] (i + 1) rfl ?_ ?_ (by omega) ⟨h, fun j hj => ?_⟩ <;> (try simp -implicitDefEqProofs only [go_sem, LeTs_undef, LeTs_same, LeTs_nil, hw1])
        rcases Nat.lt_succ_iff_lt_or_eq.1 hj with hl | rfl
        · exact hz j hl
        · rw [goodAt_s _ _ _ h h3, hg]; simpa [prLink] using h4
      · exact bad (by rw [goodAt_s _ _ _ h h3]; simp [prLink, h4])
    · have h3 : i = 0 := by simp at h3; omega
      refine .to [32] (i + 1) rfl ?_ ?_ (by omega) ⟨h, fun j hj => ?_⟩ <;> (try simp -implicitDefEqProofs only [go_sem, LeTs_undef, LeTs_same, LeTs_nil, hw1])
      rcases Nat.lt_succ_iff_lt_or_eq.1 hj with hl | rfl
      · exact hz j hl
      · rw [goodAt_0 _ _ _ h h3, hg]
  · simp -implicitDefEqProofs only [go_sem]
    have h : i = xs.length := by simp at h; omega
    subst h
    have : allAt prGood prLink xs = true := (allAt_iff _ _ _).2 hz
    simp [fieldsOkM, this]
    omega
theorem p_sFieldsOk : Plain Try.prog 100 := ⟨_, Try.func100, rfl, by decide⟩
theorem s_sFieldsOk (xs : List Pr) (hx : xs.length < 4611686018427387904) : Spec Try.prog 100 [.t (.list false 2 (xs.map Pr.row))] (fun r => r = Bo (fieldsOkM xs)) := by
  refine Spec.of tysOk mixed Try.func100 rfl (by decide) ?_
  simp -implicitDefEqProofs only [go_sem, Try.f100]
  refine LoopW.slots (α := Nat) (fun i => [(3, I i)]) (fun _ => []) (fun i => xs.length - i) (fun i => i ≤ xs.length ∧ ∀ j, j < i → goodAt prGood prLink xs j = true) 0 rfl rfl (by simp) ?_
  rintro i ⟨hi, hz⟩
  simp -implicitDefEqProofs only [go_sem]
  refine BrA_i (fun h => ?_) (fun h => ?_)
  · have h : i < xs.length := by simp at h; omega
    have hw1 : IntKind.i64.wrap ((i : Int) + 1) = ((i + 1 : Nat) : Int) := by rw [wrap64 (by omega) (by omega)]; omega
    have hp : 0 < i → IntKind.i64.wrap ((i : Int) - 1) = ((i - 1 : Nat) : Int) := fun h0 => by rw [wrap64 (by omega) (by omega)]; omega
    have bad : goodAt prGood prLink xs i = false → AV.t (T.bool false) = Bo (fieldsOkM xs) := fun hg => by
      have : allAt prGood prLink xs = false := by
        cases ha : allAt prGood prLink xs
        · rfl
        · rw [(allAt_iff _ _ _).1 ha i h] at hg; cases hg
      simp [fieldsOkM, this]
    simp -implicitDefEqProofs only [go_sem]
    refine RegD_of sch_100_4 tysOk (by kernel_rfl) ?_
    simp -implicitDefEqProofs only [go_sem, row_getD _ _ h, Pr.row]
    refine ⟨⟨by omega, by omega⟩, ?_⟩
    refine BrA_i (fun h1 => ?_) (fun h1 => ?_) <;> simp -implicitDefEqProofs only [go_sem]
    · exact bad (goodAt_no _ _ _ h (by simp at h1; simp [prGood]; omega))
    simp -implicitDefEqProofs only [go_sem, row_getD _ _ h, Pr.row]
    refine ⟨⟨by omega, by omega⟩, ?_⟩
    refine BrA_i (fun h2 => ?_) (fun h2 => ?_) <;> simp -implicitDefEqProofs only [go_sem]
    · exact bad (goodAt_no _ _ _ h (by simp at h2; simp [prGood]; omega))
    have hg : prGood xs[i] = true := by simp at h1 h2; simp [prGood]; omega
    refine BrA_i (fun h3 => ?_) (fun h3 => ?_) <;> simp -implicitDefEqProofs only [go_sem]
    · have h3 : 0 < i := by simpa using h3
      have hq : i - 1 < xs.length := by omega
      simp -implicitDefEqProofs only [go_sem, hp h3, row_getD _ _ hq, Pr.row]
      refine ⟨⟨by omega, by omega⟩, ?_⟩
      simp -implicitDefEqProofs only [go_sem, row_getD _ _ h, Pr.row]
      refine ⟨⟨by omega, by omega⟩, ?_⟩
      refine BrA_i (fun h4 => ?_) (fun h4 => ?_) <;> simp -implicitDefEqProofs only [go_sem]
      · refine .to [] (i + 1) rfl ?_ ?_ (by omega) ⟨h, fun j hj => ?_⟩ <;> (try simp -implicitDefEqProofs only [go_sem, LeTs_undef, LeTs_same, LeTs_nil, hw1])
        rcases Nat.lt_succ_iff_lt_or_eq.1 hj with hl | rfl
        · exact hz j hl
        · rw [goodAt_s _ _ _ h h3, hg]; simpa [prLink] using h4
      · exact bad (by rw [goodAt_s _ _ _ h h3]; simp [prLink, h4])
    · have h3 : i = 0 := by simp at h3; omega
      refine .to [] (i + 1) rfl ?_ ?_ (by omega) ⟨h, fun j hj => ?_⟩ <;> (try simp -implicitDefEqProofs only [go_sem, LeTs_undef, LeTs_same, LeTs_nil, hw1])
      rcases Nat.lt_succ_iff_lt_or_eq.1 hj with hl | rfl
      · exact hz j hl
      · rw [goodAt_0 _ _ _ h h3, hg]
  · simp -implicitDefEqProofs only [go_sem]
    have h : i = xs.length := by simp at h; omega
    subst h
    have : allAt prGood prLink xs = true := (allAt_iff _ _ _).2 hz
    simp [fieldsOkM, this]
    omega
end Go.Proofs.Ythbhnjcnbnlidaa.Am
namespace Go.Proofs.Ythbhnjcnbnlidaa.Am
open Go
set_option linter.unusedSimpArgs false
set_option linter.unusedVariables false
theorem bl_irrefl : ∀ x : List UInt8, Op.bytesLess x x = false
  | [] => rfl
  | a :: x => by simp [Op.bytesLess, bl_irrefl x]
theorem bl_trans : ∀ {x y z : List UInt8}, Op.bytesLess x y = true → Op.bytesLess y z = true → Op.bytesLess x z = true
  | _, [], _, h, _ => by simp [Op.bytesLess] at h
  | _, _ :: _, [], _, h => by simp [Op.bytesLess] at h
  | [], _ :: _, _ :: _, _, _ => rfl
  | a :: x, b :: y, c :: z, h, h' => by
    simp only [Op.bytesLess, Bool.or_eq_true, Bool.and_eq_true, decide_eq_true_eq, beq_iff_eq] at h h' ⊢
    rcases h with h | ⟨rfl, h⟩
    · rcases h' with h' | ⟨rfl, h'⟩
      · exact .inl (UInt8.lt_trans h h')
      · exact .inl h
    · rcases h' with h' | ⟨rfl, h'⟩
      · exact .inl h'
      · exact .inr ⟨rfl, bl_trans h h'⟩
theorem bl_total : ∀ {x y : List UInt8}, x ≠ y → Op.bytesLess x y = false → Op.bytesLess y x = true
  | [], [], h, _ => absurd rfl h
  | [], _ :: _, _, h => by simp [Op.bytesLess] at h
  | _ :: _, [], _, _ => rfl
  | a :: x, b :: y, h, h' => by
    simp only [Op.bytesLess, Bool.or_eq_false_iff, Bool.and_eq_false_iff, decide_eq_false_iff_not, beq_eq_false_iff_ne, ne_eq] at h'
    simp only [Op.bytesLess, Bool.or_eq_true, Bool.and_eq_true, decide_eq_true_eq, beq_iff_eq]
    obtain ⟨h1, h2⟩ := h'
    by_cases e : a = b
    · subst e
      refine .inr ⟨rfl, bl_total (fun e => h (by rw [e])) (by simpa using h2)⟩
    · have hne : a.toNat ≠ b.toNat := fun h => e (UInt8.toNat_inj.1 h)
      have h3 : a.toNat < b.toNat ∨ b.toNat < a.toNat := by omega
      rcases h3 with h3 | h3
      · exact absurd (UInt8.lt_iff_toNat_lt.2 h3) h1
      · exact .inl (UInt8.lt_iff_toNat_lt.2 h3)
theorem bytesLt_irrefl (a : ByteArray) : bytesLt a a = false := bl_irrefl _
theorem bytesLt_trans {a b c : ByteArray} (h : bytesLt a b = true) (h' : bytesLt b c = true) : bytesLt a c = true := bl_trans h h'
theorem bytesLt_total {a b : ByteArray} (h : a ≠ b) (h' : bytesLt a b = false) : bytesLt b a = true := by
  refine bl_total (fun e => h ?_) h'
  have := bytesEq_iff a b
  unfold bytesEq at this
  rw [e] at this
  simpa using this
end Go.Proofs.Ythbhnjcnbnlidaa.Am
namespace Go.Proofs.Ythbhnjcnbnlidaa.Am
open Go
set_option maxRecDepth 100000
set_option maxHeartbeats 1000000
set_option linter.unusedSimpArgs false
set_option linter.unusedVariables false
def cmpS (a b : ByteArray) : Int := if bytesLt a b = true then -1 else if a = b then 0 else 1
theorem cmpS_lt (a b : ByteArray) : decide (cmpS a b < 0) = bytesLt a b := by
  unfold cmpS
  cases h : bytesLt a b
  · by_cases e : a = b <;> simp [e]
  · simp
theorem p_isNaNS : Plain Try.prog 126 := ⟨_, Try.func126, rfl, by decide⟩
theorem s_isNaNS (n : ByteArray) : Spec Try.prog 126 [.t (.str n)] (fun r => r = Bo false) := by
  refine Spec.of tysOk mixed Try.func126 rfl (by decide) ?_
  simp -implicitDefEqProofs only [go_sem, Try.f126]
theorem p_compareS : Plain Try.prog 94 := ⟨_, Try.func94, rfl, by decide⟩
theorem s_compareS (a b : ByteArray) : Spec Try.prog 94 [.t (.str a), .t (.str b)] (fun r => r = I (cmpS a b)) := by
  refine Spec.of tysOk mixed Try.func94 rfl (by decide) ?_
  simp -implicitDefEqProofs only [go_sem, Try.f94]
  refine .one (s_isNaNS _) p_isNaNS rfl trivial ?_
  simp -implicitDefEqProofs only [go_sem]
  refine .one (s_isNaNS _) p_isNaNS rfl trivial ?_
  simp -implicitDefEqProofs only [go_sem]
  refine BrA_i (fun h => ?_) (fun h => ?_)
  · simp -implicitDefEqProofs only [go_sem]; simp [cmpS, h]
  · simp -implicitDefEqProofs only [go_sem]
    refine BrA_i (fun h2 => ?_) (fun h2 => ?_) <;> simp -implicitDefEqProofs only [go_sem] <;> simp_all [cmpS]
theorem cmpS_pos {a b : ByteArray} (h : 0 < cmpS a b) : bytesLt b a = true := by
  unfold cmpS at h
  cases h1 : bytesLt a b
  · rw [h1] at h
    by_cases e : a = b
    · simp [e] at h
    · exact bytesLt_total e h1
  · rw [h1] at h; simp at h
end Go.Proofs.Ythbhnjcnbnlidaa.Am
namespace Go.Proofs.Ythbhnjcnbnlidaa.Am
open Go
set_option maxRecDepth 100000
set_option linter.unusedSimpArgs false
set_option linter.unusedVariables false
def Idt.row (x : Idt) : List T := [.int .i64 x.t, .int .i64 x.n]
def lG {α : Type} (G : α → Prop) (xs : List α) : Prop := xs.length ≤ 140737488351232 ∧ ∀ x ∈ xs, G x
def Pr.G (x : Pr) : Prop := x.k.size ≤ 140737488351232 ∧ x.v.size ≤ 140737488351232
def It.G (x : It) : Prop := lG Pr.G x.fields
def Wt.G (x : Wt) : Prop := x.who.size ≤ 140737488351232
def Gr.G (x : Gr) : Prop := x.name.size ≤ 140737488351232 ∧ lG Wt.G x.waits
def Stm.G (x : Stm) : Prop := lG It.G x.items ∧ lG Gr.G x.groups
theorem p_szPair : Plain Try.prog 127 := ⟨_, Try.func127, rfl, by decide⟩
theorem s_szPair (x : Pr) (n : Int) (h0 : 0 ≤ n) (h1 : n ≤ 1048576) (hs : x.G) : Spec Try.prog 127 [x.av, I n] (fun r => r = I (cutM n x.w)) := by
  have hk : x.w = x.k.size + x.v.size := rfl
  obtain ⟨q0, q1⟩ := hs
  refine Spec.of tysOk mixed Try.func127 rfl (by decide) ?_
  simp -implicitDefEqProofs only [go_sem, Try.f127]
  have w0 : IntKind.i64.wrap (n - ((x.k.size : Nat) : Int)) = n - ((x.k.size : Nat) : Int) := wrap64 (by omega) (by omega)
  simp -implicitDefEqProofs only [go_sem, w0]
  refine BrA_i (fun g0 => ?_) (fun g0 => ?_) <;> simp -implicitDefEqProofs only [go_sem]
  · have : n < x.w := by simp at g0; omega
    simp [cutM, this]
  have g0 : 0 ≤ n - ((x.k.size : Nat) : Int) := by simp at g0; omega
  have w1 : IntKind.i64.wrap (n - ((x.k.size : Nat) : Int) - ((x.v.size : Nat) : Int)) = n - ((x.k.size : Nat) : Int) - ((x.v.size : Nat) : Int) := wrap64 (by omega) (by omega)
  simp -implicitDefEqProofs only [go_sem, w1]
  refine BrA_i (fun g1 => ?_) (fun g1 => ?_) <;> simp -implicitDefEqProofs only [go_sem]
  · have : n < x.w := by simp at g1; omega
    simp [cutM, this]
  have g1 : 0 ≤ n - ((x.k.size : Nat) : Int) - ((x.v.size : Nat) : Int) := by simp at g1; omega
  have : ¬ n < x.w := by omega
  simp only [cutM, this, if_false]
  congr 2
  all_goals omega
theorem p_szPairS : Plain Try.prog 96 := ⟨_, Try.func96, rfl, by decide⟩
theorem s_szPairS (xs : List Pr) (n : Int) (h0 : 0 ≤ n) (h1 : n ≤ 1048576) (hs : lG Pr.G xs) : Spec Try.prog 96 [.t (.list false 2 (xs.map Pr.row)), I n] (fun r => r = I (cutM n (wAll Pr.w xs))) := by
  have hk : wAll Pr.w xs = xs.length + wSum Pr.w xs := rfl
  obtain ⟨hs, hsG⟩ := hs
  refine Spec.of tysOk mixed Try.func96 rfl (by decide) ?_
  have w1 : IntKind.i64.wrap (n - (xs.length : Int)) = n - xs.length := wrap64 (by omega) (by omega)
  simp -implicitDefEqProofs only [go_sem, Try.f96, w1]
  refine BrA_i (fun h2 => ?_) (fun h2 => ?_) <;> simp -implicitDefEqProofs only [go_sem]
  · simp at h2
    have : n < wAll Pr.w xs := by omega
    simp [cutM, this]
  · simp at h2
    refine LoopW.slots (α := Nat) (fun i => [(5, I i), (1, I (n - xs.length - wSum Pr.w (xs.take i)))]) (fun _ => []) (fun i => xs.length - i) (fun i => i ≤ xs.length ∧ 0 ≤ n - xs.length - wSum Pr.w (xs.take i)) 0 (by simp -implicitDefEqProofs only [go_sem]; simp [wSum]) rfl (by simp [wSum]; omega) ?_
    rintro i ⟨hi, hz⟩
    simp -implicitDefEqProofs only [go_sem]
    refine BrA_i (fun h => ?_) (fun h => ?_)
    · have h : i < xs.length := by simp at h; omega
      have hw1 : IntKind.i64.wrap ((i : Int) + 1) = ((i + 1 : Nat) : Int) := by rw [wrap64 (by omega) (by omega)]; omega
      have e1 := wSum_take Pr.w xs h
      have e2 := wSum_le Pr.w xs (i + 1)
      simp -implicitDefEqProofs only [go_sem, row_getD _ _ h, Pr.row]
      refine ⟨⟨by omega, by omega⟩, ?_⟩
      refine .one (s_szPair xs[i] _ hz (by omega) (hsG _ (List.getElem_mem h))) p_szPair (by simp -implicitDefEqProofs only [go_sem]) trivial ?_
      simp -implicitDefEqProofs only [go_sem]
      refine BrA_i (fun h3 => ?_) (fun h3 => ?_) <;> simp -implicitDefEqProofs only [go_sem]
      · have h3 : n - xs.length - wSum Pr.w (xs.take i) < xs[i].w := (cutM_lt _ _).1 (by simpa using h3)
        have : n < wAll Pr.w xs := by omega
        simp [cutM, this]
      · have h3 : ¬ n - xs.length - wSum Pr.w (xs.take i) < xs[i].w := fun hh => by simp [(cutM_lt _ _).2 hh] at h3
        refine .to [] (i + 1) rfl ?_ ?_ (by omega) ⟨h, by omega⟩ <;> (try simp -implicitDefEqProofs only [go_sem, LeTs_undef, LeTs_same, LeTs_nil, hw1, cutM_ge h3, e1])
        refine LeTs_cons _ _ _ _ ?_ ?_
        · congr 2; omega
        · simp -implicitDefEqProofs only [go_sem, LeTs_undef, LeTs_same, LeTs_nil]
    · simp -implicitDefEqProofs only [go_sem]
      have h : i = xs.length := by simp at h; omega
      subst h
      rw [List.take_length] at hz ⊢
      have : ¬ n < wAll Pr.w xs := by omega
      simp only [cutM, this, if_false]
      congr 2
      omega
end Go.Proofs.Ythbhnjcnbnlidaa.Am
namespace Go.Proofs.Ythbhnjcnbnlidaa.Am
open Go
set_option maxRecDepth 100000
set_option linter.unusedSimpArgs false
set_option linter.unusedVariables false
abbrev Tx := ByteArray
abbrev Or := List Tx
def Tx.row (x : Tx) : List T := [.str x]
def Tx.w (x : Tx) : Nat := x.size
def Or.row (x : Or) : List T := [.list false 1 (x.map Tx.row)]
def Or.rowO (x : Or) : List T := [.list true 1 (x.map Tx.row)]
def Or.w (x : Or) : Nat := wAll Tx.w x
def Tx.G (x : Tx) : Prop := x.size ≤ 140737488351232
def Or.G (x : Or) : Prop := lG Tx.G x
@[ext] structure Sc where
  text : ByteArray
  num : Int
deriving DecidableEq
@[ext] structure En where
  key : ByteArray
  till : Int
  kind : Int
  text : ByteArray
  list : List Tx
  scores : List Sc
  fields : List Pr
deriving DecidableEq
@[ext] structure Bs where
  now : Int
  ents : List En
deriving DecidableEq
@[ext] structure Cl where
  multi : Bool
  wrong : Bool
  queue : List Or
  watch : List Tx
  touch : Bool
  hears : List Tx
deriving DecidableEq
@[ext] structure Sv where
  base : Bs
  file : ByteArray
  cls : List Cl
deriving DecidableEq
@[ext] structure Ld where
  srv : Sv
  hist : Int
deriving DecidableEq
@[ext] structure Fo where
  hist : Int
  text : ByteArray
  base : Bs
deriving DecidableEq
@[ext] structure Pac where
  full : Bool
  hist : Int
  pos : Int
  text : ByteArray
  now : Int
deriving DecidableEq
def Sc.row (x : Sc) : List T := [.str x.text, .int .i64 x.num]
abbrev Sc.av (x : Sc) : AV := .agg [.t (.str x.text), I x.num]
def Sc.w (x : Sc) : Nat := x.text.size
def Sc.G (x : Sc) : Prop := x.text.size ≤ 140737488351232
def En.row (x : En) : List T := [.str x.key, .int .i64 x.till, .int .i64 x.kind, .str x.text, .list false 1 (x.list.map Tx.row), .list false 2 (x.scores.map Sc.row), .list false 2 (x.fields.map Pr.row)]
def En.rowO (x : En) : List T := [.str x.key, .int .i64 x.till, .int .i64 x.kind, .str x.text, .list true 1 (x.list.map Tx.row), .list true 2 (x.scores.map Sc.row), .list true 2 (x.fields.map Pr.row)]
abbrev En.av (x : En) : AV := .agg [.t (.str x.key), I x.till, I x.kind, .t (.str x.text), .t (.list false 1 (x.list.map Tx.row)), .t (.list false 2 (x.scores.map Sc.row)), .t (.list false 2 (x.fields.map Pr.row))]
abbrev En.avO (x : En) : AV := .agg [.t (.str x.key), I x.till, I x.kind, .t (.str x.text), .own (.list true 1 (x.list.map Tx.row)), .own (.list true 2 (x.scores.map Sc.row)), .own (.list true 2 (x.fields.map Pr.row))]
def En.w (x : En) : Nat := x.key.size + x.text.size + wAll Tx.w x.list + wAll Sc.w x.scores + wAll Pr.w x.fields
def En.G (x : En) : Prop := x.key.size ≤ 140737488351232 ∧ x.text.size ≤ 140737488351232 ∧ lG Tx.G x.list ∧ lG Sc.G x.scores ∧ lG Pr.G x.fields
def Bs.row (x : Bs) : List T := [.int .i64 x.now, .list false 7 (x.ents.map En.row)]
def Bs.rowO (x : Bs) : List T := [.int .i64 x.now, .list true 7 (x.ents.map En.rowO)]
abbrev Bs.av (x : Bs) : AV := .agg [I x.now, .t (.list false 7 (x.ents.map En.row))]
abbrev Bs.avO (x : Bs) : AV := .agg [I x.now, .own (.list true 7 (x.ents.map En.rowO))]
def Bs.w (x : Bs) : Nat := wAll En.w x.ents
def Bs.G (x : Bs) : Prop := lG En.G x.ents
def Cl.row (x : Cl) : List T := [.bool x.multi, .bool x.wrong, .list false 1 (x.queue.map Or.row), .list false 1 (x.watch.map Tx.row), .bool x.touch, .list false 1 (x.hears.map Tx.row)]
def Cl.rowO (x : Cl) : List T := [.bool x.multi, .bool x.wrong, .list true 1 (x.queue.map Or.rowO), .list true 1 (x.watch.map Tx.row), .bool x.touch, .list true 1 (x.hears.map Tx.row)]
abbrev Cl.av (x : Cl) : AV := .agg [Bo x.multi, Bo x.wrong, .t (.list false 1 (x.queue.map Or.row)), .t (.list false 1 (x.watch.map Tx.row)), Bo x.touch, .t (.list false 1 (x.hears.map Tx.row))]
abbrev Cl.avO (x : Cl) : AV := .agg [Bo x.multi, Bo x.wrong, .own (.list true 1 (x.queue.map Or.rowO)), .own (.list true 1 (x.watch.map Tx.row)), Bo x.touch, .own (.list true 1 (x.hears.map Tx.row))]
def Cl.w (x : Cl) : Nat := wAll Or.w x.queue + wAll Tx.w x.watch + wAll Tx.w x.hears
def Cl.G (x : Cl) : Prop := lG Or.G x.queue ∧ lG Tx.G x.watch ∧ lG Tx.G x.hears
def Sv.row (x : Sv) : List T := [.int .i64 x.base.now, .list false 7 (x.base.ents.map En.row), .str x.file, .list false 6 (x.cls.map Cl.row)]
def Sv.rowO (x : Sv) : List T := [.int .i64 x.base.now, .list true 7 (x.base.ents.map En.rowO), .str x.file, .list true 6 (x.cls.map Cl.rowO)]
abbrev Sv.av (x : Sv) : AV := .agg [I x.base.now, .t (.list false 7 (x.base.ents.map En.row)), .t (.str x.file), .t (.list false 6 (x.cls.map Cl.row))]
abbrev Sv.avO (x : Sv) : AV := .agg [I x.base.now, .own (.list true 7 (x.base.ents.map En.rowO)), .t (.str x.file), .own (.list true 6 (x.cls.map Cl.rowO))]
def Sv.w (x : Sv) : Nat := Bs.w x.base + x.file.size + wAll Cl.w x.cls
def Sv.G (x : Sv) : Prop := Bs.G x.base ∧ x.file.size ≤ 140737488351232 ∧ lG Cl.G x.cls
def Ld.row (x : Ld) : List T := [.int .i64 x.srv.base.now, .list false 7 (x.srv.base.ents.map En.row), .str x.srv.file, .list false 6 (x.srv.cls.map Cl.row), .int .i64 x.hist]
def Ld.rowO (x : Ld) : List T := [.int .i64 x.srv.base.now, .list true 7 (x.srv.base.ents.map En.rowO), .str x.srv.file, .list true 6 (x.srv.cls.map Cl.rowO), .int .i64 x.hist]
abbrev Ld.av (x : Ld) : AV := .agg [I x.srv.base.now, .t (.list false 7 (x.srv.base.ents.map En.row)), .t (.str x.srv.file), .t (.list false 6 (x.srv.cls.map Cl.row)), I x.hist]
abbrev Ld.avO (x : Ld) : AV := .agg [I x.srv.base.now, .own (.list true 7 (x.srv.base.ents.map En.rowO)), .t (.str x.srv.file), .own (.list true 6 (x.srv.cls.map Cl.rowO)), I x.hist]
def Ld.w (x : Ld) : Nat := Sv.w x.srv
def Ld.G (x : Ld) : Prop := Sv.G x.srv
def Fo.row (x : Fo) : List T := [.int .i64 x.hist, .str x.text, .int .i64 x.base.now, .list false 7 (x.base.ents.map En.row)]
def Fo.rowO (x : Fo) : List T := [.int .i64 x.hist, .str x.text, .int .i64 x.base.now, .list true 7 (x.base.ents.map En.rowO)]
abbrev Fo.av (x : Fo) : AV := .agg [I x.hist, .t (.str x.text), I x.base.now, .t (.list false 7 (x.base.ents.map En.row))]
abbrev Fo.avO (x : Fo) : AV := .agg [I x.hist, .t (.str x.text), I x.base.now, .own (.list true 7 (x.base.ents.map En.rowO))]
def Fo.w (x : Fo) : Nat := x.text.size + Bs.w x.base
def Fo.G (x : Fo) : Prop := x.text.size ≤ 140737488351232 ∧ Bs.G x.base
def Pac.row (x : Pac) : List T := [.bool x.full, .int .i64 x.hist, .int .i64 x.pos, .str x.text, .int .i64 x.now]
abbrev Pac.av (x : Pac) : AV := .agg [Bo x.full, I x.hist, I x.pos, .t (.str x.text), I x.now]
def Pac.w (x : Pac) : Nat := x.text.size
def Pac.G (x : Pac) : Prop := x.text.size ≤ 140737488351232
def Or.sm (x : Or) : Prop := x.length < 4611686018427387904
def Or.md (x : Or) : Prop := x.length ≤ 1048576
def En.sm (x : En) : Prop := x.list.length < 4611686018427387904 ∧ x.scores.length < 4611686018427387904 ∧ x.fields.length < 4611686018427387904
def En.md (x : En) : Prop := x.list.length ≤ 1048576 ∧ x.scores.length ≤ 1048576 ∧ x.fields.length ≤ 1048576
def Bs.sm (x : Bs) : Prop := x.ents.length < 4611686018427387904 ∧ (∀ y ∈ x.ents, En.sm y)
def Bs.md (x : Bs) : Prop := x.ents.length ≤ 1048576 ∧ (∀ y ∈ x.ents, En.md y)
def Cl.sm (x : Cl) : Prop := x.queue.length < 4611686018427387904 ∧ (∀ y ∈ x.queue, Or.sm y) ∧ x.watch.length < 4611686018427387904 ∧ x.hears.length < 4611686018427387904
def Cl.md (x : Cl) : Prop := x.queue.length ≤ 1048576 ∧ (∀ y ∈ x.queue, Or.md y) ∧ x.watch.length ≤ 1048576 ∧ x.hears.length ≤ 1048576
def Sv.sm (x : Sv) : Prop := Bs.sm x.base ∧ x.cls.length < 4611686018427387904 ∧ (∀ y ∈ x.cls, Cl.sm y)
def Sv.md (x : Sv) : Prop := Bs.md x.base ∧ x.cls.length ≤ 1048576 ∧ (∀ y ∈ x.cls, Cl.md y)
def Ld.sm (x : Ld) : Prop := Sv.sm x.srv
def Ld.md (x : Ld) : Prop := Sv.md x.srv
def Fo.sm (x : Fo) : Prop := Bs.sm x.base
def Fo.md (x : Fo) : Prop := Bs.md x.base
theorem Tx.mk_rows (l : List Tx) : (l.map Tx.row).map (List.map (T.mk false)) = l.map Tx.row := Am.mk_rows _ (fun _ => rfl) l
theorem Or.mk_rows (l : List Or) : (l.map Or.row).map (List.map (T.mk false)) = l.map Or.row := Am.mk_rows _ (fun x => by simp only [Or.row, List.map_cons, List.map_nil, T.mk_list, T.mk_int, T.mk_str, T.mk_bool, Pr.mk_rows, Tx.mk_rows]) l
theorem Or.mk_rowsO (l : List Or) : (l.map Or.rowO).map (List.map (T.mk false)) = l.map Or.row := by
  rw [List.map_map]; exact List.map_congr_left fun x _ => by simp only [Function.comp, Or.rowO, Or.row, List.map_cons, List.map_nil, T.mk_list, T.mk_int, T.mk_str, T.mk_bool, Pr.mk_rows, Tx.mk_rows]
theorem Sc.mk_rows (l : List Sc) : (l.map Sc.row).map (List.map (T.mk false)) = l.map Sc.row := Am.mk_rows _ (fun x => by simp only [Sc.row, List.map_cons, List.map_nil, T.mk_list, T.mk_int, T.mk_str, T.mk_bool, Pr.mk_rows, Tx.mk_rows, Or.mk_rows]) l
theorem En.mk_rows (l : List En) : (l.map En.row).map (List.map (T.mk false)) = l.map En.row := Am.mk_rows _ (fun x => by simp only [En.row, List.map_cons, List.map_nil, T.mk_list, T.mk_int, T.mk_str, T.mk_bool, Pr.mk_rows, Tx.mk_rows, Or.mk_rows, Sc.mk_rows]) l
theorem En.mk_rowsO (l : List En) : (l.map En.rowO).map (List.map (T.mk false)) = l.map En.row := by
  rw [List.map_map]; exact List.map_congr_left fun x _ => by simp only [Function.comp, En.rowO, En.row, List.map_cons, List.map_nil, T.mk_list, T.mk_int, T.mk_str, T.mk_bool, Pr.mk_rows, Tx.mk_rows, Or.mk_rows, Sc.mk_rows, Or.mk_rowsO]
theorem Cl.mk_rows (l : List Cl) : (l.map Cl.row).map (List.map (T.mk false)) = l.map Cl.row := Am.mk_rows _ (fun x => by simp only [Cl.row, List.map_cons, List.map_nil, T.mk_list, T.mk_int, T.mk_str, T.mk_bool, Pr.mk_rows, Tx.mk_rows, Or.mk_rows, Sc.mk_rows, En.mk_rows]) l
theorem Cl.mk_rowsO (l : List Cl) : (l.map Cl.rowO).map (List.map (T.mk false)) = l.map Cl.row := by
  rw [List.map_map]; exact List.map_congr_left fun x _ => by simp only [Function.comp, Cl.rowO, Cl.row, List.map_cons, List.map_nil, T.mk_list, T.mk_int, T.mk_str, T.mk_bool, Pr.mk_rows, Tx.mk_rows, Or.mk_rows, Sc.mk_rows, En.mk_rows, Or.mk_rowsO, En.mk_rowsO]
attribute [go_sem] Tx.mk_rows Or.mk_rows Or.mk_rowsO Sc.mk_rows En.mk_rows En.mk_rowsO Cl.mk_rows Cl.mk_rowsO
end Go.Proofs.Ythbhnjcnbnlidaa.Am
namespace Go.Proofs.Ythbhnjcnbnlidaa.Am
open Go
set_option linter.unusedVariables false
def mkC : AV → AV
  | .t x => .t (x.mk false)
  | x => x
def mkCs : List AV → List AV
  | [] => []
  | x :: l => mkC x :: mkCs l
def mkV : AV → AV
  | .agg cs => .agg (mkCs cs)
  | x => mkC x
def mkVs : List AV → List AV
  | [] => []
  | x :: l => mkV x :: mkVs l
def mkR : AV → AV
  | .tup l => .tup (mkVs l)
  | x => mkV x
theorem ResC.mk {c : Cx} {col : Col} {i j : Nat} {x : AV} {v : Value} (h : ResC c col i j x v) : ResC c col i j (mkC x) v := by
  cases x <;> first | exact Rd.mk false h | exact h
theorem ResCs.mk {c : Cx} {col : Col} {i : Nat} : ∀ {xs : List AV} {vs : List Value} {j : Nat}, ResCs c col i j xs vs → ResCs c col i j (mkCs xs) vs
  | [], [], _, _ => trivial
  | x :: xs, v :: vs, j, h => ⟨ResC.mk h.1, ResCs.mk h.2⟩
  | [], _ :: _, _, h => h.elim
  | _ :: _, [], _, h => h.elim
theorem ResV.mk {c : Cx} {col : Col} {i : Nat} {x : AV} {v : Value} (h : ResV c col i x v) : ResV c col i (mkV x) v := by
  cases x with
  | agg cs => obtain ⟨vs, e, h⟩ := h; exact ⟨vs, e, ResCs.mk h⟩
  | t y => exact ResC.mk (c := c) (col := col) (i := i) (j := 0) (x := .t y) h
  | _ => exact h
theorem ResVs.mk {c : Cx} {col : Col} : ∀ {xs : List AV} {vs : List Value} {i : Nat}, ResVs c col i xs vs → ResVs c col i (mkVs xs) vs
  | [], [], _, _ => trivial
  | x :: xs, v :: vs, i, h => ⟨ResV.mk h.1, ResVs.mk h.2⟩
  | [], _ :: _, _, h => h.elim
  | _ :: _, [], _, h => h.elim
theorem ResR.mk {c : Cx} {col : Col} {r : AV} {v : Value} (h : ResR c col r v) : ResR c col (mkR r) v := by
  cases r with
  | tup xs => obtain ⟨vs, e, h⟩ := h; exact ⟨vs, e, ResVs.mk h⟩
  | agg cs => exact ResV.mk (c := c) (col := col) (i := 0) (x := .agg cs) h
  | t y => exact ResV.mk (c := c) (col := col) (i := 0) (x := .t y) h
  | _ => exact h
theorem Spec.mkR {P : Program} {f : FuncId} {args : List AV} {Q : AV → Prop} (h : Spec P f args Q) : Spec P f args (fun r => ∃ r0, Q r0 ∧ r = Am.mkR r0) := fun w D vs hD hv => (h w D vs hD hv).mono fun e w' ⟨v, r, he, hq, hs, col, hc, hr⟩ =>
  ⟨v, Am.mkR r, he, ⟨r, hq, rfl⟩, hs, col, hc, hr.mk⟩
theorem LeS.freeze {s s' : St} {k : Nat} (h : s.freeze k = some s') : LeS s s' := fun B a w ⟨ρ, col, hs⟩ => by
  obtain ⟨sz, rs, hk, hn, hp, rfl⟩ := freeze_some h
  exact ⟨_, _, (hs.freeze hk hn hp).1⟩
theorem LeS.freezes : ∀ {ks : List Nat} {s s' : St}, s.freezes ks = some s' → LeS s s'
  | [], s, s', h => by simp [St.freezes] at h; subst h; exact LeS.refl _
  | k :: ks, s, s', h => by
    simp only [St.freezes, Option.bind_eq_some_iff] at h
    obtain ⟨s1, h1, h2⟩ := h
    exact (LeS.freeze h1).trans (LeS.freezes h2)
theorem LeS.rfz {s s' : St} {k : Nat} (h : s.rfz k = some s') : LeS s s' := fun B a w ⟨ρ, col, hs⟩ => by
  obtain ⟨sz, rs, hk, hn, hp, rfl⟩ := rfz_some h
  exact ⟨_, _, (hs.rfz hk hn hp).1⟩
theorem LoopW.fz {body : (Exit → St → Prop) → St → Prop} {K : Exit → St → Prop} {s s0 : St} (ks : List Nat) (h : s.freezes ks = some s0) (hl : LoopW body K s0) : LoopW body K s := hl.le (LeS.freezes h)
attribute [go_sem] mkC mkCs mkV mkVs mkR
end Go.Proofs.Ythbhnjcnbnlidaa.Am
namespace Go.Proofs.Ythbhnjcnbnlidaa.Am
open Go Go.Sort
set_option linter.unusedVariables false
set_option linter.unusedSimpArgs false
structure El (sz : Nat) (typed : List T → List Value → Prop) where
  row : List T
  val : List Value
  rl : row.length = sz
  vl : val.length = sz
  one : ∀ v ∈ val, v.oneCell' = true
  ty : typed row val
structure RawSort (P : Program) (f g : FuncId) (sz : Nat) (typed : List T → List Value → Prop) (cf : List T → List T → Int) : Prop where
  nil : ∀ (w : World) (a : Option Addr) (cap : Nat), Calls P f #[.slice a 0 cap, .func (.func g) #[] #[]] w fun e w' => e = .returned (.tuple #[]) ∧ w' = w
  row : ∀ [Inhabited (El sz typed)] (w : World) (b cap : Nat) (d : Array (El sz typed)), HoldsK El.val sz w b 0 d → b < w.heap.size → d.size < 4611686018427387904 →
    Calls P f #[.slice (some ⟨b, 0, none⟩) d.size cap, .func (.func g) #[] #[]] w fun e w' => e = .returned (.tuple #[]) ∧ ∃ d' n os, PermIn 0 d.size d d' ∧ SortedIn (ltOf fun x y : El sz typed => cf x.row y.row) 0 d.size d' ∧ w' = sortWorldK El.val sz w b 0 n d' os
theorem SpecO.mono {P : Program} {f : FuncId} {args : List AV} {hp : Hp} {Q Q' : AV → Hp → Prop} (h : SpecO P f args hp Q) (hq : ∀ r h, Q r h → Q' r h) : SpecO P f args hp Q' :=
  fun w D ρ col vs hh hv => (h w D ρ col vs hh hv).mono fun e w' ⟨v, r, hp', col', he, hr, ho⟩ => ⟨v, r, hp', col', he, hq _ _ hr, ho⟩
theorem WStep.grown {w w' : World} (h : WStep w w' none) : ∃ q os', w' = grow (w.drewN q) os' := by
  refine ⟨w'.drawn - w.drawn, w'.heap.extract w.heap.size w'.heap.size, ?_⟩
  have hsz := h.size
  have hd := h.drawn
  have e1 : w'.heap = w.heap ++ w'.heap.extract w.heap.size w'.heap.size := by
    apply Array.ext_getElem?
    intro i
    by_cases hi : i < w.heap.size
    · rw [Array.getElem?_append_left hi]; exact h.block i hi (by simp)
    · rw [Array.getElem?_append_right (by omega), Array.getElem?_extract]
      by_cases h2 : i < w'.heap.size
      · rw [if_pos (by omega)]; congr 1; omega
      · rw [if_neg (by omega), Array.getElem?_eq_none (by omega)]
  have e2 : w'.drawn = w.drawn + (w'.drawn - w.drawn) := by omega
  cases w'
  cases w
  simp only [grow, World.drewN] at *
  obtain rfl := h.os
  obtain rfl := h.tape
  obtain rfl := h.output
  simp only [World.mk.injEq, true_and, and_true]
  exact ⟨e1, e2⟩
theorem RawSort.of {P : Program} {ρ : Go.Shelf.Ren} (L : SlLaysF0.n6 P ρ) {g : FuncId} {sz : Nat} {typed : List T → List Value → Prop} {cf : List T → List T → Int} (aE : ∀ w, (isAgg (ρ.t 24)).run P w = .ok true w) (zE : ∀ w, (Go.sizeOf (ρ.t 24)).run P w = .ok sz w)
    (eg : ∀ args w, (callFunc g args).run P w = .ok (.enter g args) w) {avs : List T → List AV} (hav : ∀ row val, typed row val → ∀ c, AVr.AVrs c (avs row) val)
    (sp : ∀ x y : El sz typed, Spec P g [.agg (avs x.row), .agg (avs y.row)] (fun r => r = I (cf x.row y.row))) (hO : SWO (ltOf fun x y : El sz typed => cf x.row y.row)) : RawSort P (ρ.f 6) g sz typed cf where
  nil := fun w a cap => AnyF.slices_SortFunc_none L a cap _ w
  row := fun w b cap d hH hb hs => by
    refine AnyQ.slices_SortFunc L sz aE zE El.val (fun x => x.vl) (fun x => x.one) (fun x y : El sz typed => cf x.row y.row) hO g #[] b 0 cap d w eg ?_ hH hb hs
    intro m os dk _ x y
    have hsp := sp x y (sortWorldK El.val sz w b 0 m dk os) (fun _ => False) [.agg x.val.toArray, .agg y.val.toArray] (fun _ h => h.elim) ⟨⟨x.val, rfl, hav _ _ x.ty _⟩, ⟨y.val, rfl, hav _ _ y.ty _⟩, trivial⟩
    simp only [Array.append_empty]
    refine Calls.mono hsp ?_
    rintro e w' ⟨v, r, rfl, rfl, hw, col, _, hr⟩
    have hv : v = .int .i64 (cf x.row y.row) := by
      have hr : Rd _ _ _ _ := hr
      cases hr
      rfl
    exact ⟨by rw [hv], hw.grown⟩
end Go.Proofs.Ythbhnjcnbnlidaa.Am
namespace Go.Proofs.Ythbhnjcnbnlidaa.Am
open Go Go.Sort
set_option maxRecDepth 1000000
set_option maxHeartbeats 1000000
set_option linter.unusedSimpArgs false
set_option linter.unusedVariables false
def scOrd (x y : Sc) : Int := if cmpM x.num y.num = 0 then cmpS x.text y.text else cmpM x.num y.num
theorem p_scoreOrder : Plain Try.prog 71 := ⟨_, Try.func71, rfl, by decide⟩
theorem s_scoreOrder (x y : Sc) : Spec Try.prog 71 [x.av, y.av] (fun r => r = I (scOrd x y)) := by
  refine Spec.of tysOk mixed Try.func71 rfl (by decide) ?_
  simp -implicitDefEqProofs only [go_sem, Try.f71]
  refine RegD_of sch_71_1 tysOk (by kernel_rfl) ?_
  simp -implicitDefEqProofs only [go_sem]
  refine .one (s_compare _ _) p_compare rfl trivial ?_
  simp -implicitDefEqProofs only [go_sem]
  refine .one (s_compareS _ _) p_compareS rfl trivial ?_
  simp -implicitDefEqProofs only [go_sem]
  refine .one (s_or [cmpM x.num y.num, cmpS x.text y.text] (by simp)) p_or rfl trivial ?_
  simp -implicitDefEqProofs only [go_sem]
  rw [find2]; rfl
def scLt (x y : Sc) : Bool := decide (x.num < y.num) || (decide (x.num = y.num) && bytesLt x.text y.text)
theorem scOrd_lt (x y : Sc) : decide (scOrd x y < 0) = scLt x y := by
  unfold scOrd scLt cmpM
  by_cases h1 : x.num < y.num
  · simp [h1]
  · by_cases h2 : y.num < x.num
    · have : ¬ x.num = y.num := by omega
      simp [h1, h2, this]
    · have : x.num = y.num := by omega
      simp [this, cmpS_lt]
end Go.Proofs.Ythbhnjcnbnlidaa.Am
namespace Go.Proofs.Ythbhnjcnbnlidaa.Am
open Go
set_option maxRecDepth 100000
set_option linter.unusedSimpArgs false
set_option linter.unusedVariables false
theorem p_l1In : Plain Try.prog 60 := ⟨_, Try.func60, rfl, by decide⟩
theorem s_l1In (n lo hi : Int) : Spec Try.prog 60 [I n, I lo, I hi] (fun r => r = Bo (withinM n lo hi)) := by
  refine Spec.of tysOk mixed Try.func60 rfl (by decide) ?_
  simp -implicitDefEqProofs only [go_sem, Try.f60]
  refine BrA_i (fun h => ?_) (fun h => ?_) <;> simp -implicitDefEqProofs only [go_sem] <;> simp_all [withinM] <;> omega
theorem p_l4Key : Plain Try.prog 97 := ⟨_, Try.func97, rfl, by decide⟩
theorem s_l4Key (b : ByteArray) : Spec Try.prog 97 [.t (.str b)] (fun r => r = Bo (keyOkM b)) := by
  refine Spec.of tysOk mixed Try.func97 rfl (by decide) ?_
  simp -implicitDefEqProofs only [go_sem, Try.f97]
  refine .one (s_l1In _ _ _) p_l1In rfl trivial ?_
  simp -implicitDefEqProofs only [go_sem]
  rfl
end Go.Proofs.Ythbhnjcnbnlidaa.Am
namespace Go.Proofs.Ythbhnjcnbnlidaa.Am
open Go
set_option maxRecDepth 100000
set_option maxHeartbeats 1000000
set_option linter.unusedSimpArgs false
set_option linter.unusedVariables false
theorem p_position : Plain Try.prog 83 := ⟨_, Try.func83, rfl, by decide⟩
theorem s_position (n : Int) : Spec Try.prog 83 [I n] (fun r => r = Bo (withinM n (-1000000000) 1000000000)) := by
  refine Spec.of tysOk mixed Try.func83 rfl (by decide) ?_
  simp -implicitDefEqProofs only [go_sem, Try.f83]
  refine CallW.one (s_within n (-1000000000) 1000000000) p_within (by first | (simp -implicitDefEqProofs only [go_sem]; done) | ((conv => lhs; simp -implicitDefEqProofs only [go_sem]); done) | (simp -implicitDefEqProofs only [go_sem]; rfl) | rfl) (by first | trivial | (simp [DeepR, DeepV, DeepVs, DeepC, DeepCs, T.scal]; done)) ?_
  simp -implicitDefEqProofs only [go_sem]
def scIx (l : List Sc) (t : ByteArray) : Option Nat := l.findIdx? fun y => decide (y.text = t)
def ixN : Option Nat → Int
  | none => -1
  | some n => n
theorem scIx_some {l : List Sc} {t : ByteArray} {i : Nat} (h : i < l.length) (hn : l[i].text = t) (hj : ∀ j (h : j < l.length), j < i → l[j].text ≠ t) : scIx l t = some i :=
  List.findIdx?_eq_some_iff_getElem.2 ⟨h, by simp [hn], fun j hji => by simpa using hj j (by omega) hji⟩
theorem scIx_none {l : List Sc} {t : ByteArray} (hj : ∀ j (h : j < l.length), l[j].text ≠ t) : scIx l t = none :=
  List.findIdx?_eq_none_iff.2 fun y hy => by
    obtain ⟨j, h, rfl⟩ := List.mem_iff_getElem.1 hy
    simpa using hj j h
theorem scIx_at {l : List Sc} {t : ByteArray} {i : Nat} (h : scIx l t = some i) : ∃ hh : i < l.length, l[i].text = t ∧ ∀ j (h : j < l.length), j < i → l[j].text ≠ t := by
  obtain ⟨hh, h1, h2⟩ := List.findIdx?_eq_some_iff_getElem.1 h
  exact ⟨hh, by simpa using h1, fun j hj hji => by simpa using h2 j hji⟩
theorem p_scoreFn : Plain Try.prog 85 := ⟨_, Try.func85, rfl, by decide⟩
theorem s_scoreFn (y : Sc) (t : ByteArray) : Spec Try.prog 85 [y.av, .rop false [.str t] 0] (fun r => r = Bo (decide (y.text = t))) := by
  refine Spec.of tysOk mixed Try.func85 rfl (by decide) ?_
  simp -implicitDefEqProofs only [go_sem, Try.f85]
theorem p_IndexScore : Plain Try.prog 84 := ⟨_, Try.func84, rfl, by decide⟩
theorem s_IndexScore (l : List Sc) (t : ByteArray) (hs : l.length ≤ 1099511627776) : Spec Try.prog 84 [.t (.list false 2 (l.map Sc.row)), .fn 85 [.rop false [.str t] 0]] (fun r => r = I (ixN (scIx l t))) := by
  refine Spec.of tysOk mixed Try.func84 rfl (by decide) ?_
  simp -implicitDefEqProofs only [go_sem, Try.f84]
  refine LoopW.slotsM [true, true, false, false, false, false, false, true, true, false, false, false, false, false, false, false, false, false, false] (α := Nat) (fun i => [(8, I i)]) (fun i => []) (fun i => l.length - i) (fun i => i ≤ l.length ∧ ∀ j (h : j < l.length), j < i → l[j].text ≠ t) 0 (by simp -implicitDefEqProofs only [go_sem, LeTs_undef, LeTs_same, LeTs_nil]; try simp [LeTs]) rfl ⟨by omega, fun _ _ h => by omega⟩ ?_
  rintro i ⟨hi, hj⟩
  simp -implicitDefEqProofs only [go_sem]
  refine BrA_i (fun h => ?_) (fun h => ?_) <;> simp -implicitDefEqProofs only [go_sem]
  · skip
    have h : i < l.length := by simp at h; omega
    have h0i : (0 : Int) ≤ i := by omega
    have h1i : (i : Int) < l.length := by omega
    have wi : IntKind.i64.wrap ((i : Int) + 1) = ((i + 1 : Nat) : Int) := by rw [wrap64 (by omega) (by omega)]; omega
    have hr := row_getD Sc.row l h
    simp only [Sc.row] at hr
    simp -implicitDefEqProofs only [go_sem, h, h0i, h1i, hr, wi]
    refine CallW.one (s_scoreFn l[i] t) p_scoreFn (by first | (simp -implicitDefEqProofs only [go_sem]; done) | ((conv => lhs; simp -implicitDefEqProofs only [go_sem]); done) | (simp -implicitDefEqProofs only [go_sem]; rfl) | rfl) (by first | trivial | (simp [DeepR, DeepV, DeepVs, DeepC, DeepCs, T.scal]; done)) ?_
    simp -implicitDefEqProofs only [go_sem]
    refine BrA_i (fun h2 => ?_) (fun h2 => ?_) <;> (try simp only [decide_eq_true_eq, decide_eq_false_iff_not] at h2) <;> simp -implicitDefEqProofs only [go_sem, h, h0i, h1i, wi]
    · rw [scIx_some h h2 (fun j hj2 => hj j hj2)]; rfl
    · refine .to [129, 130, 131] (i + 1) rfl ?_ ?_ (by omega) ⟨by omega, fun j hj2 hj3 => by
        by_cases hji : j < i
        · exact hj j hj2 hji
        · obtain rfl : j = i := by omega
          exact h2⟩ <;> simp -implicitDefEqProofs only [go_sem, LeTs_undef, LeTs_same, LeTs_nil, wi]
  · have h : i = l.length := by simp at h; omega
    subst h
    rw [scIx_none (fun j h => hj j h h)]
    rfl
theorem p_scoreAt : Plain Try.prog 63 := ⟨_, Try.func63, rfl, by decide⟩
theorem s_scoreAt (l : List Sc) (t : ByteArray) (hs : l.length ≤ 1099511627776) : Spec Try.prog 63 [.t (.list false 2 (l.map Sc.row)), .t (.str t)] (fun r => r = I (ixN (scIx l t))) := by
  refine Spec.of tysOk mixed Try.func63 rfl (by decide) ?_
  simp -implicitDefEqProofs only [go_sem, Try.f63]
  refine CallW.one (s_IndexScore l t hs) p_IndexScore (by first | (simp -implicitDefEqProofs only [go_sem]; done) | ((conv => lhs; simp -implicitDefEqProofs only [go_sem]); done) | (simp -implicitDefEqProofs only [go_sem]; rfl) | rfl) (by first | trivial | (simp [DeepR, DeepV, DeepVs, DeepC, DeepCs, T.scal]; done)) ?_
  simp -implicitDefEqProofs only [go_sem]
def scGood (x : Sc) : Bool := decide (x.text.size ≤ 40) && withinM x.num (-1000000000) 1000000000
def okAll (g : Nat → Bool) (n : Nat) : Bool := (List.range n).all g
theorem okAll_no {g : Nat → Bool} {n i : Nat} (h : i < n) (hg : g i = false) : okAll g n = false := by
  cases ho : okAll g n
  · rfl
  · have := List.all_eq_true.1 ho i (List.mem_range.2 h)
    rw [hg] at this; cases this
theorem okAll_yes {g : Nat → Bool} {n : Nat} : okAll g n = true ↔ ∀ i, i < n → g i = true := by
  unfold okAll
  rw [List.all_eq_true]
  exact ⟨fun h i hi => h i (List.mem_range.2 hi), fun h i hi => h i (List.mem_range.1 hi)⟩
def scAt (l : List Sc) (i : Nat) : Bool := match l[i]? with
  | none => true
  | some x => scGood x && (decide (i = 0) || (match l[i - 1]? with | none => true | some y => scLt y x)) && decide (scIx l x.text = some i)
theorem scAt_eq (l : List Sc) {i : Nat} (h : i < l.length) : scAt l i = (scGood l[i] && (decide (i = 0) || scLt (l[i - 1]'(by omega)) l[i]) && decide (scIx l l[i].text = some i)) := by
  have h' : i - 1 < l.length := by omega
  simp [scAt, h, h']
def scoresOkM (l : List Sc) : Bool := okAll (scAt l) l.length && decide (l.length ≤ 16)
theorem p_ScoresOk : Plain Try.prog 62 := ⟨_, Try.func62, rfl, by decide⟩
theorem s_ScoresOk (l : List Sc) (hs : l.length ≤ 1099511627776) : Spec Try.prog 62 [.t (.list false 2 (l.map Sc.row))] (fun r => r = Bo (scoresOkM l)) := by
  refine Spec.of tysOk mixed Try.func62 rfl (by decide) ?_
  simp -implicitDefEqProofs only [go_sem, Try.f62]
  refine LoopW.slotsM [true, false, false, false, false, true, true, true, false, false, false, false, false, false, false, false, false, false, false, false, false, false, false, false, false, false, false, false, false, false, false, false, false, false, false, false, false, false, false, false, false, false, false, false, false, false, false, false] (α := Nat) (fun i => [(7, I i)]) (fun i => []) (fun i => l.length - i) (fun i => i ≤ l.length ∧ ∀ j, j < i → scAt l j = true) 0 (by simp -implicitDefEqProofs only [go_sem, LeTs_undef, LeTs_same, LeTs_nil]; try simp [LeTs]) rfl ⟨by omega, fun _ h => by omega⟩ ?_
  rintro i ⟨hi, hz⟩
  simp -implicitDefEqProofs only [go_sem]
  refine BrA_i (fun h => ?_) (fun h => ?_) <;> simp -implicitDefEqProofs only [go_sem]
  · skip
    have h : i < l.length := by simp at h; omega
    have h0i : (0 : Int) ≤ i := by omega
    have h1i : (i : Int) < l.length := by omega
    have wi : IntKind.i64.wrap ((i : Int) + 1) = ((i + 1 : Nat) : Int) := by rw [wrap64 (by omega) (by omega)]; omega
    have hr := row_getD Sc.row l h
    simp only [Sc.row] at hr
    have bad : scAt l i = false → AV.t (T.bool false) = Bo (scoresOkM l) := fun hg => by
      unfold scoresOkM; rw [okAll_no h hg]; rfl
    have e := scAt_eq l h
    simp -implicitDefEqProofs only [go_sem, h, h0i, h1i, hr, wi]
    refine RegD_of sch_62_4 tysOk (by kernel_rfl) ?_
    simp -implicitDefEqProofs only [go_sem]
    refine BrA_i (fun g1 => ?_) (fun g1 => ?_) <;> simp -implicitDefEqProofs only [go_sem]
    · exact bad (by rw [e]; simp [scGood] at g1 ⊢; intro h1; omega)
    refine CallW.one (s_position l[i].num) p_position (by first | (simp -implicitDefEqProofs only [go_sem]; done) | ((conv => lhs; simp -implicitDefEqProofs only [go_sem]); done) | (simp -implicitDefEqProofs only [go_sem]; rfl) | rfl) (by first | trivial | (simp [DeepR, DeepV, DeepVs, DeepC, DeepCs, T.scal]; done)) ?_
    cases g2 : withinM l[i].num (-1000000000) 1000000000
    · simp -implicitDefEqProofs only [go_sem, g2]
      exact bad (by rw [e]; simp [scGood, g2])
    simp -implicitDefEqProofs only [go_sem, g2]
    have hg : scGood l[i] = true := by simp at g1; simp [scGood, g2]; omega
    refine BrA_i (fun g3 => ?_) (fun g3 => ?_) <;> simp -implicitDefEqProofs only [go_sem]
    · have g3 : 0 < i := by simpa using g3
      have hq : i - 1 < l.length := by omega
      have hp : IntKind.i64.wrap ((i : Int) - 1) = ((i - 1 : Nat) : Int) := by rw [wrap64 (by omega) (by omega)]; omega
      have hrq := row_getD Sc.row l hq
      simp only [Sc.row] at hrq
      have q0 : (0 : Int) ≤ ((i - 1 : Nat) : Int) := by omega
      have q1 : ((i - 1 : Nat) : Int) < l.length := by omega
      simp -implicitDefEqProofs only [go_sem, hp, hrq, q0, q1]
      refine CallW.one (s_scoreOrder (l[i - 1]) (l[i])) p_scoreOrder (by first | (simp -implicitDefEqProofs only [go_sem]; done) | ((conv => lhs; simp -implicitDefEqProofs only [go_sem]); done) | (simp -implicitDefEqProofs only [go_sem]; rfl) | rfl) (by first | trivial | (simp [DeepR, DeepV, DeepVs, DeepC, DeepCs, T.scal]; done)) ?_
      simp -implicitDefEqProofs only [go_sem]
      have g4 : decide (scOrd l[i - 1] l[i] ≥ 0) = !scLt l[i - 1] l[i] := by rw [← scOrd_lt]; by_cases hh : scOrd l[i - 1] l[i] < 0 <;> simp [hh] <;> omega
      rw [g4]
      cases g5 : scLt l[i - 1] l[i]
      · simp -implicitDefEqProofs only [go_sem, Bool.not_false]
        exact bad (by rw [e, g5]; simp; omega)
      simp -implicitDefEqProofs only [go_sem, Bool.not_true]
      have hlk : (decide (i = 0) || scLt (l[i - 1]'(by omega)) l[i]) = true := by simp [g5]
      refine CallW.one (s_scoreAt l (l[i]).text hs) p_scoreAt (by first | (simp -implicitDefEqProofs only [go_sem]; done) | ((conv => lhs; simp -implicitDefEqProofs only [go_sem]); done) | (simp -implicitDefEqProofs only [go_sem]; rfl) | rfl) (by first | trivial | (simp [DeepR, DeepV, DeepVs, DeepC, DeepCs, T.scal]; done)) ?_
      simp -implicitDefEqProofs only [go_sem]
      have g7 : decide (ixN (scIx l l[i].text) = i) = decide (scIx l l[i].text = some i) := by
        cases scIx l l[i].text with
        | none => simp [ixN]
        | some k => simp only [ixN, Option.some.injEq]; exact decide_eq_decide.2 (by omega)
      rw [g7]
      refine BrA_i (fun g6 => ?_) (fun g6 => ?_) <;> simp -implicitDefEqProofs only [go_sem, wi]
      · refine .to [32, 153, 154, 155, 257, 258, 259, 321, 322, 323] (i + 1) rfl ?_ ?_ (by omega) ⟨by omega, fun j hj => by
          by_cases hji : j < i
          · exact hz j hji
          · obtain rfl : j = i := by omega
            rw [e, hg, hlk, g6]; rfl⟩ <;> simp -implicitDefEqProofs only [go_sem, LeTs_undef, LeTs_same, LeTs_nil, wi]
      · exact bad (by rw [e, g6]; simp)
    · have g3 : i = 0 := by have := of_decide_eq_false g3; omega
      have hlk : (decide (i = 0) || scLt (l[i - 1]'(by omega)) l[i]) = true := by simp [g3]
      refine CallW.one (s_scoreAt l (l[i]).text hs) p_scoreAt (by first | (simp -implicitDefEqProofs only [go_sem]; done) | ((conv => lhs; simp -implicitDefEqProofs only [go_sem]); done) | (simp -implicitDefEqProofs only [go_sem]; rfl) | rfl) (by first | trivial | (simp [DeepR, DeepV, DeepVs, DeepC, DeepCs, T.scal]; done)) ?_
      simp -implicitDefEqProofs only [go_sem]
      have g7 : decide (ixN (scIx l l[i].text) = i) = decide (scIx l l[i].text = some i) := by
        cases scIx l l[i].text with
        | none => simp [ixN]
        | some k => simp only [ixN, Option.some.injEq]; exact decide_eq_decide.2 (by omega)
      rw [g7]
      refine BrA_i (fun g6 => ?_) (fun g6 => ?_) <;> simp -implicitDefEqProofs only [go_sem, wi]
      · refine .to [32, 153, 154, 155, 257, 258, 259, 321, 322, 323] (i + 1) rfl ?_ ?_ (by omega) ⟨by omega, fun j hj => by
          by_cases hji : j < i
          · exact hz j hji
          · obtain rfl : j = i := by omega
            rw [e, hg, hlk, g6]; rfl⟩ <;> simp -implicitDefEqProofs only [go_sem, LeTs_undef, LeTs_same, LeTs_nil, wi]
      · exact bad (by rw [e, g6]; simp)
  · have h : i = l.length := by simp at h; omega
    subst h
    have : okAll (scAt l) l.length = true := okAll_yes.2 hz
    unfold scoresOkM
    have e16 : decide ((l.length : Int) ≤ 16) = decide (l.length ≤ 16) := decide_eq_decide.2 (by omega)
    rw [this, e16]; rfl
theorem p_l3Ahead : Plain Try.prog 61 := ⟨_, Try.func61, rfl, by decide⟩
theorem s_l3Ahead (x y : Sc) : Spec Try.prog 61 [x.av, y.av] (fun r => r = Bo (scLt x y)) := by
  refine Spec.of tysOk mixed Try.func61 rfl (by decide) ?_
  simp -implicitDefEqProofs only [go_sem, Try.f61]
  (repeat' (first   | (refine BrA_i (fun h => ?_) (fun h => ?_) <;> (try simp only [decide_eq_true_eq, decide_eq_false_iff_not, Bool.not_eq_true', Bool.not_eq_false', gt_iff_lt, ge_iff_le] at h) <;> try simp -implicitDefEqProofs only [go_sem])   | (refine And.intro (a := roomy _ _) (by (unfold roomy; (try simp only [List.length_take, List.length_append, List.length_map, List.length_cons, List.length_nil]); omega)) ?_; try simp -implicitDefEqProofs only [go_sem])))
  all_goals (try simp_all [scLt])
theorem p_sScoresOk : Plain Try.prog 33 := ⟨_, Try.func33, rfl, by decide⟩
theorem s_sScoresOk (l : List Sc) (hs : l.length ≤ 1099511627776) : Spec Try.prog 33 [.t (.list false 2 (l.map Sc.row))] (fun r => r = Bo (scoresOkM l)) := by
  refine Spec.of tysOk mixed Try.func33 rfl (by decide) ?_
  simp -implicitDefEqProofs only [go_sem, Try.f33]
  refine LoopW.slotsM [true, false, false, true, false, false, false, false, false, false, false, false, false, false, false, false, false, false, false, false, false, false, false, false, false, false, false, false, false, false, false, false, false, false, false, false, false, false, false, false, false, false, false, false, false, false, false, false, false, false, false, false, false, false, false, false, false, false, false, false, false, false, false] (α := Nat) (fun i => [(3, I i)]) (fun i => []) (fun i => l.length - i) (fun i => i ≤ l.length ∧ ∀ j, j < i → scAt l j = true) 0 (by simp -implicitDefEqProofs only [go_sem, LeTs_undef, LeTs_same, LeTs_nil]; try simp [LeTs]) rfl ⟨by omega, fun _ h => by omega⟩ ?_
  rintro i ⟨hi, hz⟩
  simp -implicitDefEqProofs only [go_sem]
  refine BrA_i (fun h => ?_) (fun h => ?_) <;> simp -implicitDefEqProofs only [go_sem]
  · skip
    have h : i < l.length := by simp at h; omega
    have h0i : (0 : Int) ≤ i := by omega
    have h1i : (i : Int) < l.length := by omega
    have wi : IntKind.i64.wrap ((i : Int) + 1) = ((i + 1 : Nat) : Int) := by rw [wrap64 (by omega) (by omega)]; omega
    have hr := row_getD Sc.row l h
    simp only [Sc.row] at hr
    have bad : scAt l i = false → AV.t (T.bool false) = Bo (scoresOkM l) := fun hg => by
      unfold scoresOkM; rw [okAll_no h hg]; rfl
    have e := scAt_eq l h
    refine RegD_of sch_33_4 tysOk (by kernel_rfl) ?_
    simp -implicitDefEqProofs only [go_sem, h, h0i, h1i, hr, wi]
    refine BrA_i (fun g1 => ?_) (fun g1 => ?_) <;> simp -implicitDefEqProofs only [go_sem]
    · exact bad (by rw [e]; simp [scGood] at g1 ⊢; intro h1; omega)
    simp -implicitDefEqProofs only [go_sem, h, h0i, h1i, hr, wi]
    refine CallW.one (s_l1In (l[i]).num (-1000000000) 1000000000) p_l1In (by first | (simp -implicitDefEqProofs only [go_sem]; done) | ((conv => lhs; simp -implicitDefEqProofs only [go_sem]); done) | (simp -implicitDefEqProofs only [go_sem]; rfl) | rfl) (by first | trivial | (simp [DeepR, DeepV, DeepVs, DeepC, DeepCs, T.scal]; done)) ?_
    cases g2 : withinM l[i].num (-1000000000) 1000000000
    · simp -implicitDefEqProofs only [go_sem, g2]
      exact bad (by rw [e]; simp [scGood, g2])
    simp -implicitDefEqProofs only [go_sem, g2]
    have hg : scGood l[i] = true := by simp at g1; simp [scGood, g2]; omega
    refine BrA_i (fun g3 => ?_) (fun g3 => ?_) <;> simp -implicitDefEqProofs only [go_sem]
    · have g3 : 0 < i := by simpa using g3
      have hq : i - 1 < l.length := by omega
      have hp : IntKind.i64.wrap ((i : Int) - 1) = ((i - 1 : Nat) : Int) := by rw [wrap64 (by omega) (by omega)]; omega
      have hrq := row_getD Sc.row l hq
      simp only [Sc.row] at hrq
      have q0 : (0 : Int) ≤ ((i - 1 : Nat) : Int) := by omega
      have q1 : ((i - 1 : Nat) : Int) < l.length := by omega
      simp -implicitDefEqProofs only [go_sem, hp, hrq, q0, q1, h, h0i, h1i, hr]
      refine CallW.one (s_l3Ahead (l[i - 1]) (l[i])) p_l3Ahead (by first | (simp -implicitDefEqProofs only [go_sem]; done) | ((conv => lhs; simp -implicitDefEqProofs only [go_sem]); done) | (simp -implicitDefEqProofs only [go_sem]; rfl) | rfl) (by first | trivial | (simp [DeepR, DeepV, DeepVs, DeepC, DeepCs, T.scal]; done)) ?_
      simp -implicitDefEqProofs only [go_sem]
      cases g5 : scLt l[i - 1] l[i]
      · simp -implicitDefEqProofs only [go_sem, Bool.not_false]
        exact bad (by rw [e, g5]; simp; omega)
      simp -implicitDefEqProofs only [go_sem, Bool.not_true]
      have hlk : (decide (i = 0) || scLt (l[i - 1]'(by omega)) l[i]) = true := by simp [g5]
      refine LoopW.slotsM [true, false, false, true, true, false, false, false, false, false, false, false, false, false, false, false, false, false, false, false, false, false, false, false, false, false, false, false, false, false, false, false, false, false, false, false, false, false, false, false, false, false, false, false, false, false, false, false, false, false, false, false, false, false, false, false, false, false, false, false, false, false, false] (α := Nat) (fun k => [(4, I k)]) (fun k => []) (fun k => i - k) (fun k => k ≤ i ∧ ∀ j (hj : j < l.length), j < k → l[j].text ≠ l[i].text) 0 (by simp -implicitDefEqProofs only [go_sem, LeTs_undef, LeTs_same, LeTs_nil]; try simp [LeTs]) rfl ⟨by omega, fun _ _ h => by omega⟩ ?_
      rintro k ⟨hk, hn⟩
      simp -implicitDefEqProofs only [go_sem]
      refine BrA_i (fun g7 => ?_) (fun g7 => ?_) <;> simp -implicitDefEqProofs only [go_sem]
      · have g7 : k < i := by have := of_decide_eq_true g7; omega
        have hkl : k < l.length := by omega
        have hrk := row_getD Sc.row l hkl
        simp only [Sc.row] at hrk
        have k0 : (0 : Int) ≤ k := by omega
        have k1 : (k : Int) < l.length := by omega
        have wk : IntKind.i64.wrap ((k : Int) + 1) = ((k + 1 : Nat) : Int) := by rw [wrap64 (by omega) (by omega)]; omega
        refine RegD_of sch_33_9 tysOk (by kernel_rfl) ?_
        simp -implicitDefEqProofs only [go_sem, hrk, k0, k1, h, h0i, h1i, hr]
        refine BrA_i (fun g8 => ?_) (fun g8 => ?_) <;> simp -implicitDefEqProofs only [go_sem, wk]
        · have g8 := of_decide_eq_true g8
          refine bad ?_
          rw [e]
          have : ¬ scIx l l[i].text = some i := fun hh => (scIx_at hh).2.2 k hkl g7 g8
          simp [this]
        · refine .to [] (k + 1) rfl ?_ ?_ (by omega) ⟨by omega, fun j hj hjk => by
            by_cases hji : j < k
            · exact hn j hj hji
            · obtain rfl : j = k := by omega
              exact of_decide_eq_false g8⟩ <;> simp -implicitDefEqProofs only [go_sem, LeTs_undef, LeTs_same, LeTs_nil, wk]
      · have g7 : k = i := by have := of_decide_eq_false g7; omega
        subst g7
        have g6 := scIx_some (t := l[k].text) h rfl hn
        simp -implicitDefEqProofs only [go_sem, wi]
        refine .to [193, 194, 195, 321, 322, 323] (k + 1) rfl ?_ ?_ (by omega) ⟨by omega, fun j hj => by
          by_cases hji : j < k
          · exact hz j hji
          · obtain rfl : j = k := by omega
            rw [e, hg, hlk, g6]; simp⟩ <;> simp -implicitDefEqProofs only [go_sem, LeTs_undef, LeTs_same, LeTs_nil, wi]
    · have g3 : i = 0 := by have := of_decide_eq_false g3; omega
      have hlk : (decide (i = 0) || scLt (l[i - 1]'(by omega)) l[i]) = true := by simp [g3]
      refine LoopW.slotsM [true, false, false, true, true, false, false, false, false, false, false, false, false, false, false, false, false, false, false, false, false, false, false, false, false, false, false, false, false, false, false, false, false, false, false, false, false, false, false, false, false, false, false, false, false, false, false, false, false, false, false, false, false, false, false, false, false, false, false, false, false, false, false] (α := Nat) (fun k => [(4, I k)]) (fun k => []) (fun k => i - k) (fun k => k ≤ i ∧ ∀ j (hj : j < l.length), j < k → l[j].text ≠ l[i].text) 0 (by simp -implicitDefEqProofs only [go_sem, LeTs_undef, LeTs_same, LeTs_nil]; try simp [LeTs]) rfl ⟨by omega, fun _ _ h => by omega⟩ ?_
      rintro k ⟨hk, hn⟩
      simp -implicitDefEqProofs only [go_sem]
      refine BrA_i (fun g7 => ?_) (fun g7 => ?_) <;> simp -implicitDefEqProofs only [go_sem]
      · have g7 : k < i := by have := of_decide_eq_true g7; omega
        have hkl : k < l.length := by omega
        have hrk := row_getD Sc.row l hkl
        simp only [Sc.row] at hrk
        have k0 : (0 : Int) ≤ k := by omega
        have k1 : (k : Int) < l.length := by omega
        have wk : IntKind.i64.wrap ((k : Int) + 1) = ((k + 1 : Nat) : Int) := by rw [wrap64 (by omega) (by omega)]; omega
        refine RegD_of sch_33_9 tysOk (by kernel_rfl) ?_
        simp -implicitDefEqProofs only [go_sem, hrk, k0, k1, h, h0i, h1i, hr]
        refine BrA_i (fun g8 => ?_) (fun g8 => ?_) <;> simp -implicitDefEqProofs only [go_sem, wk]
        · have g8 := of_decide_eq_true g8
          refine bad ?_
          rw [e]
          have : ¬ scIx l l[i].text = some i := fun hh => (scIx_at hh).2.2 k hkl g7 g8
          simp [this]
        · refine .to [] (k + 1) rfl ?_ ?_ (by omega) ⟨by omega, fun j hj hjk => by
            by_cases hji : j < k
            · exact hn j hj hji
            · obtain rfl : j = k := by omega
              exact of_decide_eq_false g8⟩ <;> simp -implicitDefEqProofs only [go_sem, LeTs_undef, LeTs_same, LeTs_nil, wk]
      · have g7 : k = i := by have := of_decide_eq_false g7; omega
        subst g7
        have g6 := scIx_some (t := l[k].text) h rfl hn
        simp -implicitDefEqProofs only [go_sem, wi]
        refine .to [193, 194, 195, 321, 322, 323] (k + 1) rfl ?_ ?_ (by omega) ⟨by omega, fun j hj => by
          by_cases hji : j < k
          · exact hz j hji
          · obtain rfl : j = k := by omega
            rw [e, hg, hlk, g6]; simp⟩ <;> simp -implicitDefEqProofs only [go_sem, LeTs_undef, LeTs_same, LeTs_nil, wi]
  · have h : i = l.length := by simp at h; omega
    subst h
    have : okAll (scAt l) l.length = true := okAll_yes.2 hz
    unfold scoresOkM
    have e16 : decide ((l.length : Int) ≤ 16) = decide (l.length ≤ 16) := decide_eq_decide.2 (by omega)
    rw [this, e16]; rfl
end Go.Proofs.Ythbhnjcnbnlidaa.Am
namespace Go.Proofs.Ythbhnjcnbnlidaa.Am
open Go
set_option maxRecDepth 100000
set_option maxHeartbeats 2000000
set_option linter.unusedSimpArgs false
set_option linter.unusedVariables false
theorem all_no {α : Type} {p : α → Bool} {l : List α} {i : Nat} (h : i < l.length) (hp : p l[i] = false) : l.all p = false := by
  cases ha : l.all p
  · rfl
  · have := List.all_eq_true.1 ha _ (List.getElem_mem h)
    rw [hp] at this; cases this
theorem all_yes {α : Type} {p : α → Bool} {l : List α} (h : ∀ i (h : i < l.length), p l[i] = true) : l.all p = true := by
  rw [List.all_eq_true]
  intro x hx
  obtain ⟨i, hi, rfl⟩ := List.mem_iff_getElem.1 hx
  exact h i hi
def txOk (t : Tx) : Bool := decide (t.size ≤ 40)
def textsOkM (l : List Tx) (most : Int) : Bool := l.all txOk && decide ((l.length : Int) ≤ most)
theorem p_textsOk : Plain Try.prog 129 := ⟨_, Try.func129, rfl, by decide⟩
theorem s_textsOk (l : List Tx) (most : Int) (hs : l.length ≤ 1099511627776) : Spec Try.prog 129 [.t (.list false 1 (l.map Tx.row)), I most] (fun r => r = Bo (textsOkM l most)) := by
  refine Spec.of tysOk mixed Try.func129 rfl (by decide) ?_
  simp -implicitDefEqProofs only [go_sem, Try.f129]
  refine LoopW.slotsM [true, true, false, false, false, false, false, true, true, true, false, false, false, false, false, false, false, false, false, false, false] (α := Nat) (fun i => [(9, I i)]) (fun i => []) (fun i => l.length - i) (fun i => i ≤ l.length ∧ ∀ j (h : j < l.length), j < i → txOk l[j] = true) 0 (by simp -implicitDefEqProofs only [go_sem, LeTs_undef, LeTs_same, LeTs_nil]; try simp [LeTs]) rfl ⟨by omega, fun _ _ h => by omega⟩ ?_
  rintro i ⟨hi, hj⟩
  simp -implicitDefEqProofs only [go_sem]
  refine BrA_i (fun h => ?_) (fun h => ?_) <;> simp -implicitDefEqProofs only [go_sem]
  · skip
    have h : i < l.length := by simp at h; omega
    have h0i : (0 : Int) ≤ i := by omega
    have h1i : (i : Int) < l.length := by omega
    have wi : IntKind.i64.wrap ((i : Int) + 1) = ((i + 1 : Nat) : Int) := by rw [wrap64 (by omega) (by omega)]; omega
    have hr := row_getD Tx.row l h
    simp only [Tx.row] at hr
    simp -implicitDefEqProofs only [go_sem, h, h0i, h1i, hr, wi]
    refine BrA_i (fun h2 => ?_) (fun h2 => ?_) <;> simp -implicitDefEqProofs only [go_sem, wi]
    · rw [textsOkM, all_no h (by have := of_decide_eq_true h2; simp [txOk]; omega)]; rfl
    · refine .to [] (i + 1) rfl ?_ ?_ (by omega) ⟨by omega, fun j hj2 hj3 => by
        by_cases hji : j < i
        · exact hj j hj2 hji
        · obtain rfl : j = i := by omega
          have := of_decide_eq_false h2
          simp [txOk]; omega⟩ <;> simp -implicitDefEqProofs only [go_sem, LeTs_undef, LeTs_same, LeTs_nil, wi]
  · have h : i = l.length := by simp at h; omega
    subst h
    rw [textsOkM, all_yes fun j h => hj j h h]; rfl
def listOkM (l : List Tx) : Bool := textsOkM l 16
theorem p_listOk : Plain Try.prog 104 := ⟨_, Try.func104, rfl, by decide⟩
theorem s_listOk (l : List Tx) (hs : l.length ≤ 1099511627776) : Spec Try.prog 104 [.t (.list false 1 (l.map Tx.row))] (fun r => r = Bo (listOkM l)) := by
  refine Spec.of tysOk mixed Try.func104 rfl (by decide) ?_
  simp -implicitDefEqProofs only [go_sem, Try.f104]
  refine CallW.one (s_textsOk l 16 hs) p_textsOk (by first | (simp -implicitDefEqProofs only [go_sem]; done) | ((conv => lhs; simp -implicitDefEqProofs only [go_sem]); done) | (simp -implicitDefEqProofs only [go_sem]; rfl) | rfl) (by first | trivial | (simp [DeepR, DeepV, DeepVs, DeepC, DeepCs, T.scal]; done)) ?_
  simp -implicitDefEqProofs only [go_sem]
  rfl
theorem p_l2Texts : Plain Try.prog 98 := ⟨_, Try.func98, rfl, by decide⟩
theorem s_l2Texts (l : List Tx) (hs : l.length ≤ 1099511627776) : Spec Try.prog 98 [.t (.list false 1 (l.map Tx.row))] (fun r => r = Bo (listOkM l)) := by
  refine Spec.of tysOk mixed Try.func98 rfl (by decide) ?_
  simp -implicitDefEqProofs only [go_sem, Try.f98]
  refine LoopW.slotsM [true, false, false, true, false, false, false, false, false, false, false, false, false, false, false, false, false, false, false] (α := Nat) (fun i => [(3, I i)]) (fun i => []) (fun i => l.length - i) (fun i => i ≤ l.length ∧ ∀ j (h : j < l.length), j < i → txOk l[j] = true) 0 (by simp -implicitDefEqProofs only [go_sem, LeTs_undef, LeTs_same, LeTs_nil]; try simp [LeTs]) rfl ⟨by omega, fun _ _ h => by omega⟩ ?_
  rintro i ⟨hi, hj⟩
  simp -implicitDefEqProofs only [go_sem]
  refine BrA_i (fun h => ?_) (fun h => ?_) <;> simp -implicitDefEqProofs only [go_sem]
  · skip
    have h : i < l.length := by simp at h; omega
    have h0i : (0 : Int) ≤ i := by omega
    have h1i : (i : Int) < l.length := by omega
    have wi : IntKind.i64.wrap ((i : Int) + 1) = ((i + 1 : Nat) : Int) := by rw [wrap64 (by omega) (by omega)]; omega
    have hr := row_getD Tx.row l h
    simp only [Tx.row] at hr
    simp -implicitDefEqProofs only [go_sem, h, h0i, h1i, hr, wi]
    refine BrA_i (fun h2 => ?_) (fun h2 => ?_) <;> simp -implicitDefEqProofs only [go_sem, wi]
    · rw [listOkM, textsOkM, all_no h (by have := of_decide_eq_true h2; simp [txOk]; omega)]; rfl
    · refine .to [] (i + 1) rfl ?_ ?_ (by omega) ⟨by omega, fun j hj2 hj3 => by
        by_cases hji : j < i
        · exact hj j hj2 hji
        · obtain rfl : j = i := by omega
          have := of_decide_eq_false h2
          simp [txOk]; omega⟩ <;> simp -implicitDefEqProofs only [go_sem, LeTs_undef, LeTs_same, LeTs_nil, wi]
  · have h : i = l.length := by simp at h; omega
    subst h
    rw [listOkM, textsOkM, all_yes fun j h => hj j h h]; rfl
def upAt (l : List Tx) (i : Nat) : Bool := goodAt (fun _ => true) bytesLt l i
def setOkM (l : List Tx) : Bool := allAt (fun _ => true) bytesLt l && listOkM l
theorem upAt_s {l : List Tx} {i : Nat} (h : i < l.length) (h0 : 0 < i) : upAt l i = bytesLt (l[i - 1]'(by omega)) l[i] := by
  rw [upAt, goodAt_s _ _ _ h h0]; rfl
theorem upAt_0 {l : List Tx} (h : 0 < l.length) : upAt l 0 = true := by rw [upAt, goodAt_0 _ _ _ h rfl]
theorem p_SetOk : Plain Try.prog 105 := ⟨_, Try.func105, rfl, by decide⟩
theorem s_SetOk (l : List Tx) (hs : l.length ≤ 1099511627776) : Spec Try.prog 105 [.t (.list false 1 (l.map Tx.row))] (fun r => r = Bo (setOkM l)) := by
  refine Spec.of tysOk mixed Try.func105 rfl (by decide) ?_
  simp -implicitDefEqProofs only [go_sem, Try.f105]
  refine LoopW.slotsM [true, false, false, true, false, false, false, false, false, false, false, false, false, false, false, false, false, false, false, false, false, false] (α := Nat) (fun i => [(3, I i)]) (fun i => []) (fun i => l.length - i) (fun i => 1 ≤ i ∧ (i ≤ l.length ∨ i = 1) ∧ ∀ j (h : j < l.length), j < i → upAt l j = true) 1 (by simp -implicitDefEqProofs only [go_sem, LeTs_undef, LeTs_same, LeTs_nil]; try simp [LeTs]) rfl ⟨by omega, by omega, fun j h h1 => by rw [show j = 0 by omega]; exact upAt_0 (by omega)⟩ ?_
  rintro i ⟨hi1, hi, hj⟩
  simp -implicitDefEqProofs only [go_sem]
  refine BrA_i (fun h => ?_) (fun h => ?_) <;> simp -implicitDefEqProofs only [go_sem]
  · have h : i < l.length := by have := of_decide_eq_true h; omega
    have h0i : (0 : Int) ≤ i := by omega
    have h1i : (i : Int) < l.length := by omega
    have wi : IntKind.i64.wrap ((i : Int) + 1) = ((i + 1 : Nat) : Int) := by rw [wrap64 (by omega) (by omega)]; omega
    have hp : IntKind.i64.wrap ((i : Int) - 1) = ((i - 1 : Nat) : Int) := by rw [wrap64 (by omega) (by omega)]; omega
    have hq : i - 1 < l.length := by omega
    have q0 : (0 : Int) ≤ ((i - 1 : Nat) : Int) := by omega
    have q1 : ((i - 1 : Nat) : Int) < l.length := by omega
    have hr := row_getD Tx.row l h
    have hrq := row_getD Tx.row l hq
    simp only [Tx.row] at hr hrq
    refine RegD_of sch_105_4 tysOk (by kernel_rfl) ?_
    simp -implicitDefEqProofs only [go_sem, h, h0i, h1i, hr, hp, hrq, q0, q1, wi]
    refine BrA_i (fun h2 => ?_) (fun h2 => ?_) <;> simp -implicitDefEqProofs only [go_sem, wi]
    · refine .to [] (i + 1) rfl ?_ ?_ (by omega) ⟨by omega, by omega, fun j hj2 hj3 => by
        by_cases hji : j < i
        · exact hj j hj2 hji
        · obtain rfl : j = i := by omega
          rw [upAt_s h (by omega)]; exact h2⟩ <;> simp -implicitDefEqProofs only [go_sem, LeTs_undef, LeTs_same, LeTs_nil, wi]
    · have : allAt (fun _ => true) bytesLt l = false := by
        cases ha : allAt (fun _ => true) bytesLt l
        · rfl
        · have := (allAt_iff _ _ _).1 ha i h
          rw [show goodAt (fun _ => true) bytesLt l i = upAt l i from rfl, upAt_s h (by omega), h2] at this; cases this
      simp [setOkM, this]
  · have h : l.length ≤ i := by have := of_decide_eq_false h; omega
    have : allAt (fun _ => true) bytesLt l = true := (allAt_iff _ _ _).2 fun j hjl => hj j hjl (by omega)
    refine CallW.one (s_listOk l hs) p_listOk (by first | (simp -implicitDefEqProofs only [go_sem]; done) | ((conv => lhs; simp -implicitDefEqProofs only [go_sem]); done) | (simp -implicitDefEqProofs only [go_sem]; rfl) | rfl) (by first | trivial | (simp [DeepR, DeepV, DeepVs, DeepC, DeepCs, T.scal]; done)) ?_
    simp -implicitDefEqProofs only [go_sem]
    simp [setOkM, this]
theorem p_sSetOk : Plain Try.prog 99 := ⟨_, Try.func99, rfl, by decide⟩
theorem s_sSetOk (l : List Tx) (hs : l.length ≤ 1099511627776) : Spec Try.prog 99 [.t (.list false 1 (l.map Tx.row))] (fun r => r = Bo (setOkM l)) := by
  refine Spec.of tysOk mixed Try.func99 rfl (by decide) ?_
  simp -implicitDefEqProofs only [go_sem, Try.f99]
  refine LoopW.slotsM [true, false, false, true, false, false, false, false, false, false, false, false, false, false, false, false, false, false, false, false, false, false] (α := Nat) (fun i => [(3, I i)]) (fun i => []) (fun i => l.length - i) (fun i => 1 ≤ i ∧ (i ≤ l.length ∨ i = 1) ∧ ∀ j (h : j < l.length), j < i → upAt l j = true) 1 (by simp -implicitDefEqProofs only [go_sem, LeTs_undef, LeTs_same, LeTs_nil]; try simp [LeTs]) rfl ⟨by omega, by omega, fun j h h1 => by rw [show j = 0 by omega]; exact upAt_0 (by omega)⟩ ?_
  rintro i ⟨hi1, hi, hj⟩
  simp -implicitDefEqProofs only [go_sem]
  refine BrA_i (fun h => ?_) (fun h => ?_) <;> simp -implicitDefEqProofs only [go_sem]
  · have h : i < l.length := by have := of_decide_eq_true h; omega
    have h0i : (0 : Int) ≤ i := by omega
    have h1i : (i : Int) < l.length := by omega
    have wi : IntKind.i64.wrap ((i : Int) + 1) = ((i + 1 : Nat) : Int) := by rw [wrap64 (by omega) (by omega)]; omega
    have hp : IntKind.i64.wrap ((i : Int) - 1) = ((i - 1 : Nat) : Int) := by rw [wrap64 (by omega) (by omega)]; omega
    have hq : i - 1 < l.length := by omega
    have q0 : (0 : Int) ≤ ((i - 1 : Nat) : Int) := by omega
    have q1 : ((i - 1 : Nat) : Int) < l.length := by omega
    have hr := row_getD Tx.row l h
    have hrq := row_getD Tx.row l hq
    simp only [Tx.row] at hr hrq
    refine RegD_of sch_99_4 tysOk (by kernel_rfl) ?_
    simp -implicitDefEqProofs only [go_sem, h, h0i, h1i, hr, hp, hrq, q0, q1, wi]
    refine BrA_i (fun h2 => ?_) (fun h2 => ?_) <;> simp -implicitDefEqProofs only [go_sem, wi]
    · refine .to [] (i + 1) rfl ?_ ?_ (by omega) ⟨by omega, by omega, fun j hj2 hj3 => by
        by_cases hji : j < i
        · exact hj j hj2 hji
        · obtain rfl : j = i := by omega
          rw [upAt_s h (by omega)]; exact h2⟩ <;> simp -implicitDefEqProofs only [go_sem, LeTs_undef, LeTs_same, LeTs_nil, wi]
    · have : allAt (fun _ => true) bytesLt l = false := by
        cases ha : allAt (fun _ => true) bytesLt l
        · rfl
        · have := (allAt_iff _ _ _).1 ha i h
          rw [show goodAt (fun _ => true) bytesLt l i = upAt l i from rfl, upAt_s h (by omega), h2] at this; cases this
      simp [setOkM, this]
  · have h : l.length ≤ i := by have := of_decide_eq_false h; omega
    have : allAt (fun _ => true) bytesLt l = true := (allAt_iff _ _ _).2 fun j hjl => hj j hjl (by omega)
    refine CallW.one (s_l2Texts l hs) p_l2Texts (by first | (simp -implicitDefEqProofs only [go_sem]; done) | ((conv => lhs; simp -implicitDefEqProofs only [go_sem]); done) | (simp -implicitDefEqProofs only [go_sem]; rfl) | rfl) (by first | trivial | (simp [DeepR, DeepV, DeepVs, DeepC, DeepCs, T.scal]; done)) ?_
    simp -implicitDefEqProofs only [go_sem]
    simp [setOkM, this]
end Go.Proofs.Ythbhnjcnbnlidaa.Am
namespace Go.Proofs.Ythbhnjcnbnlidaa.Am
open Go
set_option maxRecDepth 100000
set_option maxHeartbeats 4000000
set_option linter.unusedSimpArgs false
set_option linter.unusedVariables false
def noB (e : En) (t l s f : Bool) : Bool := (t || decide (e.text = ⟨#[]⟩)) && (l || e.list.isEmpty) && (s || e.scores.isEmpty) && (f || e.fields.isEmpty)
def kindOkM (e : En) : Bool :=
  if e.kind = 1 then decide (e.text.size ≤ 40) && noB e true false false false
  else if e.kind = 2 then !e.list.isEmpty && listOkM e.list && noB e false true false false
  else if e.kind = 3 then !e.list.isEmpty && setOkM e.list && noB e false true false false
  else if e.kind = 4 then !e.scores.isEmpty && scoresOkM e.scores && noB e false false true false
  else if e.kind = 5 then !e.fields.isEmpty && fieldsOkM e.fields && noB e false false false true
  else false
def enOkM (e : En) : Bool := keyOkM e.key && withinM e.till 0 2000000 && kindOkM e
theorem isEmpty_len {α : Type} (l : List α) : decide ((l.length : Int) > 0) = !l.isEmpty := by cases l <;> simp <;> omega
theorem isEmpty_len0 {α : Type} (l : List α) : decide ((l.length : Int) = 0) = l.isEmpty := by cases l <;> simp <;> omega
def En.lim (e : En) : Prop := e.list.length ≤ 1099511627776 ∧ e.scores.length ≤ 1099511627776 ∧ e.fields.length ≤ 1099511627776
theorem p_EntryOk : Plain Try.prog 75 := ⟨_, Try.func75, rfl, by decide⟩
theorem s_EntryOk (e : En) (hs : e.lim) : Spec Try.prog 75 [e.av] (fun r => r = Bo (enOkM e)) := by
  obtain ⟨h1, h2, h3⟩ := hs
  refine Spec.of tysOk mixed Try.func75 rfl (by decide) ?_
  simp -implicitDefEqProofs only [go_sem, Try.f75]
  refine CallW.one (s_keyOk e.key) p_keyOk (by first | (simp -implicitDefEqProofs only [go_sem]; done) | ((conv => lhs; simp -implicitDefEqProofs only [go_sem]); done) | (simp -implicitDefEqProofs only [go_sem]; rfl) | rfl) (by first | trivial | (simp [DeepR, DeepV, DeepVs, DeepC, DeepCs, T.scal]; done)) ?_
  cases k1 : keyOkM e.key
  · simp -implicitDefEqProofs only [go_sem, k1]; simp [enOkM, k1]
  simp -implicitDefEqProofs only [go_sem, k1]
  refine CallW.one (s_within e.till 0 2000000) p_within (by first | (simp -implicitDefEqProofs only [go_sem]; done) | ((conv => lhs; simp -implicitDefEqProofs only [go_sem]); done) | (simp -implicitDefEqProofs only [go_sem]; rfl) | rfl) (by first | trivial | (simp [DeepR, DeepV, DeepVs, DeepC, DeepCs, T.scal]; done)) ?_
  cases k2 : withinM e.till 0 2000000
  · simp -implicitDefEqProofs only [go_sem, k2]; simp [enOkM, k1, k2]
  simp -implicitDefEqProofs only [go_sem, k2]
  have ee : enOkM e = kindOkM e := by simp [enOkM, k1, k2]
  rw [ee]
  refine RegD_of sch_75_3 tysOk (by kernel_rfl) ?_
  simp -implicitDefEqProofs only [go_sem, isEmpty_len]
  refine BrA_i (fun g1 => ?_) (fun g1 => ?_) <;> simp -implicitDefEqProofs only [go_sem]
  · have g1 := of_decide_eq_true g1
    have ek : kindOkM e = (decide (e.text.size ≤ 40) && noB e true false false false) := by rw [kindOkM, if_pos g1]
    rw [ek]
    clear ek ee k1 k2
    (repeat' (first   | (refine BrA_i (fun h => ?_) (fun h => ?_) <;> (try simp only [decide_eq_true_eq, decide_eq_false_iff_not, Bool.not_eq_true', Bool.not_eq_false', gt_iff_lt, ge_iff_le] at h) <;> try simp -implicitDefEqProofs only [go_sem])   | (refine And.intro (a := roomy _ _) (by (unfold roomy; (try simp only [List.length_take, List.length_append, List.length_map, List.length_cons, List.length_nil]); omega)) ?_; try simp -implicitDefEqProofs only [go_sem])))
    all_goals (simp_all [noB] <;> omega)
  have g1 := of_decide_eq_false g1
  refine BrA_i (fun g2 => ?_) (fun g2 => ?_) <;> simp -implicitDefEqProofs only [go_sem]
  · have g2 := of_decide_eq_true g2
    have ek : kindOkM e = (!e.list.isEmpty && listOkM e.list && noB e false true false false) := by rw [kindOkM, if_neg g1, if_pos g2]
    rw [ek]
    clear ek ee k1 k2 g1 g2
    cases b1 : e.list.isEmpty
    · simp -implicitDefEqProofs only [go_sem]
      refine CallW.one (s_listOk e.list h1) p_listOk (by first | (simp -implicitDefEqProofs only [go_sem]; done) | ((conv => lhs; simp -implicitDefEqProofs only [go_sem]); done) | (simp -implicitDefEqProofs only [go_sem]; rfl) | rfl) (by first | trivial | (simp [DeepR, DeepV, DeepVs, DeepC, DeepCs, T.scal]; done)) ?_
      cases b2 : listOkM e.list
      · simp -implicitDefEqProofs only [go_sem, b2]; rfl
      · simp -implicitDefEqProofs only [go_sem, b2]
        (repeat' (first   | (refine BrA_i (fun h => ?_) (fun h => ?_) <;> (try simp only [decide_eq_true_eq, decide_eq_false_iff_not, Bool.not_eq_true', Bool.not_eq_false', gt_iff_lt, ge_iff_le] at h) <;> try simp -implicitDefEqProofs only [go_sem])   | (refine And.intro (a := roomy _ _) (by (unfold roomy; (try simp only [List.length_take, List.length_append, List.length_map, List.length_cons, List.length_nil]); omega)) ?_; try simp -implicitDefEqProofs only [go_sem])))
        all_goals (simp_all [noB])
    · simp -implicitDefEqProofs only [go_sem]; rfl
  have g2 := of_decide_eq_false g2
  refine BrA_i (fun g3 => ?_) (fun g3 => ?_) <;> simp -implicitDefEqProofs only [go_sem]
  · have g3 := of_decide_eq_true g3
    have ek : kindOkM e = (!e.list.isEmpty && setOkM e.list && noB e false true false false) := by rw [kindOkM, if_neg g1, if_neg g2, if_pos g3]
    rw [ek]
    clear ek ee k1 k2 g1 g2 g3
    cases b1 : e.list.isEmpty
    · simp -implicitDefEqProofs only [go_sem]
      refine CallW.one (s_SetOk e.list h1) p_SetOk (by first | (simp -implicitDefEqProofs only [go_sem]; done) | ((conv => lhs; simp -implicitDefEqProofs only [go_sem]); done) | (simp -implicitDefEqProofs only [go_sem]; rfl) | rfl) (by first | trivial | (simp [DeepR, DeepV, DeepVs, DeepC, DeepCs, T.scal]; done)) ?_
      cases b2 : setOkM e.list
      · simp -implicitDefEqProofs only [go_sem, b2]; rfl
      · simp -implicitDefEqProofs only [go_sem, b2]
        (repeat' (first   | (refine BrA_i (fun h => ?_) (fun h => ?_) <;> (try simp only [decide_eq_true_eq, decide_eq_false_iff_not, Bool.not_eq_true', Bool.not_eq_false', gt_iff_lt, ge_iff_le] at h) <;> try simp -implicitDefEqProofs only [go_sem])   | (refine And.intro (a := roomy _ _) (by (unfold roomy; (try simp only [List.length_take, List.length_append, List.length_map, List.length_cons, List.length_nil]); omega)) ?_; try simp -implicitDefEqProofs only [go_sem])))
        all_goals (simp_all [noB])
    · simp -implicitDefEqProofs only [go_sem]; rfl
  have g3 := of_decide_eq_false g3
  refine BrA_i (fun g4 => ?_) (fun g4 => ?_) <;> simp -implicitDefEqProofs only [go_sem]
  · have g4 := of_decide_eq_true g4
    have ek : kindOkM e = (!e.scores.isEmpty && scoresOkM e.scores && noB e false false true false) := by rw [kindOkM, if_neg g1, if_neg g2, if_neg g3, if_pos g4]
    rw [ek]
    clear ek ee k1 k2 g1 g2 g3 g4
    cases b1 : e.scores.isEmpty
    · simp -implicitDefEqProofs only [go_sem]
      refine CallW.one (s_ScoresOk e.scores h2) p_ScoresOk (by first | (simp -implicitDefEqProofs only [go_sem]; done) | ((conv => lhs; simp -implicitDefEqProofs only [go_sem]); done) | (simp -implicitDefEqProofs only [go_sem]; rfl) | rfl) (by first | trivial | (simp [DeepR, DeepV, DeepVs, DeepC, DeepCs, T.scal]; done)) ?_
      cases b2 : scoresOkM e.scores
      · simp -implicitDefEqProofs only [go_sem, b2]; rfl
      · simp -implicitDefEqProofs only [go_sem, b2]
        (repeat' (first   | (refine BrA_i (fun h => ?_) (fun h => ?_) <;> (try simp only [decide_eq_true_eq, decide_eq_false_iff_not, Bool.not_eq_true', Bool.not_eq_false', gt_iff_lt, ge_iff_le] at h) <;> try simp -implicitDefEqProofs only [go_sem])   | (refine And.intro (a := roomy _ _) (by (unfold roomy; (try simp only [List.length_take, List.length_append, List.length_map, List.length_cons, List.length_nil]); omega)) ?_; try simp -implicitDefEqProofs only [go_sem])))
        all_goals (simp_all [noB])
    · simp -implicitDefEqProofs only [go_sem]; rfl
  have g4 := of_decide_eq_false g4
  refine BrA_i (fun g5 => ?_) (fun g5 => ?_) <;> simp -implicitDefEqProofs only [go_sem]
  · have g5 := of_decide_eq_true g5
    have ek : kindOkM e = (!e.fields.isEmpty && fieldsOkM e.fields && noB e false false false true) := by rw [kindOkM, if_neg g1, if_neg g2, if_neg g3, if_neg g4, if_pos g5]
    rw [ek]
    clear ek ee k1 k2 g1 g2 g3 g4 g5
    cases b1 : e.fields.isEmpty
    · simp -implicitDefEqProofs only [go_sem]
      refine CallW.one (s_FieldsOk e.fields (by omega)) p_FieldsOk (by first | (simp -implicitDefEqProofs only [go_sem]; done) | ((conv => lhs; simp -implicitDefEqProofs only [go_sem]); done) | (simp -implicitDefEqProofs only [go_sem]; rfl) | rfl) (by first | trivial | (simp [DeepR, DeepV, DeepVs, DeepC, DeepCs, T.scal]; done)) ?_
      cases b2 : fieldsOkM e.fields
      · simp -implicitDefEqProofs only [go_sem, b2]; rfl
      · simp -implicitDefEqProofs only [go_sem, b2]
        (repeat' (first   | (refine BrA_i (fun h => ?_) (fun h => ?_) <;> (try simp only [decide_eq_true_eq, decide_eq_false_iff_not, Bool.not_eq_true', Bool.not_eq_false', gt_iff_lt, ge_iff_le] at h) <;> try simp -implicitDefEqProofs only [go_sem])   | (refine And.intro (a := roomy _ _) (by (unfold roomy; (try simp only [List.length_take, List.length_append, List.length_map, List.length_cons, List.length_nil]); omega)) ?_; try simp -implicitDefEqProofs only [go_sem])))
        all_goals (simp_all [noB])
    · simp -implicitDefEqProofs only [go_sem]; rfl
  have g5 := of_decide_eq_false g5
  rw [kindOkM, if_neg g1, if_neg g2, if_neg g3, if_neg g4, if_neg g5]
theorem p_sEntryOk : Plain Try.prog 73 := ⟨_, Try.func73, rfl, by decide⟩
theorem s_sEntryOk (e : En) (hs : e.lim) : Spec Try.prog 73 [e.av] (fun r => r = Bo (enOkM e)) := by
  obtain ⟨h1, h2, h3⟩ := hs
  refine Spec.of tysOk mixed Try.func73 rfl (by decide) ?_
  simp -implicitDefEqProofs only [go_sem, Try.f73]
  refine CallW.one (s_l4Key e.key) p_l4Key (by first | (simp -implicitDefEqProofs only [go_sem]; done) | ((conv => lhs; simp -implicitDefEqProofs only [go_sem]); done) | (simp -implicitDefEqProofs only [go_sem]; rfl) | rfl) (by first | trivial | (simp [DeepR, DeepV, DeepVs, DeepC, DeepCs, T.scal]; done)) ?_
  cases k1 : keyOkM e.key
  · simp -implicitDefEqProofs only [go_sem, k1]; simp [enOkM, k1]
  simp -implicitDefEqProofs only [go_sem, k1]
  refine CallW.one (s_l1In e.till 0 2000000) p_l1In (by first | (simp -implicitDefEqProofs only [go_sem]; done) | ((conv => lhs; simp -implicitDefEqProofs only [go_sem]); done) | (simp -implicitDefEqProofs only [go_sem]; rfl) | rfl) (by first | trivial | (simp [DeepR, DeepV, DeepVs, DeepC, DeepCs, T.scal]; done)) ?_
  cases k2 : withinM e.till 0 2000000
  · simp -implicitDefEqProofs only [go_sem, k2]; simp [enOkM, k1, k2]
  simp -implicitDefEqProofs only [go_sem, k2]
  have ee : enOkM e = kindOkM e := by simp [enOkM, k1, k2]
  rw [ee]
  simp -implicitDefEqProofs only [go_sem, isEmpty_len0]
  refine BrA_i (fun g1 => ?_) (fun g1 => ?_) <;> simp -implicitDefEqProofs only [go_sem]
  · have g1 := of_decide_eq_true g1
    have ek : kindOkM e = (decide (e.text.size ≤ 40) && noB e true false false false) := by rw [kindOkM, if_pos g1]
    rw [ek]
    clear ek ee k1 k2
    (repeat' (first   | (refine BrA_i (fun h => ?_) (fun h => ?_) <;> (try simp only [decide_eq_true_eq, decide_eq_false_iff_not, Bool.not_eq_true', Bool.not_eq_false', gt_iff_lt, ge_iff_le] at h) <;> try simp -implicitDefEqProofs only [go_sem])   | (refine And.intro (a := roomy _ _) (by (unfold roomy; (try simp only [List.length_take, List.length_append, List.length_map, List.length_cons, List.length_nil]); omega)) ?_; try simp -implicitDefEqProofs only [go_sem])))
    all_goals (simp_all [noB] <;> omega)
  have g1 := of_decide_eq_false g1
  refine BrA_i (fun g2 => ?_) (fun g2 => ?_) <;> simp -implicitDefEqProofs only [go_sem]
  · have g2 := of_decide_eq_true g2
    have ek : kindOkM e = (!e.list.isEmpty && listOkM e.list && noB e false true false false) := by rw [kindOkM, if_neg g1, if_pos g2]
    rw [ek]
    clear ek ee k1 k2 g1 g2
    (repeat' (first   | (refine CallW.one (s_l2Texts e.list h1) p_l2Texts (by first | (simp -implicitDefEqProofs only [go_sem]; done) | ((conv => lhs; simp -implicitDefEqProofs only [go_sem]); done) | (simp -implicitDefEqProofs only [go_sem]; rfl) | rfl) (by first | trivial | (simp [DeepR, DeepV, DeepVs, DeepC, DeepCs, T.scal]; done)) ?_; try simp -implicitDefEqProofs only [go_sem])   | (refine BrA_i (fun h => ?_) (fun h => ?_) <;> (try simp only [decide_eq_true_eq, decide_eq_false_iff_not, Bool.not_eq_true', Bool.not_eq_false', gt_iff_lt, ge_iff_le] at h) <;> try simp -implicitDefEqProofs only [go_sem])   | (refine And.intro (a := roomy _ _) (by (unfold roomy; (try simp only [List.length_take, List.length_append, List.length_map, List.length_cons, List.length_nil]); omega)) ?_; try simp -implicitDefEqProofs only [go_sem])))
    all_goals (simp_all [noB])
  have g2 := of_decide_eq_false g2
  refine BrA_i (fun g3 => ?_) (fun g3 => ?_) <;> simp -implicitDefEqProofs only [go_sem]
  · have g3 := of_decide_eq_true g3
    have ek : kindOkM e = (!e.list.isEmpty && setOkM e.list && noB e false true false false) := by rw [kindOkM, if_neg g1, if_neg g2, if_pos g3]
    rw [ek]
    clear ek ee k1 k2 g1 g2 g3
    (repeat' (first   | (refine CallW.one (s_sSetOk e.list h1) p_sSetOk (by first | (simp -implicitDefEqProofs only [go_sem]; done) | ((conv => lhs; simp -implicitDefEqProofs only [go_sem]); done) | (simp -implicitDefEqProofs only [go_sem]; rfl) | rfl) (by first | trivial | (simp [DeepR, DeepV, DeepVs, DeepC, DeepCs, T.scal]; done)) ?_; try simp -implicitDefEqProofs only [go_sem])   | (refine BrA_i (fun h => ?_) (fun h => ?_) <;> (try simp only [decide_eq_true_eq, decide_eq_false_iff_not, Bool.not_eq_true', Bool.not_eq_false', gt_iff_lt, ge_iff_le] at h) <;> try simp -implicitDefEqProofs only [go_sem])   | (refine And.intro (a := roomy _ _) (by (unfold roomy; (try simp only [List.length_take, List.length_append, List.length_map, List.length_cons, List.length_nil]); omega)) ?_; try simp -implicitDefEqProofs only [go_sem])))
    all_goals (simp_all [noB])
  have g3 := of_decide_eq_false g3
  refine BrA_i (fun g4 => ?_) (fun g4 => ?_) <;> simp -implicitDefEqProofs only [go_sem]
  · have g4 := of_decide_eq_true g4
    have ek : kindOkM e = (!e.scores.isEmpty && scoresOkM e.scores && noB e false false true false) := by rw [kindOkM, if_neg g1, if_neg g2, if_neg g3, if_pos g4]
    rw [ek]
    clear ek ee k1 k2 g1 g2 g3 g4
    (repeat' (first   | (refine CallW.one (s_sScoresOk e.scores h2) p_sScoresOk (by first | (simp -implicitDefEqProofs only [go_sem]; done) | ((conv => lhs; simp -implicitDefEqProofs only [go_sem]); done) | (simp -implicitDefEqProofs only [go_sem]; rfl) | rfl) (by first | trivial | (simp [DeepR, DeepV, DeepVs, DeepC, DeepCs, T.scal]; done)) ?_; try simp -implicitDefEqProofs only [go_sem])   | (refine BrA_i (fun h => ?_) (fun h => ?_) <;> (try simp only [decide_eq_true_eq, decide_eq_false_iff_not, Bool.not_eq_true', Bool.not_eq_false', gt_iff_lt, ge_iff_le] at h) <;> try simp -implicitDefEqProofs only [go_sem])   | (refine And.intro (a := roomy _ _) (by (unfold roomy; (try simp only [List.length_take, List.length_append, List.length_map, List.length_cons, List.length_nil]); omega)) ?_; try simp -implicitDefEqProofs only [go_sem])))
    all_goals (simp_all [noB])
  have g4 := of_decide_eq_false g4
  refine BrA_i (fun g5 => ?_) (fun g5 => ?_) <;> simp -implicitDefEqProofs only [go_sem]
  · have g5 := of_decide_eq_true g5
    have ek : kindOkM e = (!e.fields.isEmpty && fieldsOkM e.fields && noB e false false false true) := by rw [kindOkM, if_neg g1, if_neg g2, if_neg g3, if_neg g4, if_pos g5]
    rw [ek]
    clear ek ee k1 k2 g1 g2 g3 g4 g5
    (repeat' (first   | (refine CallW.one (s_sFieldsOk e.fields (by omega)) p_sFieldsOk (by first | (simp -implicitDefEqProofs only [go_sem]; done) | ((conv => lhs; simp -implicitDefEqProofs only [go_sem]); done) | (simp -implicitDefEqProofs only [go_sem]; rfl) | rfl) (by first | trivial | (simp [DeepR, DeepV, DeepVs, DeepC, DeepCs, T.scal]; done)) ?_; try simp -implicitDefEqProofs only [go_sem])   | (refine BrA_i (fun h => ?_) (fun h => ?_) <;> (try simp only [decide_eq_true_eq, decide_eq_false_iff_not, Bool.not_eq_true', Bool.not_eq_false', gt_iff_lt, ge_iff_le] at h) <;> try simp -implicitDefEqProofs only [go_sem])   | (refine And.intro (a := roomy _ _) (by (unfold roomy; (try simp only [List.length_take, List.length_append, List.length_map, List.length_cons, List.length_nil]); omega)) ?_; try simp -implicitDefEqProofs only [go_sem])))
    all_goals (simp_all [noB])
  have g5 := of_decide_eq_false g5
  rw [kindOkM, if_neg g1, if_neg g2, if_neg g3, if_neg g4, if_neg g5]
def enGood (now : Int) (e : En) : Bool := enOkM e && (decide (e.till = 0) || !decide (e.till ≤ now))
def enLink (x y : En) : Bool := bytesLt x.key y.key
def baseOkM (b : Bs) : Bool := withinM b.now 0 1000000 && decide (b.ents.length ≤ 12) && allAt (enGood b.now) enLink b.ents
def Bs.lim (b : Bs) : Prop := b.ents.length ≤ 1099511627776 ∧ ∀ e ∈ b.ents, e.lim
theorem p_BaseOk : Plain Try.prog 53 := ⟨_, Try.func53, rfl, by decide⟩
theorem s_BaseOk (b : Bs) (hs : b.lim) : Spec Try.prog 53 [b.av] (fun r => r = Bo (baseOkM b)) := by
  obtain ⟨hl, hel⟩ := hs
  obtain ⟨l, hll⟩ : ∃ l, l = b.ents := ⟨_, rfl⟩
  rw [← hll] at hl hel
  have eb : baseOkM b = (withinM b.now 0 1000000 && decide (l.length ≤ 12) && allAt (enGood b.now) enLink l) := by rw [baseOkM, hll]
  have ea : b.av = .agg [I b.now, .t (.list false 7 (l.map En.row))] := by rw [hll]
  rw [eb, ea]
  refine Spec.of tysOk mixed Try.func53 rfl (by decide) ?_
  simp -implicitDefEqProofs only [go_sem, Try.f53]
  refine CallW.one (s_within b.now 0 1000000) p_within (by first | (simp -implicitDefEqProofs only [go_sem]; done) | ((conv => lhs; simp -implicitDefEqProofs only [go_sem]); done) | (simp -implicitDefEqProofs only [go_sem]; rfl) | rfl) (by first | trivial | (simp [DeepR, DeepV, DeepVs, DeepC, DeepCs, T.scal]; done)) ?_
  cases k1 : withinM b.now 0 1000000
  · simp -implicitDefEqProofs only [go_sem, k1]; rfl
  simp -implicitDefEqProofs only [go_sem, k1]
  refine BrA_i (fun k2 => ?_) (fun k2 => ?_) <;> simp -implicitDefEqProofs only [go_sem]
  · have k2 : ¬ l.length ≤ 12 := by have := of_decide_eq_true k2; omega
    simp [k2]
  have k2 : l.length ≤ 12 := by have := of_decide_eq_false k2; omega
  simp only [k2, decide_true, Bool.true_and]
  refine LoopW.slotsM [false, true, false, false, false, false, false, false, false, false, false, false, false, false, false, false, true, true, true, false, false, false, false, false, false, false, false, false, false, false, false, false, false, false, false, false, false, false, false, false, false, false, false, false, false, false, false, false, false, false, false, false, false, false, false] (α := Nat) (fun i => [(18, I i)]) (fun i => []) (fun i => l.length - i) (fun i => i ≤ l.length ∧ ∀ j, j < i → goodAt (enGood b.now) enLink l j = true) 0 (by simp -implicitDefEqProofs only [go_sem, LeTs_undef, LeTs_same, LeTs_nil]; try simp [LeTs]) (by simp -implicitDefEqProofs only [go_sem]) ⟨by omega, fun _ h => by omega⟩ ?_
  rintro i ⟨hi, hz⟩
  simp -implicitDefEqProofs only [go_sem]
  refine BrA_i (fun h => ?_) (fun h => ?_) <;> simp -implicitDefEqProofs only [go_sem]
  · skip
    have h : i < l.length := by simp at h; omega
    have h0i : (0 : Int) ≤ i := by omega
    have h1i : (i : Int) < l.length := by omega
    have wi : IntKind.i64.wrap ((i : Int) + 1) = ((i + 1 : Nat) : Int) := by rw [wrap64 (by omega) (by omega)]; omega
    have hr := row_getD En.row l h
    simp only [En.row] at hr
    have bad : goodAt (enGood b.now) enLink l i = false → AV.t (T.bool false) = Bo (allAt (enGood b.now) enLink l) := fun hg => by
      cases ha : allAt (enGood b.now) enLink l
      · rfl
      · rw [(allAt_iff _ _ _).1 ha i h] at hg; cases hg
    simp -implicitDefEqProofs only [go_sem, h, h0i, h1i, hr, wi]
    refine RegD_of sch_53_6 tysOk (by kernel_rfl) ?_
    simp -implicitDefEqProofs only [go_sem]
    refine CallW.one (s_EntryOk (l[i]) (hel _ (List.getElem_mem h))) p_EntryOk (by first | (simp -implicitDefEqProofs only [go_sem]; done) | ((conv => lhs; simp -implicitDefEqProofs only [go_sem]); done) | (simp -implicitDefEqProofs only [go_sem]; rfl) | rfl) (by first | trivial | (simp [DeepR, DeepV, DeepVs, DeepC, DeepCs, T.scal]; done)) ?_
    cases g1 : enOkM l[i]
    · simp -implicitDefEqProofs only [go_sem, g1]
      exact bad (goodAt_no _ _ _ h (by simp [enGood, g1]))
    simp -implicitDefEqProofs only [go_sem, g1]
    refine BrA_i (fun g3 => ?_) (fun g3 => ?_) <;> simp -implicitDefEqProofs only [go_sem]
    · have g3 : 0 < i := by simpa using g3
      have hq : i - 1 < l.length := by omega
      have hp : IntKind.i64.wrap ((i : Int) - 1) = ((i - 1 : Nat) : Int) := by rw [wrap64 (by omega) (by omega)]; omega
      have hrq := row_getD En.row l hq
      simp only [En.row] at hrq
      have q0 : (0 : Int) ≤ ((i - 1 : Nat) : Int) := by omega
      have q1 : ((i - 1 : Nat) : Int) < l.length := by omega
      have e := goodAt_s (enGood b.now) enLink l h g3
      simp -implicitDefEqProofs only [go_sem, hp, hrq, q0, q1, h, h0i, h1i, hr]
      refine BrA_i (fun g4 => ?_) (fun g4 => ?_) <;> simp -implicitDefEqProofs only [go_sem]
      · refine BrA_i (fun g5 => ?_) (fun g5 => ?_) <;> simp -implicitDefEqProofs only [go_sem, wi]
        · have g5 := of_decide_eq_true g5
          refine .to [32, 193, 194, 195] (i + 1) rfl ?_ ?_ (by omega) ⟨by omega, fun j hj => by
            by_cases hji : j < i
            · exact hz j hji
            · obtain rfl : j = i := by omega
              rw [e]; simp_all [enGood, enLink]⟩ <;> simp -implicitDefEqProofs only [go_sem, LeTs_undef, LeTs_same, LeTs_nil, wi]
        · have g5 := of_decide_eq_false g5
          refine BrA_i (fun g6 => ?_) (fun g6 => ?_) <;> simp -implicitDefEqProofs only [go_sem, wi]
          · have g6 := of_decide_eq_true g6
            exact bad (goodAt_no _ _ _ h (by simp [enGood, g5, g6]))
          · have g6 := of_decide_eq_false g6
            refine .to [32, 193, 194, 195] (i + 1) rfl ?_ ?_ (by omega) ⟨by omega, fun j hj => by
              by_cases hji : j < i
              · exact hz j hji
              · obtain rfl : j = i := by omega
                rw [e]; simp_all [enGood, enLink]⟩ <;> simp -implicitDefEqProofs only [go_sem, LeTs_undef, LeTs_same, LeTs_nil, wi]
      · exact bad (by rw [e]; simp [enLink, g4])
    · have g3 : i = 0 := by have := of_decide_eq_false g3; omega
      have e := goodAt_0 (enGood b.now) enLink l h g3
      have g4 : True := trivial
      refine BrA_i (fun g5 => ?_) (fun g5 => ?_) <;> simp -implicitDefEqProofs only [go_sem, wi]
      · have g5 := of_decide_eq_true g5
        refine .to [32, 193, 194, 195] (i + 1) rfl ?_ ?_ (by omega) ⟨by omega, fun j hj => by
          by_cases hji : j < i
          · exact hz j hji
          · obtain rfl : j = i := by omega
            rw [e]; simp_all [enGood, enLink]⟩ <;> simp -implicitDefEqProofs only [go_sem, LeTs_undef, LeTs_same, LeTs_nil, wi]
      · have g5 := of_decide_eq_false g5
        refine BrA_i (fun g6 => ?_) (fun g6 => ?_) <;> simp -implicitDefEqProofs only [go_sem, wi]
        · have g6 := of_decide_eq_true g6
          exact bad (goodAt_no _ _ _ h (by simp [enGood, g5, g6]))
        · have g6 := of_decide_eq_false g6
          refine .to [32, 193, 194, 195] (i + 1) rfl ?_ ?_ (by omega) ⟨by omega, fun j hj => by
            by_cases hji : j < i
            · exact hz j hji
            · obtain rfl : j = i := by omega
              rw [e]; simp_all [enGood, enLink]⟩ <;> simp -implicitDefEqProofs only [go_sem, LeTs_undef, LeTs_same, LeTs_nil, wi]
  · have h : i = l.length := by simp at h; omega
    subst h
    rw [(allAt_iff _ _ _).2 hz]
theorem p_sBaseOk : Plain Try.prog 50 := ⟨_, Try.func50, rfl, by decide⟩
theorem s_sBaseOk (b : Bs) (hs : b.lim) : Spec Try.prog 50 [b.av] (fun r => r = Bo (baseOkM b)) := by
  obtain ⟨hl, hel⟩ := hs
  obtain ⟨l, hll⟩ : ∃ l, l = b.ents := ⟨_, rfl⟩
  rw [← hll] at hl hel
  have eb : baseOkM b = (withinM b.now 0 1000000 && decide (l.length ≤ 12) && allAt (enGood b.now) enLink l) := by rw [baseOkM, hll]
  have ea : b.av = .agg [I b.now, .t (.list false 7 (l.map En.row))] := by rw [hll]
  rw [eb, ea]
  refine Spec.of tysOk mixed Try.func50 rfl (by decide) ?_
  simp -implicitDefEqProofs only [go_sem, Try.f50]
  refine LoopW.slotsM [false, true, false, true, false, false, false, false, false, false, false, false, false, false, false, false, false, false, false, false, false, false, false, false, false, false, false, false, false, false, false, false, false, false, false, false, false, false, false, false, false, false, false, false, false, false, false, false, false, false, false, false, false, false, false, false, false] (α := Nat) (fun i => [(3, I i)]) (fun i => []) (fun i => l.length - i) (fun i => i ≤ l.length ∧ ∀ j, j < i → goodAt (enGood b.now) enLink l j = true) 0 (by simp -implicitDefEqProofs only [go_sem, LeTs_undef, LeTs_same, LeTs_nil]; try simp [LeTs]) (by simp -implicitDefEqProofs only [go_sem]) ⟨by omega, fun _ h => by omega⟩ ?_
  rintro i ⟨hi, hz⟩
  simp -implicitDefEqProofs only [go_sem]
  refine BrA_i (fun h => ?_) (fun h => ?_) <;> simp -implicitDefEqProofs only [go_sem]
  · skip
    have h : i < l.length := by simp at h; omega
    have h0i : (0 : Int) ≤ i := by omega
    have h1i : (i : Int) < l.length := by omega
    have wi : IntKind.i64.wrap ((i : Int) + 1) = ((i + 1 : Nat) : Int) := by rw [wrap64 (by omega) (by omega)]; omega
    have hr := row_getD En.row l h
    simp only [En.row] at hr
    have bad : goodAt (enGood b.now) enLink l i = false → AV.t (T.bool false) = Bo (withinM b.now 0 1000000 && decide (l.length ≤ 12) && allAt (enGood b.now) enLink l) := fun hg => by
      cases ha : allAt (enGood b.now) enLink l
      · simp
      · rw [(allAt_iff _ _ _).1 ha i h] at hg; cases hg
    simp -implicitDefEqProofs only [go_sem, h, h0i, h1i, hr, wi]
    refine RegD_of sch_50_5 tysOk (by kernel_rfl) ?_
    simp -implicitDefEqProofs only [go_sem]
    refine CallW.one (s_sEntryOk (l[i]) (hel _ (List.getElem_mem h))) p_sEntryOk (by first | (simp -implicitDefEqProofs only [go_sem]; done) | ((conv => lhs; simp -implicitDefEqProofs only [go_sem]); done) | (simp -implicitDefEqProofs only [go_sem]; rfl) | rfl) (by first | trivial | (simp [DeepR, DeepV, DeepVs, DeepC, DeepCs, T.scal]; done)) ?_
    cases g1 : enOkM l[i]
    · simp -implicitDefEqProofs only [go_sem, g1]
      exact bad (goodAt_no _ _ _ h (by simp [enGood, g1]))
    simp -implicitDefEqProofs only [go_sem, g1]
    have fin : (enGood b.now l[i] = true) → (0 < i → bytesLt (l[i - 1]'(by omega)).key l[i].key = true) → goodAt (enGood b.now) enLink l i = true := fun a c => by
      rcases Nat.eq_zero_or_pos i with h0 | h0
      · rw [goodAt_0 _ _ _ h h0, a]
      · rw [goodAt_s _ _ _ h h0, a, enLink, c h0]; rfl
    refine BrA_i (fun g5 => ?_) (fun g5 => ?_) <;> simp -implicitDefEqProofs only [go_sem]
    · have gd : enGood b.now l[i] = true := by have g5 := of_decide_eq_true g5; simp [enGood, g1, g5]
      refine BrA_i (fun g3 => ?_) (fun g3 => ?_) <;> simp -implicitDefEqProofs only [go_sem, wi]
      · have g3 : 0 < i := by simpa using g3
        have hq : i - 1 < l.length := by omega
        have hp : IntKind.i64.wrap ((i : Int) - 1) = ((i - 1 : Nat) : Int) := by rw [wrap64 (by omega) (by omega)]; omega
        have hrq := row_getD En.row l hq
        simp only [En.row] at hrq
        have q0 : (0 : Int) ≤ ((i - 1 : Nat) : Int) := by omega
        have q1 : ((i - 1 : Nat) : Int) < l.length := by omega
        have e := goodAt_s (enGood b.now) enLink l h g3
        simp -implicitDefEqProofs only [go_sem, hp, hrq, q0, q1, h, h0i, h1i, hr]
        refine BrA_i (fun g4 => ?_) (fun g4 => ?_) <;> simp -implicitDefEqProofs only [go_sem, wi]
        · refine .to [32, 145, 146, 147] (i + 1) rfl ?_ ?_ (by omega) ⟨by omega, fun j hj => by
            by_cases hji : j < i
            · exact hz j hji
            · obtain rfl : j = i := by omega
              exact fin gd fun _ => g4⟩ <;> simp -implicitDefEqProofs only [go_sem, LeTs_undef, LeTs_same, LeTs_nil, wi]
        · exact bad (by rw [e]; simp [enLink, g4])
      · have g3 : i = 0 := by have := of_decide_eq_false g3; omega
        refine .to [32, 145, 146, 147] (i + 1) rfl ?_ ?_ (by omega) ⟨by omega, fun j hj => by
          by_cases hji : j < i
          · exact hz j hji
          · obtain rfl : j = i := by omega
            exact fin gd fun h0 => by omega⟩ <;> simp -implicitDefEqProofs only [go_sem, LeTs_undef, LeTs_same, LeTs_nil, wi]
    · have g5 := of_decide_eq_false g5
      refine BrA_i (fun g6 => ?_) (fun g6 => ?_) <;> simp -implicitDefEqProofs only [go_sem]
      · have g6 := of_decide_eq_true g6
        exact bad (goodAt_no _ _ _ h (by simp [enGood, g5, g6]))
      have gd : enGood b.now l[i] = true := by have g6 := of_decide_eq_false g6; simp [enGood, g1, g5, g6]
      refine BrA_i (fun g3 => ?_) (fun g3 => ?_) <;> simp -implicitDefEqProofs only [go_sem, wi]
      · have g3 : 0 < i := by simpa using g3
        have hq : i - 1 < l.length := by omega
        have hp : IntKind.i64.wrap ((i : Int) - 1) = ((i - 1 : Nat) : Int) := by rw [wrap64 (by omega) (by omega)]; omega
        have hrq := row_getD En.row l hq
        simp only [En.row] at hrq
        have q0 : (0 : Int) ≤ ((i - 1 : Nat) : Int) := by omega
        have q1 : ((i - 1 : Nat) : Int) < l.length := by omega
        have e := goodAt_s (enGood b.now) enLink l h g3
        simp -implicitDefEqProofs only [go_sem, hp, hrq, q0, q1, h, h0i, h1i, hr]
        refine BrA_i (fun g4 => ?_) (fun g4 => ?_) <;> simp -implicitDefEqProofs only [go_sem, wi]
        · refine .to [32, 145, 146, 147] (i + 1) rfl ?_ ?_ (by omega) ⟨by omega, fun j hj => by
            by_cases hji : j < i
            · exact hz j hji
            · obtain rfl : j = i := by omega
              exact fin gd fun _ => g4⟩ <;> simp -implicitDefEqProofs only [go_sem, LeTs_undef, LeTs_same, LeTs_nil, wi]
        · exact bad (by rw [e]; simp [enLink, g4])
      · have g3 : i = 0 := by have := of_decide_eq_false g3; omega
        refine .to [32, 145, 146, 147] (i + 1) rfl ?_ ?_ (by omega) ⟨by omega, fun j hj => by
          by_cases hji : j < i
          · exact hz j hji
          · obtain rfl : j = i := by omega
            exact fin gd fun h0 => by omega⟩ <;> simp -implicitDefEqProofs only [go_sem, LeTs_undef, LeTs_same, LeTs_nil, wi]
  · have h : i = l.length := by simp at h; omega
    subst h
    rw [(allAt_iff _ _ _).2 hz]
    refine CallW.one (s_l1In b.now 0 1000000) p_l1In (by first | (simp -implicitDefEqProofs only [go_sem]; done) | ((conv => lhs; simp -implicitDefEqProofs only [go_sem]); done) | (simp -implicitDefEqProofs only [go_sem]; rfl) | rfl) (by first | trivial | (simp [DeepR, DeepV, DeepVs, DeepC, DeepCs, T.scal]; done)) ?_
    cases k1 : withinM b.now 0 1000000
    · simp -implicitDefEqProofs only [go_sem, k1]; rfl
    simp -implicitDefEqProofs only [go_sem, k1]
    have : decide ((l.length : Int) ≤ 12) = decide (l.length ≤ 12) := decide_eq_decide.2 (by omega)
    rw [this]
    try simp
end Go.Proofs.Ythbhnjcnbnlidaa.Am
namespace Go.Proofs.Ythbhnjcnbnlidaa.Am
open Go
set_option maxRecDepth 100000
set_option linter.unusedSimpArgs false
set_option linter.unusedVariables false
def mL : List UInt8 → List UInt8 → Bool
  | [], t => t.isEmpty
  | c :: p, t => if c = 42 then mL p t || (match t with | [] => false | _ :: t' => mL (c :: p) t') else match t with | [] => false | d :: t' => (decide (c = 63) || decide (c = d)) && mL p t'
termination_by p t => p.length + t.length
theorem mL_nil (t : List UInt8) : mL [] t = t.isEmpty := by rw [mL]
theorem mL_cons (c : UInt8) (p t : List UInt8) : mL (c :: p) t = if c = 42 then mL p t || (match t with | [] => false | _ :: t' => mL (c :: p) t') else match t with | [] => false | d :: t' => (decide (c = 63) || decide (c = d)) && mL p t' := by
  rw [mL.eq_def]
theorem mL_star (p : List UInt8) : ∀ t : List UInt8, mL (42 :: p) t = true ↔ ∃ a b, t = a ++ b ∧ mL p b = true
  | [] => by
    rw [mL_cons]
    simp only [if_true, Bool.or_false]
    exact ⟨fun h => ⟨[], [], rfl, h⟩, fun ⟨a, b, e, h⟩ => by
      have := List.append_eq_nil_iff.1 e.symm
      rw [this.2] at h; exact h⟩
  | d :: t => by
    rw [mL_cons]
    simp only [if_true, Bool.or_eq_true]
    rw [mL_star p t]
    constructor
    · rintro (h | ⟨a, b, rfl, h⟩)
      · exact ⟨[], d :: t, rfl, h⟩
      · exact ⟨d :: a, b, rfl, h⟩
    · rintro ⟨a, b, e, h⟩
      cases a with
      | nil => left; simp only [List.nil_append] at e; rw [e]; exact h
      | cons x a => right; simp only [List.cons_append, List.cons.injEq] at e; exact ⟨a, b, e.2, h⟩
theorem mL_chr {c : UInt8} (hc : c ≠ 42) (p t : List UInt8) : mL (c :: p) t = true ↔ ∃ d t', t = d :: t' ∧ (c = 63 ∨ c = d) ∧ mL p t' = true := by
  rw [mL_cons, if_neg hc]
  cases t with
  | nil => simp
  | cons d t' =>
    simp only [Bool.and_eq_true, Bool.or_eq_true, decide_eq_true_eq, List.cons.injEq]
    exact ⟨fun h => ⟨d, t', ⟨rfl, rfl⟩, h.1, h.2⟩, fun ⟨_, _, ⟨rfl, rfl⟩, h1, h2⟩ => ⟨h1, h2⟩⟩
theorem mL_app (q : List UInt8) : ∀ p t : List UInt8, mL (p ++ q) t = true ↔ ∃ a b, t = a ++ b ∧ mL p a = true ∧ mL q b = true
  | [], t => by
    simp only [List.nil_append, mL_nil, List.isEmpty_iff]
    exact ⟨fun h => ⟨[], t, rfl, rfl, h⟩, fun ⟨a, b, e, h1, h2⟩ => by subst h1; simp only [List.nil_append] at e; rw [e]; exact h2⟩
  | c :: p, t => by
    rw [List.cons_append]
    by_cases hc : c = 42
    · subst hc
      rw [mL_star]
      constructor
      · rintro ⟨a, b, rfl, h⟩
        obtain ⟨b1, b2, rfl, h1, h2⟩ := (mL_app q p b).1 h
        exact ⟨a ++ b1, b2, by rw [List.append_assoc], (mL_star p _).2 ⟨a, b1, rfl, h1⟩, h2⟩
      · rintro ⟨a, b, rfl, h1, h2⟩
        obtain ⟨a1, a2, rfl, h3⟩ := (mL_star p a).1 h1
        exact ⟨a1, a2 ++ b, by rw [List.append_assoc], (mL_app q p _).2 ⟨a2, b, rfl, h3, h2⟩⟩
    · rw [mL_chr hc]
      constructor
      · rintro ⟨d, t', rfl, h1, h⟩
        obtain ⟨a, b, rfl, h2, h3⟩ := (mL_app q p t').1 h
        exact ⟨d :: a, b, rfl, (mL_chr hc _ _).2 ⟨d, a, rfl, h1, h2⟩, h3⟩
      · rintro ⟨a, b, rfl, h1, h2⟩
        obtain ⟨d, a', rfl, h3, h4⟩ := (mL_chr hc _ _).1 h1
        exact ⟨d, a' ++ b, rfl, h3, (mL_app q p _).2 ⟨a', b, rfl, h4, h2⟩⟩
theorem snoc_cases {α : Type} (t a b : List α) (d : α) (e : t ++ [d] = a ++ b) : (b = [] ∧ a = t ++ [d]) ∨ ∃ b', b = b' ++ [d] ∧ t = a ++ b' := by
  rcases List.eq_nil_or_concat b with rfl | ⟨b', x, rfl⟩
  · left; simpa using e.symm
  · right
    simp only [List.concat_eq_append] at *
    rw [← List.append_assoc] at e
    have := List.append_inj' e rfl
    obtain ⟨h1, h2⟩ := this
    simp only [List.cons.injEq, and_true] at h2
    subst h2
    exact ⟨b', rfl, h1⟩
theorem mL_snoc_star (p : List UInt8) : mL (p ++ [42]) [] = mL p [] := by
  rw [Bool.eq_iff_iff, mL_app]
  constructor
  · rintro ⟨a, b, e, h, _⟩
    have := List.append_eq_nil_iff.1 e.symm
    rw [this.1] at h; exact h
  · intro h
    exact ⟨[], [], rfl, h, (mL_star [] []).2 ⟨[], [], rfl, by rw [mL_nil]; rfl⟩⟩
theorem star_all (b : List UInt8) : mL [42] b = true := (mL_star [] b).2 ⟨b, [], by simp, by rw [mL_nil]; rfl⟩
theorem mL_snoc_star' (p t : List UInt8) (d : UInt8) : mL (p ++ [42]) (t ++ [d]) = (mL p (t ++ [d]) || mL (p ++ [42]) t) := by
  rw [Bool.eq_iff_iff, Bool.or_eq_true, mL_app, mL_app]
  constructor
  · rintro ⟨a, b, e, h, _⟩
    rcases snoc_cases _ _ _ _ e with ⟨rfl, rfl⟩ | ⟨b', rfl, rfl⟩
    · left; exact h
    · right; exact ⟨a, b', rfl, h, star_all _⟩
  · rintro (h | ⟨a, b, rfl, h, _⟩)
    · exact ⟨t ++ [d], [], by simp, h, star_all _⟩
    · exact ⟨a, b ++ [d], by rw [List.append_assoc], h, star_all _⟩
theorem mL_snoc_chr {c : UInt8} (hc : c ≠ 42) (p : List UInt8) : mL (p ++ [c]) [] = false := by
  cases h : mL (p ++ [c]) [] with
  | false => rfl
  | true =>
    obtain ⟨a, b, e, _, h2⟩ := (mL_app _ _ _).1 h
    have := List.append_eq_nil_iff.1 e.symm
    rw [this.2] at h2
    obtain ⟨d, t', e2, _⟩ := (mL_chr hc _ _).1 h2
    cases e2
theorem mL_snoc_chr' {c : UInt8} (hc : c ≠ 42) (p t : List UInt8) (d : UInt8) : mL (p ++ [c]) (t ++ [d]) = ((decide (c = 63) || decide (c = d)) && mL p t) := by
  rw [Bool.eq_iff_iff, Bool.and_eq_true, Bool.or_eq_true, decide_eq_true_eq, decide_eq_true_eq, mL_app]
  constructor
  · rintro ⟨a, b, e, h, h2⟩
    obtain ⟨d', t', rfl, h3, h4⟩ := (mL_chr hc _ _).1 h2
    rw [mL_nil, List.isEmpty_iff] at h4
    subst h4
    obtain ⟨rfl, h5⟩ := List.append_inj' e rfl
    simp only [List.cons.injEq, and_true] at h5
    subst h5
    exact ⟨h3, h⟩
  · rintro ⟨h1, h⟩
    exact ⟨t, [d], rfl, h, (mL_chr hc _ _).2 ⟨d, [], rfl, h1, by rw [mL_nil]; rfl⟩⟩
def matchM (p t : ByteArray) : Bool := mL p.data.toList t.data.toList
end Go.Proofs.Ythbhnjcnbnlidaa.Am
namespace Go.Proofs.Ythbhnjcnbnlidaa.Am
open Go
set_option maxRecDepth 100000
set_option maxHeartbeats 2000000
set_option linter.unusedSimpArgs false
set_option linter.unusedVariables false
theorem ba_empty {b : ByteArray} (h : b.size = 0) : b = ⟨#[]⟩ := by
  obtain ⟨⟨l⟩⟩ := b
  have : l.length = 0 := h
  rw [List.length_eq_zero_iff.1 this]
theorem ba_cons {b : ByteArray} (h : 0 < b.size) : ∃ c r, b.data.toList = c :: r ∧ (b.extract 1 b.size).data.toList = r ∧ byteAt b 0 = (c.toNat : Nat) ∧ r.length = b.size - 1 := by
  obtain ⟨⟨l⟩⟩ := b
  cases l with
  | nil => exact absurd h (by show ¬ 0 < 0; omega)
  | cons c r =>
    refine ⟨c, r, rfl, ?_, rfl, ?_⟩
    · rw [ByteArray.data_extract]
      simp only [Array.toList_extract, List.extract_eq_take_drop]
      show List.take ((c :: r).length - 1) (List.drop 1 (c :: r)) = r
      simp
    · show r.length = (c :: r).length - 1
      simp
theorem ba_ext1 (b : ByteArray) (h : 0 < b.size) : (b.extract 1 b.size).size = b.size - 1 := by rw [ByteArray.size_extract]; omega
theorem u8_eq (c : UInt8) (n : Nat) (hn : n < 256) : decide (((c.toNat : Nat) : Int) = (n : Int)) = decide (c = UInt8.ofNat n) := by
  refine decide_eq_decide.2 ⟨fun h => ?_, fun h => ?_⟩
  · have : c.toNat = n := by omega
    rw [← this]; simp
  · subst h; simp; omega
theorem u8_eq2 (c d : UInt8) : decide (((c.toNat : Nat) : Int) = ((d.toNat : Nat) : Int)) = decide (c = d) := by
  refine decide_eq_decide.2 ⟨fun h => ?_, fun h => by rw [h]⟩
  exact UInt8.toNat_inj.1 (by omega)
theorem p_sMatch : Plain Try.prog 51 := ⟨_, Try.func51, rfl, by decide⟩
theorem s_sMatchN : ∀ (n : Nat) (p t : ByteArray), p.size + t.size ≤ n → n ≤ 1099511627776 → Spec Try.prog 51 [.t (.str p), .t (.str t)] (fun r => r = Bo (matchM p t)) := by
  intro n
  induction n with
  | zero =>
    intro p t h _
    have h1 := ba_empty (b := p) (by omega)
    have h2 := ba_empty (b := t) (by omega)
    subst h1 h2
    refine Spec.of tysOk mixed Try.func51 rfl (by decide) ?_
    simp -implicitDefEqProofs only [go_sem, Try.f51]
    simp [matchM, mL_nil]
  | succ n s_sMatch =>
    intro p t hsz hn
    refine Spec.of tysOk mixed Try.func51 rfl (by decide) ?_
    simp -implicitDefEqProofs only [go_sem, Try.f51]
    refine BrA_i (fun h1 => ?_) (fun h1 => ?_) <;> simp -implicitDefEqProofs only [go_sem]
    · have h1 := of_decide_eq_true h1
      subst h1
      have : matchM ⟨#[]⟩ t = decide (t = ⟨#[]⟩) := by
        unfold matchM
        rw [show (ByteArray.mk #[]).data.toList = [] from rfl, mL_nil]
        by_cases h : t = ⟨#[]⟩
        · subst h; simp
        · have : t.data.toList ≠ [] := fun he => h (ba_empty (by show t.data.toList.length = 0; rw [he]; rfl))
          cases ht : t.data.toList with
          | nil => exact absurd ht this
          | cons a b => simp [h]
      rw [this]
    have h1 := of_decide_eq_false h1
    have hp : 0 < p.size := Nat.pos_of_ne_zero fun h => h1 (ba_empty h)
    obtain ⟨c, r, e1, e2, e3, e4⟩ := ba_cons hp
    have i0 : (0 : Int) < p.size := by omega
    have em : matchM p t = mL (c :: r) t.data.toList := by rw [matchM, e1]
    have e42 : decide ((c.toNat : Int) = 42) = decide (c = 42) := u8_eq c 42 (by omega)
    have e63 : decide ((c.toNat : Int) = 63) = decide (c = 63) := u8_eq c 63 (by omega)
    rw [em]
    refine ⟨i0, ?_⟩
    rw [e3, e42]
    have p1 : (1 : Int) ≤ p.size := by omega
    have t1 : Int.toNat 1 = 1 := rfl
    have sp := ba_ext1 p hp
    have ep : matchM (p.extract 1 p.size) t = mL r t.data.toList := by rw [matchM, e2]
    refine BrA_i (fun h2 => ?_) (fun h2 => ?_) <;> simp -implicitDefEqProofs only [go_sem, p1, t1]
    · have h2 : c = 42 := of_decide_eq_true h2
      subst h2
      refine ⟨Int.le_refl _, ?_⟩
      refine CallW.one (s_sMatch (p.extract 1 p.size) t (by omega) (by omega)) p_sMatch (by first | (simp -implicitDefEqProofs only [go_sem]; done) | ((conv => lhs; simp -implicitDefEqProofs only [go_sem]); done) | (simp -implicitDefEqProofs only [go_sem]; rfl) | rfl) (by first | trivial | (simp [DeepR, DeepV, DeepVs, DeepC, DeepCs, T.scal]; done)) ?_
      rw [ep]
      cases h3 : mL r t.data.toList
      · simp -implicitDefEqProofs only [go_sem]
        refine BrA_i (fun h4 => ?_) (fun h4 => ?_) <;> simp -implicitDefEqProofs only [go_sem]
        · have h4 := of_decide_eq_true h4
          subst h4
          have : mL (42 :: r) (ByteArray.mk #[]).data.toList = false := by rw [mL_cons, if_pos rfl, h3]; rfl
          rw [this]
        · have h4 := of_decide_eq_false h4
          have ht : 0 < t.size := Nat.pos_of_ne_zero fun h => h4 (ba_empty h)
          obtain ⟨d, q, f1, f2, f3, f4⟩ := ba_cons ht
          have q1 : (1 : Int) ≤ t.size := by omega
          have st := ba_ext1 t ht
          simp -implicitDefEqProofs only [go_sem, q1, t1]
          refine ⟨Int.le_refl _, ?_⟩
          refine CallW.one (s_sMatch p (t.extract 1 t.size) (by omega) (by omega)) p_sMatch (by first | (simp -implicitDefEqProofs only [go_sem]; done) | ((conv => lhs; simp -implicitDefEqProofs only [go_sem]); done) | (simp -implicitDefEqProofs only [go_sem]; rfl) | rfl) (by first | trivial | (simp [DeepR, DeepV, DeepVs, DeepC, DeepCs, T.scal]; done)) ?_
          simp -implicitDefEqProofs only [go_sem]
          have : mL (42 :: r) t.data.toList = matchM p (t.extract 1 t.size) := by
            rw [mL_cons, if_pos rfl, h3, f1, matchM, f2, e1]; rfl
          rw [this]
      · simp -implicitDefEqProofs only [go_sem]
        have : mL (42 :: r) t.data.toList = true := by rw [mL_cons, if_pos rfl, h3]; rfl
        rw [this]
    · have h2 : c ≠ 42 := of_decide_eq_false h2
      refine RegD_of sch_51_5 tysOk (by kernel_rfl) ?_
      simp -implicitDefEqProofs only [go_sem, i0, e3, e63]
      refine BrA_i (fun h4 => ?_) (fun h4 => ?_) <;> simp -implicitDefEqProofs only [go_sem, i0, e3, e63]
      · have h4 := of_decide_eq_true h4
        subst h4
        have : mL (c :: r) (ByteArray.mk #[]).data.toList = false := by rw [mL_cons, if_neg h2]
        rw [this]
      · have h4 := of_decide_eq_false h4
        have ht : 0 < t.size := Nat.pos_of_ne_zero fun h => h4 (ba_empty h)
        obtain ⟨d, q, f1, f2, f3, f4⟩ := ba_cons ht
        have q0 : (0 : Int) < t.size := by omega
        have q1 : (1 : Int) ≤ t.size := by omega
        have st := ba_ext1 t ht
        have ecd : decide ((c.toNat : Int) = (d.toNat : Int)) = decide (c = d) := u8_eq2 c d
        have eq2 : matchM (p.extract 1 p.size) (t.extract 1 t.size) = mL r q := by rw [matchM, e2, f2]
        have el : mL (c :: r) t.data.toList = ((decide (c = 63) || decide (c = d)) && mL r q) := by rw [f1, mL_cons, if_neg h2]
        rw [el]
        refine BrA_i (fun h5 => ?_) (fun h5 => ?_) <;> simp -implicitDefEqProofs only [go_sem, i0, q0, p1, q1, t1, e3, f3, ecd]
        · rw [h5]
          refine ⟨Int.le_refl _, Int.le_refl _, ?_⟩
          refine CallW.one (s_sMatch (p.extract 1 p.size) (t.extract 1 t.size) (by omega) (by omega)) p_sMatch (by first | (simp -implicitDefEqProofs only [go_sem]; done) | ((conv => lhs; simp -implicitDefEqProofs only [go_sem]); done) | (simp -implicitDefEqProofs only [go_sem]; rfl) | rfl) (by first | trivial | (simp [DeepR, DeepV, DeepVs, DeepC, DeepCs, T.scal]; done)) ?_
          simp -implicitDefEqProofs only [go_sem]
          rw [eq2]; simp
        · rw [h5]
          refine BrA_i (fun h6 => ?_) (fun h6 => ?_) <;> simp -implicitDefEqProofs only [go_sem, p1, q1, t1]
          · rw [h6]
            refine ⟨Int.le_refl _, Int.le_refl _, ?_⟩
            refine CallW.one (s_sMatch (p.extract 1 p.size) (t.extract 1 t.size) (by omega) (by omega)) p_sMatch (by first | (simp -implicitDefEqProofs only [go_sem]; done) | ((conv => lhs; simp -implicitDefEqProofs only [go_sem]); done) | (simp -implicitDefEqProofs only [go_sem]; rfl) | rfl) (by first | trivial | (simp [DeepR, DeepV, DeepVs, DeepC, DeepCs, T.scal]; done)) ?_
            simp -implicitDefEqProofs only [go_sem]
            rw [eq2]; first | done | simp
          · rw [h6]; rfl
theorem s_sMatch (p t : ByteArray) (h : p.size + t.size ≤ 1099511627776) : Spec Try.prog 51 [.t (.str p), .t (.str t)] (fun r => r = Bo (matchM p t)) := s_sMatchN _ p t (Nat.le_refl _) h
def mAt (p t : List UInt8) (k a : Nat) : Bool := mL (p.take k) (t.take a)
def mRow (p t : List UInt8) (k n : Nat) : List Bool := (List.range n).map (mAt p t k)
def Bl.row (b : Bool) : List T := [.bool b]
theorem mAt_00 (p t : List UInt8) (a : Nat) (h : a ≤ t.length) : mAt p t 0 a = decide (a = 0) := by
  unfold mAt
  rw [List.take_zero, mL_nil]
  cases a with
  | zero => simp
  | succ a =>
    cases t with
    | nil => simp at h
    | cons x t => simp
theorem mAt_star0 {p t : List UInt8} {k : Nat} (hk : k < p.length) (hc : p[k] = 42) : mAt p t (k + 1) 0 = mAt p t k 0 := by
  unfold mAt
  rw [List.take_succ_eq_append_getElem hk, hc, List.take_zero, mL_snoc_star]
theorem mAt_star {p t : List UInt8} {k a : Nat} (hk : k < p.length) (ha : a < t.length) (hc : p[k] = 42) : mAt p t (k + 1) (a + 1) = (mAt p t k (a + 1) || mAt p t (k + 1) a) := by
  unfold mAt
  rw [List.take_succ_eq_append_getElem hk, hc, List.take_succ_eq_append_getElem ha, mL_snoc_star']
theorem mAt_chr0 {p t : List UInt8} {k : Nat} (hk : k < p.length) (hc : p[k] ≠ 42) : mAt p t (k + 1) 0 = false := by
  unfold mAt
  rw [List.take_succ_eq_append_getElem hk, List.take_zero, mL_snoc_chr hc]
theorem mAt_chr {p t : List UInt8} {k a : Nat} (hk : k < p.length) (ha : a < t.length) (hc : p[k] ≠ 42) : mAt p t (k + 1) (a + 1) = ((decide (p[k] = 63) || decide (p[k] = t[a])) && mAt p t k a) := by
  unfold mAt
  rw [List.take_succ_eq_append_getElem hk, List.take_succ_eq_append_getElem ha, mL_snoc_chr' hc]
theorem mRow_get (p t : List UInt8) (k : Nat) {n i : Nat} (h : i < n) : ((mRow p t k n).map Bl.row).getD i [] = [.bool (mAt p t k i)] := by
  simp [mRow, List.getD, h, Bl.row]
def half (p t : List UInt8) (k n a : Nat) : List Bool := mRow p t k a ++ List.replicate (n - a) false
theorem half_get (p t : List UInt8) (k : Nat) {n a i : Nat} (h : i < a) : ((half p t k n a).map Bl.row).getD i [] = [.bool (mAt p t k i)] := by
  have : i < (mRow p t k a).length := by simp [mRow, h]
  have e : ((mRow p t k a ++ List.replicate (n - a) false).map Bl.row)[i]? = some [.bool (mAt p t k i)] := by
    rw [List.getElem?_map, List.getElem?_append_left this]; simp [mRow, h, Bl.row]
  rw [List.getD, half, e]; rfl
theorem half_at (p t : List UInt8) (k : Nat) {n a : Nat} (h : a < n) : ((half p t k n a).map Bl.row).getD a [] = [.bool false] := by
  have e : (mRow p t k a).length = a := by simp [mRow]
  have : 0 < n - a := by omega
  simp [half, List.getD, List.getElem?_append_right, e, Bl.row, this]
theorem half_len (p t : List UInt8) (k : Nat) {n a : Nat} (h : a ≤ n) : (half p t k n a).length = n := by
  simp [half, mRow]; omega
theorem half_set (p t : List UInt8) (k : Nat) {n a : Nat} (h : a < n) (b : Bool) (hb : b = mAt p t k a) : ((half p t k n a).map Bl.row).set a [.bool b] = (half p t k n (a + 1)).map Bl.row := by
  have e : (mRow p t k a).length = a := by simp [mRow]
  have e2 : n - a = (n - (a + 1)) + 1 := by omega
  have e3 : mRow p t k (a + 1) = mRow p t k a ++ [mAt p t k a] := by simp [mRow, List.range_succ]
  rw [half, half, e3, e2, List.replicate_succ, List.map_append, List.set_append_right _ _ (by simp [e])]
  simp [e, hb, Bl.row]
theorem half_skip (p t : List UInt8) (k : Nat) {n a : Nat} (h : a < n) (hb : mAt p t k a = false) : (half p t k n (a + 1)).map Bl.row = (half p t k n a).map Bl.row := by
  have e2 : n - a = (n - (a + 1)) + 1 := by omega
  have e3 : mRow p t k (a + 1) = mRow p t k a ++ [false] := by simp [mRow, List.range_succ, hb]
  rw [half, half, e3, e2, List.replicate_succ, List.append_assoc]; rfl
theorem half_0 (p t : List UInt8) (k n : Nat) : (half p t k n 0).map Bl.row = List.replicate n [.bool false] := by
  simp [half, mRow, Bl.row]
theorem half_n (p t : List UInt8) (k n : Nat) : half p t k n n = mRow p t k n := by simp [half]
theorem row_0 (p t : List UInt8) : (List.replicate (t.length + 1) [T.bool false]).set 0 [T.bool true] = (mRow p t 0 (t.length + 1)).map Bl.row := by
  apply List.ext_getElem (by simp [mRow])
  intro i h1 h2
  have hi : i ≤ t.length := by simp at h1; omega
  simp only [mRow, List.map_map, List.getElem_map, List.getElem_range, Function.comp, Bl.row, mAt_00 p t i hi]
  rw [List.getElem_set]
  by_cases h : i = 0
  · subst h; simp
  · simp [h, Ne.symm h]
theorem byteAt_at (b : ByteArray) (k : Nat) (h : k < b.data.toList.length) : byteAt b (k : Int) = ((b.data.toList[k].toNat : Nat) : Int) := by
  unfold byteAt
  simp only [Int.toNat_natCast]
  have h' : k < b.data.size := by simpa using h
  have h2 : k < b.size := h'
  simp [Array.getD, h2]
theorem p_Match : Plain Try.prog 55 := ⟨_, Try.func55, rfl, by decide⟩
theorem s_Match (p t : ByteArray) (h1 : p.size ≤ 1048576) (h2 : t.size ≤ 1048576) : Spec Try.prog 55 [.t (.str p), .t (.str t)] (fun r => r = Bo (matchM p t)) := by
  obtain ⟨P, hP⟩ : ∃ P, P = p.data.toList := ⟨_, rfl⟩
  obtain ⟨U, hU⟩ : ∃ U, U = t.data.toList := ⟨_, rfl⟩
  have lP : P.length = p.size := by rw [hP]; rfl
  have lU : U.length = t.size := by rw [hU]; rfl
  refine Spec.of tysOk mixed Try.func55 rfl (by decide) ?_
  have w1 : IntKind.i64.wrap ((t.size : Int) + 1) = ((t.size + 1 : Nat) : Int) := by rw [wrap64 (by omega) (by omega)]; omega
  simp -implicitDefEqProofs only [go_sem, Try.f55, w1]
  obtain ⟨n, hn⟩ : ∃ n, n = t.size + 1 := ⟨_, rfl⟩
  rw [← hn]
  have hU1 : U.length + 1 = n := by omega
  have t0 : Int.toNat 0 = 0 := rfl
  have g0 : (List.replicate n [T.bool false]).getD 0 [] = [T.bool false] := by rw [hn]; rfl
  have r0 := row_0 P U
  rw [hU1] at r0
  have hmr : ∀ k, (mRow P U k n).length = n := fun k => by simp [mRow]
  simp -implicitDefEqProofs only [go_sem, t0, g0, List.length_replicate, repl, r0]
  refine ⟨⟨by omega, by unfold roomy; omega⟩, by omega, by omega, ?_⟩
  refine LoopW.slotsM [true, true, false, false, false, true, false, false, false, false, false, false, false, false, false, false, true, true, false, false, false, false, false, false, false, false, false, false, false, false, false, false, false, false, false, false, false, false, false, false, false, false, false, false, false, false, false, false, false, false, false, false, false, false, false, false, false, false, false, false, false, false, false, false, false, false, false, false, false, false, false, false, false, false, false, false, false, false, false, false, false, false, false, false, false, false, false] (α := Nat) (fun k => [(17, I k)]) (fun k => [(96, .rows 1 ((mRow P U k n).map Bl.row))]) (fun k => P.length - k) (fun k => k ≤ P.length) 0 (by simp -implicitDefEqProofs only [go_sem, LeTs_undef, LeTs_same, LeTs_nil]; try simp [LeTs]) (by simp -implicitDefEqProofs only [go_sem]) (by omega) ?_
  intro k hk
  simp -implicitDefEqProofs only [go_sem]
  refine BrA_i (fun h => ?_) (fun h => ?_) <;> simp -implicitDefEqProofs only [go_sem]
  · have h : k < P.length := by have := of_decide_eq_true h; omega
    have wk : IntKind.i64.wrap ((k : Int) + 1) = ((k + 1 : Nat) : Int) := by rw [wrap64 (by omega) (by omega)]; omega
    have bk : byteAt p (k : Int) = ((P[k].toNat : Nat) : Int) := by subst hP; exact byteAt_at p k h
    have k0 : (0 : Int) ≤ k := by omega
    have k1 : (k : Int) < p.size := by omega
    have h0 := half_0 P U (k + 1) n
    simp -implicitDefEqProofs only [go_sem, w1]
    rw [← hn]
    refine ⟨⟨by omega, by unfold roomy; omega⟩, ?_⟩
    refine LoopW.slotsM [true, true, false, false, false, true, true, true, false, false, false, false, false, false, false, false, true, true, false, false, false, false, false, false, false, true, true, false, false, false, false, false, false, false, false, false, false, false, false, false, false, false, false, false, false, false, false, false, false, false, false, false, false, false, false, false, false, false, false, false, false, false, false, false, false, false, false, false, false, false, false, false, false, false, false, false, false, false, false, false, false, false, false, false, false, false, false] (α := Nat) (fun a => [(26, I a)]) (fun a => [(184, .rows 1 ((half P U (k + 1) n a).map Bl.row))]) (fun a => n - a) (fun a => a ≤ n) 0 (by simp -implicitDefEqProofs only [go_sem, LeTs_undef, LeTs_same, LeTs_nil]; try simp [LeTs]) (by simp -implicitDefEqProofs only [go_sem, h0]) (by omega) ?_
    intro a ha
    simp -implicitDefEqProofs only [go_sem, hmr]
    refine BrA_i (fun g => ?_) (fun g => ?_) <;> simp -implicitDefEqProofs only [go_sem]
    · have g : a < n := by have := of_decide_eq_true g; omega
      have wa : IntKind.i64.wrap ((a : Int) + 1) = ((a + 1 : Nat) : Int) := by rw [wrap64 (by omega) (by omega)]; omega
      have a0 : (0 : Int) ≤ a := by omega
      have a1 : (a : Int) < n := by omega
      have ga := mRow_get P U k g
      have hl := half_len P U (k + 1) (n := n) (a := a) (by omega)
      have hat := half_at P U (k + 1) g
      have e42 : decide (((P[k].toNat : Nat) : Int) = 42) = decide (P[k] = 42) := u8_eq P[k] 42 (by omega)
      have e63 : decide (((P[k].toNat : Nat) : Int) = 63) = decide (P[k] = 63) := u8_eq P[k] 63 (by omega)
      have lst := fun b hb => half_set P U (k + 1) g b hb
      simp -implicitDefEqProofs only [go_sem, k0, k1, bk, e42]
      refine BrA_i (fun g1 => ?_) (fun g1 => ?_) <;> simp -implicitDefEqProofs only [go_sem, a0, a1, hmr, ga, hl, hat, repl]
      · have g1 : P[k] = 42 := of_decide_eq_true g1
        refine ⟨g, ?_⟩
        cases hv : mAt P U k a
        · simp -implicitDefEqProofs only [go_sem, hv]
          rcases Nat.eq_zero_or_pos a with z | z
          · have e : decide ((a : Int) > 0) = false := by simp; omega
            have ls := lst false (by subst z; rw [mAt_star0 h g1, hv])
            simp -implicitDefEqProofs only [go_sem, e, repl, hat, hl, a0, a1]
            refine ⟨g, ?_⟩
            refine .to [] (a + 1) rfl ?_ ?_ (by omega) (by omega) <;> simp -implicitDefEqProofs only [go_sem, LeTs_undef, LeTs_same, LeTs_nil, wa, ls]
          · have e : decide ((a : Int) > 0) = true := by simp; omega
            have wq : IntKind.i64.wrap ((a : Int) - 1) = ((a - 1 : Nat) : Int) := by rw [wrap64 (by omega) (by omega)]; omega
            have b0 : (0 : Int) ≤ ((a - 1 : Nat) : Int) := by omega
            have b1 : ((a - 1 : Nat) : Int) < n := by omega
            have gb := half_get P U (k + 1) (n := n) (a := a) (i := a - 1) (by omega)
            have ls := lst (mAt P U (k + 1) (a - 1)) (by
              obtain ⟨c, rfl⟩ : ∃ c, a = c + 1 := ⟨a - 1, by omega⟩
              rw [mAt_star h (by omega) g1, hv]; rfl)
            simp -implicitDefEqProofs only [go_sem, e, wq, b0, b1, gb, repl, hat, hl, a0, a1]
            refine ⟨by omega, g, ?_⟩
            refine .to [] (a + 1) rfl ?_ ?_ (by omega) (by omega) <;> simp -implicitDefEqProofs only [go_sem, LeTs_undef, LeTs_same, LeTs_nil, wa, ls]
        · simp -implicitDefEqProofs only [go_sem, hv, repl, hat, hl, a0, a1]
          have ls := lst true (by
            rcases Nat.eq_zero_or_pos a with z | z
            · subst z; rw [mAt_star0 h g1, hv]
            · obtain ⟨c, rfl⟩ : ∃ c, a = c + 1 := ⟨a - 1, by omega⟩
              rw [mAt_star h (by omega) g1, hv]; rfl)
          refine ⟨g, ?_⟩
          refine .to [] (a + 1) rfl ?_ ?_ (by omega) (by omega) <;> simp -implicitDefEqProofs only [go_sem, LeTs_undef, LeTs_same, LeTs_nil, wa, ls]
      · have g1 : P[k] ≠ 42 := of_decide_eq_false g1
        rcases Nat.eq_zero_or_pos a with z | z
        · have e : decide ((a : Int) > 0) = false := by simp; omega
          refine RegD_of sch_55_12 tysOk (by kernel_rfl) ?_
          simp -implicitDefEqProofs only [go_sem, e]
          have ls := half_skip P U (k + 1) g (by subst z; rw [mAt_chr0 h g1])
          refine .to [] (a + 1) rfl ?_ ?_ (by omega) (by omega) <;> simp -implicitDefEqProofs only [go_sem, LeTs_undef, LeTs_same, LeTs_nil, wa, ls]
        · have e : decide ((a : Int) > 0) = true := by simp; omega
          obtain ⟨c, rfl⟩ : ∃ c, a = c + 1 := ⟨a - 1, by omega⟩
          have hc : c < U.length := by omega
          have em := mAt_chr h hc g1
          have wq : IntKind.i64.wrap (((c + 1 : Nat) : Int) - 1) = (c : Int) := by rw [wrap64 (by omega) (by omega)]; omega
          have b0 : (0 : Int) ≤ c := by omega
          have b1 : (c : Int) < n := by omega
          have b2 : (c : Int) < t.size := by omega
          have bt : byteAt t (c : Int) = ((U[c].toNat : Nat) : Int) := by subst hU; exact byteAt_at t c hc
          have gb := mRow_get P U k (n := n) (i := c) (by omega)
          have ecd : decide (((P[k].toNat : Nat) : Int) = ((U[c].toNat : Nat) : Int)) = decide (P[k] = U[c]) := u8_eq2 P[k] U[c]
          refine RegD_of sch_55_12 tysOk (by kernel_rfl) ?_
          simp -implicitDefEqProofs only [go_sem, e]
          refine ⟨⟨k0, k1⟩, ?_⟩
          rw [bk, e63]
          cases h63 : decide (P[k] = 63)
          · rw [h63] at em
            simp -implicitDefEqProofs only [go_sem, k0, k1, bk, wq, b0, b2, bt, ecd]
            cases hcd : decide (P[k] = U[c])
            · rw [hcd] at em
              have ls := half_skip P U (k + 1) g em
              simp -implicitDefEqProofs only [go_sem]
              refine .to [] (c + 1 + 1) rfl ?_ ?_ (by omega) (by omega) <;> simp -implicitDefEqProofs only [go_sem, LeTs_undef, LeTs_same, LeTs_nil, wa, ls]
            · rw [hcd] at em
              have ls := lst (mAt P U k c) (by rw [em]; rfl)
              simp -implicitDefEqProofs only [go_sem, b0, b1, hmr, gb, a0, a1, hl, hat, repl, wq]
              refine ⟨by omega, g, ?_⟩
              refine .to [] (c + 1 + 1) rfl ?_ ?_ (by omega) (by omega) <;> simp -implicitDefEqProofs only [go_sem, LeTs_undef, LeTs_same, LeTs_nil, wa, ls]
          · rw [h63] at em
            have ls := lst (mAt P U k c) (by rw [em]; rfl)
            simp -implicitDefEqProofs only [go_sem, b0, b1, hmr, gb, a0, a1, hl, hat, repl, wq]
            refine ⟨by omega, g, ?_⟩
            refine .to [] (c + 1 + 1) rfl ?_ ?_ (by omega) (by omega) <;> simp -implicitDefEqProofs only [go_sem, LeTs_undef, LeTs_same, LeTs_nil, wa, ls]
    · have g : a = n := by have := of_decide_eq_false g; omega
      subst g
      simp -implicitDefEqProofs only [go_sem, wk, half_n]
      refine .toR [96] [(184, 96)] (k + 1) rfl rfl ?_ ?_ (by omega) (by omega) <;> simp -implicitDefEqProofs only [go_sem, LeTs_undef, LeTs_same, LeTs_nil]
  · have h : k = P.length := by have := of_decide_eq_false h; omega
    subst h
    have gt := mRow_get P U P.length (n := n) (i := t.size) (by omega)
    have q0 : (0 : Int) ≤ t.size := by omega
    have q1 : (t.size : Int) < n := by omega
    simp -implicitDefEqProofs only [go_sem, hmr, q0, q1, gt]
    have : mAt P U P.length t.size = matchM p t := by
      rw [mAt, List.take_length, ← lU, List.take_length, hP, hU]; rfl
    rw [this]
    exact ⟨by omega, rfl⟩
end Go.Proofs.Ythbhnjcnbnlidaa.Am
namespace Go.Proofs.Ythbhnjcnbnlidaa.Am
open Go
set_option maxRecDepth 1000000
set_option maxHeartbeats 4000000
set_option linter.unusedSimpArgs false
set_option linter.unusedVariables false
theorem x_cmp (x y : ByteArray) (W : World) : (callFunc 107 #[.string x, .string y]).run Try.prog W = .ok (.value (.int .i64 (Extern.BytealgCompare.cmp x y))) W := by
  have he : Extern.find Try.f107 = some Extern.BytealgCompare.compare := by kernel_rfl
  rw [run_callFunc_extern Try.func107 (by kernel_rfl) (by kernel_rfl) (by kernel_rfl) he]
  have : (Extern.BytealgCompare.compare #[.string x, .string y]).run Try.prog W = .ok (.int .i64 (Extern.BytealgCompare.cmp x y)) W := by
    change Sem.run Try.prog (do pure (goInt (Extern.BytealgCompare.cmp (← Extern.Bytes.bytesOf (.string x)) (← Extern.Bytes.bytesOf (.string y))))) W = _
    simp only [Extern.Bytes.bytesOf, Sem.run_bind, Sem.run_pure, Result.andThen]
    rfl
  rw [this]; rfl
theorem w_CompareString (x y : ByteArray) (W : World) : Calls Try.prog 76 #[.string x, .string y] W fun e w' => e = .returned (.int .i64 (Extern.BytealgCompare.cmp x y)) ∧ w' = W := by
  have hx := x_cmp x y W
  generalize Extern.BytealgCompare.cmp x y = r at hx ⊢
  go_enter Try.func76, Try.ntmps76
  go_wp2
  go_ret
  exact ⟨rfl, by trivial⟩
theorem Spec.of_walk {P : Program} {f : FuncId} {args : List AV} {r : T} {v : Value} (hr : ∀ w D, Rd w D r v) (h : ∀ (w : World) (D : Dm) (vs : List Value), AVr.AVrs (inCx w D) args vs → Calls P f vs.toArray w fun e w' => e = .returned v ∧ w' = w) : Spec P f args (fun x => x = .t r) :=
  fun w D vs hD hv => (h w D vs hv).mono fun e w' ⟨he, hw⟩ => by
    subst hw
    exact ⟨v, .t r, he, rfl, ⟨rfl, rfl, rfl, Nat.le_refl _, Nat.le_refl _, fun _ _ _ => rfl⟩, fun _ => none, (fun b p hb => by cases hb), hr _ _⟩
theorem compareBytes_eq : ∀ x y : List UInt8, Go.Lib.compareBytes x y = if Op.bytesLess x y = true then -1 else if x = y then 0 else 1
  | [], [] => by simp [Go.Lib.compareBytes, Op.bytesLess]
  | [], _ :: _ => by simp [Go.Lib.compareBytes, Op.bytesLess]
  | _ :: _, [] => by simp [Go.Lib.compareBytes, Op.bytesLess]
  | a :: x, b :: y => by
    rw [Go.Lib.compareBytes, compareBytes_eq x y]
    by_cases h1 : a < b
    · simp [h1, Op.bytesLess]
    · by_cases h2 : b < a
      · have hne : a ≠ b := fun e => by subst e; exact h1 h2
        simp [h1, h2, Op.bytesLess, hne]
      · have he : a = b := by
          have h3 : ¬ a.toNat < b.toNat := fun h => h1 (UInt8.lt_iff_toNat_lt.2 h)
          have h4 : ¬ b.toNat < a.toNat := fun h => h2 (UInt8.lt_iff_toNat_lt.2 h)
          exact UInt8.toNat_inj.1 (by omega)
        subst he
        simp [h1, Op.bytesLess]
theorem cmpX_eq (x y : ByteArray) : Extern.BytealgCompare.cmp x y = cmpS x y := by
  rw [Go.Lib.cmp_eq, compareBytes_eq]
  unfold cmpS bytesLt
  rw [ByteArray.toList_eq, ByteArray.toList_eq]
  have : (x.data.toList = y.data.toList) ↔ x = y := by
    obtain ⟨⟨x⟩⟩ := x
    obtain ⟨⟨y⟩⟩ := y
    simp
  simp only [this]
theorem p_CompareString : Plain Try.prog 76 := ⟨_, Try.func76, rfl, by decide⟩
theorem s_CompareString (x y : ByteArray) : Spec Try.prog 76 [.t (.str x), .t (.str y)] (fun r => r = I (cmpS x y)) :=
  Spec.of_walk (v := .int .i64 (cmpS x y)) (fun _ _ => .int _ _) fun w D vs hv => by
    match vs, hv with
    | [v0, v1], ⟨h0, h1, _⟩ =>
      cases h0
      cases h1
      rw [← cmpX_eq]
      exact w_CompareString x y w
theorem p_strCompare : Plain Try.prog 54 := ⟨_, Try.func54, rfl, by decide⟩
theorem s_strCompare (x y : ByteArray) : Spec Try.prog 54 [.t (.str x), .t (.str y)] (fun r => r = I (cmpS x y)) := by
  refine Spec.of tysOk mixed Try.func54 rfl (by decide) ?_
  simp -implicitDefEqProofs only [go_sem, Try.f54]
  refine CallW.one (s_CompareString x y) p_CompareString (by first | (simp -implicitDefEqProofs only [go_sem]; done) | ((conv => lhs; simp -implicitDefEqProofs only [go_sem]); done) | (simp -implicitDefEqProofs only [go_sem]; rfl) | rfl) (by first | trivial | (simp [DeepR, DeepV, DeepVs, DeepC, DeepCs, T.scal]; done)) ?_
  simp -implicitDefEqProofs only [go_sem]
end Go.Proofs.Ythbhnjcnbnlidaa.Am
namespace Go.Proofs.Ythbhnjcnbnlidaa.Am
open Go
set_option maxRecDepth 100000
set_option maxHeartbeats 2000000
set_option linter.unusedSimpArgs false
set_option linter.unusedVariables false
def keysM (l : List En) (behind : ByteArray) : List Tx := (l.filter fun e => bytesLt behind e.key).map En.key
def scanM (b : Bs) (behind pattern : ByteArray) (count : Int) : List Tx × ByteArray :=
  if baseOkM b = true ∧ pattern.size ≤ 12 ∧ 1 ≤ count then
    (((keysM b.ents behind).take count.toNat).filter (matchM pattern), if count < (keysM b.ents behind).length then (keysM b.ents behind)[count.toNat - 1]?.getD ⟨#[]⟩ else ⟨#[]⟩)
  else ([], ⟨#[]⟩)
theorem keysM_take (l : List En) (behind : ByteArray) {i : Nat} (h : i < l.length) : keysM (l.take (i + 1)) behind = keysM (l.take i) behind ++ if bytesLt behind l[i].key = true then [l[i].key] else [] := by
  unfold keysM
  rw [filter_take (fun e => bytesLt behind e.key) l h, List.map_append]
  split <;> simp
theorem keysM_len (l : List En) (behind : ByteArray) : (keysM l behind).length ≤ l.length := by
  unfold keysM; rw [List.length_map]; exact List.length_filter_le _ _
theorem baseOkM_len {b : Bs} (h : baseOkM b = true) : b.ents.length ≤ 12 := by
  unfold baseOkM at h
  simp only [Bool.and_eq_true, decide_eq_true_eq] at h
  exact h.1.2
theorem baseOkM_key {b : Bs} (h : baseOkM b = true) {e : En} (he : e ∈ b.ents) : 1 ≤ e.key.size ∧ e.key.size ≤ 12 := by
  unfold baseOkM at h
  simp only [Bool.and_eq_true, decide_eq_true_eq] at h
  have h2 := h.2
  unfold allAt at h2
  rw [Bool.and_eq_true, List.all_eq_true] at h2
  have := h2.1 e he
  simp only [enGood, enOkM, keyOkM, withinM, Bool.and_eq_true, decide_eq_true_eq] at this
  omega
theorem keysM_mem {l : List En} {behind k : ByteArray} (h : k ∈ keysM l behind) : ∃ e ∈ l, e.key = k := by
  unfold keysM at h
  obtain ⟨e, he, rfl⟩ := List.mem_map.1 h
  exact ⟨e, (List.mem_filter.1 he).1, rfl⟩
abbrev scanR (x : List Tx × ByteArray) : AV := .tup [.own (.list true 1 (x.1.map Tx.row)), .t (.str x.2)]
theorem p_Scan : Plain Try.prog 25 := ⟨_, Try.func25, rfl, by decide⟩
theorem s_Scan (b : Bs) (behind pattern : ByteArray) (count : Int) (hs : b.lim) (hc : count < 9223372036854775808) : Spec Try.prog 25 [b.av, .t (.str behind), .t (.str pattern), I count] (fun r => r = scanR (scanM b behind pattern count)) := by
  obtain ⟨M, hM⟩ : ∃ M, M = scanM b behind pattern count := ⟨_, rfl⟩
  rw [← hM]
  unfold scanM at hM
  refine Spec.of tysOk mixed Try.func25 rfl (by decide) ?_
  simp -implicitDefEqProofs only [go_sem, Try.f25]
  refine CallW.one (s_BaseOk b hs) p_BaseOk (by first | (simp -implicitDefEqProofs only [go_sem]; done) | ((conv => lhs; simp -implicitDefEqProofs only [go_sem]); done) | (simp -implicitDefEqProofs only [go_sem]; rfl) | rfl) (by first | trivial | (simp [DeepR, DeepV, DeepVs, DeepC, DeepCs, T.scal]; done)) ?_
  cases ok : baseOkM b
  · simp -implicitDefEqProofs only [go_sem, ok]
    rw [if_neg (by simp [ok])] at hM
    subst hM; rfl
  simp -implicitDefEqProofs only [go_sem, ok]
  refine BrA_i (fun k2 => ?_) (fun k2 => ?_) <;> simp -implicitDefEqProofs only [go_sem]
  · have k2 := of_decide_eq_true k2
    rw [if_neg (by omega)] at hM
    subst hM; rfl
  refine BrA_i (fun k3 => ?_) (fun k3 => ?_) <;> simp -implicitDefEqProofs only [go_sem]
  · have k3 := of_decide_eq_true k3
    rw [if_neg (by omega)] at hM
    subst hM; rfl
  have k2 := of_decide_eq_false k2
  have k3 := of_decide_eq_false k3
  rw [if_pos ⟨ok, by omega, by omega⟩] at hM
  have hl := baseOkM_len ok
  have hky := fun e he => baseOkM_key ok (e := e) he
  obtain ⟨l, hll⟩ : ∃ l, l = b.ents := ⟨_, rfl⟩
  rw [← hll] at hM hl hky ⊢
  refine LoopW.slotsM [false, true, true, true, false, false, false, false, false, false, true, true, false, false, false, false, false, false, false, false, false, false, false, false, false, false, false, false, false, false, false, false, false, true, true, true, false, false, false, false, false, false, false, false, false, false, false, false, false, false, false, false, false, false, false, false, false, false, false, false, false, false, false, false, false, false, false, false, false, false, false, false, false, false, false, false, false, false] (α := Nat) (fun i => [(35, I i)]) (fun i => [(248, .rows 1 ((keysM (l.take i) behind).map Tx.row))]) (fun i => l.length - i) (fun i => i ≤ l.length) 0 (by simp -implicitDefEqProofs only [go_sem, LeTs_undef, LeTs_same, LeTs_nil]; try simp [LeTs]) (by simp -implicitDefEqProofs only [go_sem, List.take_zero, keysM, List.filter_nil, List.map_nil]) (by omega) ?_
  intro i hi
  simp -implicitDefEqProofs only [go_sem]
  refine BrA_i (fun h => ?_) (fun h => ?_) <;> simp -implicitDefEqProofs only [go_sem]
  · skip
    have h : i < l.length := by simp at h; omega
    have h0i : (0 : Int) ≤ i := by omega
    have h1i : (i : Int) < l.length := by omega
    have wi : IntKind.i64.wrap ((i : Int) + 1) = ((i + 1 : Nat) : Int) := by rw [wrap64 (by omega) (by omega)]; omega
    have hr := row_getD En.row l h
    simp only [En.row] at hr
    have ef := keysM_take l behind h
    have hkl := keysM_len (l.take i) behind
    obtain ⟨acc, hacc⟩ : ∃ acc, acc = keysM (l.take i) behind := ⟨_, rfl⟩
    rw [← hacc] at ef hkl ⊢
    have hl1 : acc.length ≤ 12 := by simp at hkl; omega
    simp -implicitDefEqProofs only [go_sem, h, h0i, h1i, hr, wi]
    refine CallW.one (s_strCompare (l[i]).key behind) p_strCompare (by first | (simp -implicitDefEqProofs only [go_sem]; done) | ((conv => lhs; simp -implicitDefEqProofs only [go_sem]); done) | (simp -implicitDefEqProofs only [go_sem]; rfl) | rfl) (by first | trivial | (simp [DeepR, DeepV, DeepVs, DeepC, DeepCs, T.scal]; done)) ?_
    simp -implicitDefEqProofs only [go_sem]
    have g : decide (cmpS l[i].key behind > 0) = bytesLt behind l[i].key := by
      cases hb : bytesLt behind l[i].key
      · apply decide_eq_false
        intro h
        rw [cmpS_pos h] at hb; cases hb
      · apply decide_eq_true
        have h1 : bytesLt l[i].key behind = false := by
          cases h2 : bytesLt l[i].key behind
          · rfl
          · have := bytesLt_trans hb h2
            rw [bytesLt_irrefl] at this; cases this
        have h2 : l[i].key ≠ behind := fun e => by rw [e, bytesLt_irrefl] at hb; cases hb
        unfold cmpS
        rw [h1]; simp [h2]
    rw [g]
    cases hb : bytesLt behind l[i].key
    · rw [hb] at ef
      simp -implicitDefEqProofs only [go_sem, wi]
      refine .to [104, 376, 384, 337, 338, 339] (i + 1) rfl ?_ ?_ (by omega) (by omega) <;> simp -implicitDefEqProofs only [go_sem, LeTs_undef, LeTs_same, LeTs_nil, wi, ef, List.append_nil, Bool.false_eq_true, if_false]
    · rw [hb] at ef
      simp -implicitDefEqProofs only [go_sem, wi]
      have e2 : (acc ++ [l[i].key]).map Tx.row = acc.map Tx.row ++ [[T.str l[i].key]] := by rw [List.map_append]; rfl
      refine ⟨by unfold roomy; omega, .to [104, 376, 384, 337, 338, 339] (i + 1) rfl ?_ ?_ (by omega) (by omega)⟩ <;> simp -implicitDefEqProofs only [go_sem, LeTs_undef, LeTs_same, LeTs_nil, wi, ef, e2, if_true]
  · have h : i = l.length := by simp at h; omega
    subst h
    rw [List.take_length]
    have hkl := keysM_len l behind
    obtain ⟨ks, hks⟩ : ∃ ks, ks = keysM l behind := ⟨_, rfl⟩
    rw [← hks] at hkl hM ⊢
    have hkm : ∀ k ∈ ks, k.size ≤ 12 := fun k hk => by
      rw [hks] at hk
      obtain ⟨e, he, rfl⟩ := keysM_mem hk
      exact (hky e he).2
    refine BrA_i (fun g => ?_) (fun g => ?_) <;> simp -implicitDefEqProofs only [go_sem]
    · have g := of_decide_eq_true g
      have c0 : (0 : Int) ≤ count := by omega
      have c1 : count ≤ ks.length := by omega
      have cq : IntKind.i64.wrap (count - 1) = count - 1 := wrap64 (by omega) (by omega)
      obtain ⟨c, rfl⟩ := Int.eq_ofNat_of_zero_le c0
      have cc : c - 1 < ks.length := by omega
      have cr := row_getD Tx.row ks cc
      simp only [Tx.row] at cr
      have z0 : Int.toNat 0 = 0 := rfl
      have z1 : ((c : Int) - 1).toNat = c - 1 := by omega
      have z2 : (0 : Int) ≤ (c : Int) - 1 := by omega
      have z3 : ((c : Int) - 1) < (c : Int) := by omega
      have hlt : (c : Int) < ks.length := by omega
      rw [if_pos hlt, Int.toNat_natCast, List.getElem?_eq_getElem cc, Option.getD_some] at hM
      simp -implicitDefEqProofs only [go_sem, c0, c1, cq, z0, Nat.zero_add, Nat.sub_zero, Int.toNat_natCast, z1, z2, z3, cr]
      refine ⟨cc, ?_⟩
      refine LoopW.fz [248] (by (conv => lhs; simp -implicitDefEqProofs only [go_sem]) <;> rfl) ?_
      obtain ⟨tk, htk⟩ : ∃ tk, tk = ks.take c := ⟨_, rfl⟩
      have etk : (ks.map Tx.row).take c = tk.map Tx.row := by rw [htk, List.map_take]
      have hmem : ∀ k ∈ tk, k ∈ ks := fun k hk => by rw [htk] at hk; exact List.mem_of_mem_take hk
      have htl : tk.length = c := by rw [htk, List.length_take]; omega
      rw [← htk] at hM
      clear htk
      simp only [Nat.sub_zero, List.drop_zero, etk]
      refine LoopW.slotsM [false, false, true, false, false, false, false, false, false, false, true, false, false, false, true, false, false, false, false, false, false, false, false, false, false, false, false, false, false, false, false, false, false, false, false, false, false, false, false, false, false, false, false, false, false, false, false, false, false, false, false, false, false, false, false, false, false, false, false, false, false, false, true, true, true, false, false, false, false, false, false, false, false, false, false, false, false, false] (α := Nat) (fun i => [(64, I i)]) (fun i => [(136, .rows 1 (((tk.take i).filter (matchM pattern)).map Tx.row))]) (fun i => tk.length - i) (fun i => i ≤ tk.length) 0 (by simp -implicitDefEqProofs only [go_sem, LeTs_undef, LeTs_same, LeTs_nil]; try simp [LeTs]) (by simp -implicitDefEqProofs only [go_sem, List.take_zero, List.filter_nil, List.map_nil]) (by omega) ?_
      intro i hi
      simp -implicitDefEqProofs only [go_sem]
      refine BrA_i (fun h => ?_) (fun h => ?_) <;> simp -implicitDefEqProofs only [go_sem]
      · skip
        have h : i < tk.length := by simp at h; omega
        have h0i : (0 : Int) ≤ i := by omega
        have h1i : (i : Int) < tk.length := by omega
        have wi : IntKind.i64.wrap ((i : Int) + 1) = ((i + 1 : Nat) : Int) := by rw [wrap64 (by omega) (by omega)]; omega
        have hr := row_getD Tx.row tk h
        simp only [Tx.row] at hr
        have ef := filter_take (matchM pattern) tk h
        have hfl := List.length_filter_le (matchM pattern) (tk.take i)
        obtain ⟨acc, hacc⟩ : ∃ acc, acc = (tk.take i).filter (matchM pattern) := ⟨_, rfl⟩
        rw [← hacc] at ef hfl ⊢
        have hl1 : acc.length ≤ 12 := by simp at hfl; omega
        have hsz := hkm tk[i] (hmem _ (List.getElem_mem h))
        simp -implicitDefEqProofs only [go_sem, h, h0i, h1i, hr, wi]
        refine CallW.one (s_Match pattern (tk[i]) (by omega) (by omega)) p_Match (by first | (simp -implicitDefEqProofs only [go_sem]; done) | ((conv => lhs; simp -implicitDefEqProofs only [go_sem]); done) | (simp -implicitDefEqProofs only [go_sem]; rfl) | rfl) (by first | trivial | (simp [DeepR, DeepV, DeepVs, DeepC, DeepCs, T.scal]; done)) ?_
        cases hb : matchM pattern tk[i]
        · rw [hb] at ef
          simp -implicitDefEqProofs only [go_sem, hb, wi]
          refine .to [584, 592, 561, 562, 563] (i + 1) rfl ?_ ?_ (by omega) (by omega) <;> simp -implicitDefEqProofs only [go_sem, LeTs_undef, LeTs_same, LeTs_nil, wi, ef, List.append_nil, Bool.false_eq_true, if_false]
        · rw [hb] at ef
          simp -implicitDefEqProofs only [go_sem, hb, wi]
          have e2 : (acc ++ [tk[i]]).map Tx.row = acc.map Tx.row ++ [[T.str tk[i]]] := by rw [List.map_append]; rfl
          refine ⟨by unfold roomy; omega, .to [584, 592, 561, 562, 563] (i + 1) rfl ?_ ?_ (by omega) (by omega)⟩ <;> simp -implicitDefEqProofs only [go_sem, LeTs_undef, LeTs_same, LeTs_nil, wi, ef, e2, if_true]
      · have h : i = tk.length := by simp at h; omega
        subst h
        rw [List.take_length, hM]
    · refine LoopW.fz [248] (by (conv => lhs; simp -implicitDefEqProofs only [go_sem]) <;> rfl) ?_
      have g := of_decide_eq_false g
      rw [if_neg (by omega), List.take_of_length_le (by omega)] at hM
      have hmem : ∀ k ∈ ks, k ∈ ks := fun k hk => hk
      refine LoopW.slotsM [false, false, true, false, false, false, false, false, false, false, true, false, false, false, true, false, false, false, false, false, false, false, false, false, false, false, false, false, false, false, false, false, false, false, false, false, false, false, false, false, false, false, false, false, false, false, false, false, false, false, false, false, false, false, false, false, false, false, false, false, false, false, true, true, true, false, false, false, false, false, false, false, false, false, false, false, false, false] (α := Nat) (fun i => [(64, I i)]) (fun i => [(136, .rows 1 (((ks.take i).filter (matchM pattern)).map Tx.row))]) (fun i => ks.length - i) (fun i => i ≤ ks.length) 0 (by simp -implicitDefEqProofs only [go_sem, LeTs_undef, LeTs_same, LeTs_nil]; try simp [LeTs]) (by simp -implicitDefEqProofs only [go_sem, List.take_zero, List.filter_nil, List.map_nil]) (by omega) ?_
      intro i hi
      simp -implicitDefEqProofs only [go_sem]
      refine BrA_i (fun h => ?_) (fun h => ?_) <;> simp -implicitDefEqProofs only [go_sem]
      · skip
        have h : i < ks.length := by simp at h; omega
        have h0i : (0 : Int) ≤ i := by omega
        have h1i : (i : Int) < ks.length := by omega
        have wi : IntKind.i64.wrap ((i : Int) + 1) = ((i + 1 : Nat) : Int) := by rw [wrap64 (by omega) (by omega)]; omega
        have hr := row_getD Tx.row ks h
        simp only [Tx.row] at hr
        have ef := filter_take (matchM pattern) ks h
        have hfl := List.length_filter_le (matchM pattern) (ks.take i)
        obtain ⟨acc, hacc⟩ : ∃ acc, acc = (ks.take i).filter (matchM pattern) := ⟨_, rfl⟩
        rw [← hacc] at ef hfl ⊢
        have hl1 : acc.length ≤ 12 := by simp at hfl; omega
        have hsz := hkm ks[i] (hmem _ (List.getElem_mem h))
        simp -implicitDefEqProofs only [go_sem, h, h0i, h1i, hr, wi]
        refine CallW.one (s_Match pattern (ks[i]) (by omega) (by omega)) p_Match (by first | (simp -implicitDefEqProofs only [go_sem]; done) | ((conv => lhs; simp -implicitDefEqProofs only [go_sem]); done) | (simp -implicitDefEqProofs only [go_sem]; rfl) | rfl) (by first | trivial | (simp [DeepR, DeepV, DeepVs, DeepC, DeepCs, T.scal]; done)) ?_
        cases hb : matchM pattern ks[i]
        · rw [hb] at ef
          simp -implicitDefEqProofs only [go_sem, hb, wi]
          refine .to [584, 592, 561, 562, 563] (i + 1) rfl ?_ ?_ (by omega) (by omega) <;> simp -implicitDefEqProofs only [go_sem, LeTs_undef, LeTs_same, LeTs_nil, wi, ef, List.append_nil, Bool.false_eq_true, if_false]
        · rw [hb] at ef
          simp -implicitDefEqProofs only [go_sem, hb, wi]
          have e2 : (acc ++ [ks[i]]).map Tx.row = acc.map Tx.row ++ [[T.str ks[i]]] := by rw [List.map_append]; rfl
          refine ⟨by unfold roomy; omega, .to [584, 592, 561, 562, 563] (i + 1) rfl ?_ ?_ (by omega) (by omega)⟩ <;> simp -implicitDefEqProofs only [go_sem, LeTs_undef, LeTs_same, LeTs_nil, wi, ef, e2, if_true]
      · have h : i = ks.length := by simp at h; omega
        subst h
        rw [List.take_length, hM]
theorem keysM_app (a b : List En) (behind : ByteArray) : keysM (a ++ b) behind = keysM a behind ++ keysM b behind := by
  unfold keysM; rw [List.filter_append, List.map_append]
theorem bytesLt_le (a b : ByteArray) : (bytesLt a b || decide (a = b)) = !bytesLt b a := by
  cases h : bytesLt b a
  · cases h2 : bytesLt a b
    · by_cases e : a = b
      · simp [e]
      · rw [bytesLt_total e h2] at h; cases h
    · simp
  · cases h2 : bytesLt a b
    · have : a ≠ b := fun e => by rw [e, bytesLt_irrefl] at h; cases h
      simp [this]
    · have := bytesLt_trans h h2
      rw [bytesLt_irrefl] at this; cases this
def lastM (ks : List Tx) : ByteArray := ks.getLast?.getD ⟨#[]⟩
theorem p_sScan : Plain Try.prog 23 := ⟨_, Try.func23, rfl, by decide⟩
theorem s_sScan (b : Bs) (behind pattern : ByteArray) (count : Int) (hs : b.lim) (hc : count < 9223372036854775808) : Spec Try.prog 23 [b.av, .t (.str behind), .t (.str pattern), I count] (fun r => r = scanR (scanM b behind pattern count)) := by
  obtain ⟨M, hM⟩ : ∃ M, M = scanM b behind pattern count := ⟨_, rfl⟩
  rw [← hM]
  unfold scanM at hM
  refine Spec.of tysOk mixed Try.func23 rfl (by decide) ?_
  simp -implicitDefEqProofs only [go_sem, Try.f23]
  refine CallW.one (s_sBaseOk b hs) p_sBaseOk (by first | (simp -implicitDefEqProofs only [go_sem]; done) | ((conv => lhs; simp -implicitDefEqProofs only [go_sem]); done) | (simp -implicitDefEqProofs only [go_sem]; rfl) | rfl) (by first | trivial | (simp [DeepR, DeepV, DeepVs, DeepC, DeepCs, T.scal]; done)) ?_
  cases ok : baseOkM b
  · simp -implicitDefEqProofs only [go_sem, ok]
    rw [if_neg (by simp [ok])] at hM
    subst hM; rfl
  simp -implicitDefEqProofs only [go_sem, ok]
  refine BrA_i (fun k3 => ?_) (fun k3 => ?_) <;> simp -implicitDefEqProofs only [go_sem]
  · have k3 := of_decide_eq_true k3
    rw [if_neg (by omega)] at hM
    subst hM; rfl
  refine BrA_i (fun k2 => ?_) (fun k2 => ?_) <;> simp -implicitDefEqProofs only [go_sem]
  · have k2 := of_decide_eq_true k2
    rw [if_neg (by omega)] at hM
    subst hM; rfl
  have k2 := of_decide_eq_false k2
  have k3 := of_decide_eq_false k3
  rw [if_pos ⟨ok, by omega, by omega⟩] at hM
  have hl := baseOkM_len ok
  have hky := fun e he => baseOkM_key ok (e := e) he
  obtain ⟨l, hll⟩ : ∃ l, l = b.ents := ⟨_, rfl⟩
  rw [← hll] at hM hl hky ⊢
  refine LoopW.slotsM [false, true, true, true, true, false, false, false, false, false, true, true, true, true, false, false, false, false, false, false, false, false, false, false, false, false, false, false, false, false, false, false, false, false, false, false, false, false, false, false, false, false, false, false, false, false, false, false, false, false, false, false, false, false, false, false, false, false, false, false, false, false, false, false] (α := Nat) (fun i => [(13, I i), (11, I (keysM (l.take i) behind).length), (12, .t (.str (lastM (keysM (l.take i) behind))))]) (fun i => [(112, .rows 1 (((keysM (l.take i) behind).filter (matchM pattern)).map Tx.row))]) (fun i => l.length - i) (fun i => i ≤ l.length ∧ ((keysM (l.take i) behind).length : Int) ≤ count) 0 (by simp -implicitDefEqProofs only [go_sem, LeTs_undef, LeTs_same, LeTs_nil]; simp [LeTs, keysM, lastM]) (by simp -implicitDefEqProofs only [go_sem, List.take_zero, keysM, List.filter_nil, List.map_nil]) ⟨by omega, by simp [keysM]; omega⟩ ?_
  rintro i ⟨hi, hn⟩
  simp -implicitDefEqProofs only [go_sem]
  refine BrA_i (fun h => ?_) (fun h => ?_) <;> simp -implicitDefEqProofs only [go_sem]
  · skip
    have h : i < l.length := by simp at h; omega
    have h0i : (0 : Int) ≤ i := by omega
    have h1i : (i : Int) < l.length := by omega
    have wi : IntKind.i64.wrap ((i : Int) + 1) = ((i + 1 : Nat) : Int) := by rw [wrap64 (by omega) (by omega)]; omega
    have hr := row_getD En.row l h
    simp only [En.row] at hr
    have ef := keysM_take l behind h
    have hkl := keysM_len (l.take i) behind
    have eall : keysM l behind = keysM (l.take i) behind ++ keysM (l.drop i) behind := by rw [← keysM_app, List.take_append_drop]
    obtain ⟨ks, hks⟩ : ∃ ks, ks = keysM (l.take i) behind := ⟨_, rfl⟩
    rw [← hks] at ef hkl hn eall ⊢
    have hl1 : ks.length ≤ 12 := by simp at hkl; omega
    simp -implicitDefEqProofs only [go_sem, h, h0i, h1i, hr, wi]
    rw [bytesLt_le]
    cases hb : bytesLt behind l[i].key
    · rw [hb] at ef
      have ef : keysM (l.take (i + 1)) behind = ks := by rw [ef]; simp
      simp -implicitDefEqProofs only [go_sem, Bool.not_false, wi]
      refine .to [488, 496, 465, 466, 467] (i + 1) rfl ?_ ?_ (by omega) ⟨by omega, by rw [ef]; exact hn⟩ <;> simp -implicitDefEqProofs only [go_sem, LeTs_undef, LeTs_same, LeTs_nil, wi, ef]
    · rw [hb] at ef
      have ef : keysM (l.take (i + 1)) behind = ks ++ [l[i].key] := by rw [ef]; rfl
      simp -implicitDefEqProofs only [go_sem, Bool.not_true]
      refine BrA_i (fun g => ?_) (fun g => ?_) <;> simp -implicitDefEqProofs only [go_sem]
      · have g := of_decide_eq_true g
        have e2 : keysM l behind = ks ++ (l[i].key :: keysM (l.drop (i + 1)) behind) := by
          have := keysM_app (l.take (i + 1)) (l.drop (i + 1)) behind
          rw [List.take_append_drop, ef] at this
          rw [this, List.append_assoc]; rfl
        have hc0 : count.toNat = ks.length := by omega
        have hk0 : 0 < ks.length := by omega
        rw [e2, if_pos (by simp; omega), hc0, List.take_left, List.getElem?_append_left (by omega)] at hM
        have e3 : lastM ks = ks[ks.length - 1]?.getD ⟨#[]⟩ := by rw [lastM, List.getLast?_eq_getElem?]
        rw [hM, e3]
      · have g := of_decide_eq_false g
        have wn : IntKind.i64.wrap ((ks.length : Int) + 1) = ((ks.length + 1 : Nat) : Int) := by rw [wrap64 (by omega) (by omega)]; omega
        have el : lastM (ks ++ [l[i].key]) = l[i].key := by simp [lastM]
        have hsz := hky l[i] (List.getElem_mem h)
        simp -implicitDefEqProofs only [go_sem, h, h0i, h1i, hr, wi, wn]
        refine CallW.one (s_sMatch pattern (l[i]).key (by omega)) p_sMatch (by first | (simp -implicitDefEqProofs only [go_sem]; done) | ((conv => lhs; simp -implicitDefEqProofs only [go_sem]); done) | (simp -implicitDefEqProofs only [go_sem]; rfl) | rfl) (by first | trivial | (simp [DeepR, DeepV, DeepVs, DeepC, DeepCs, T.scal]; done)) ?_
        cases hm : matchM pattern l[i].key
        · simp -implicitDefEqProofs only [go_sem, hm, wi]
          have e3 : (ks ++ [l[i].key]).filter (matchM pattern) = ks.filter (matchM pattern) := by rw [List.filter_append]; simp [hm]
          refine .to [488, 496, 465, 466, 467] (i + 1) rfl ?_ ?_ (by omega) ⟨by omega, by rw [ef]; simp; omega⟩ <;> simp -implicitDefEqProofs only [go_sem, LeTs_undef, LeTs_same, LeTs_nil, wi, ef, el, e3, List.length_append, List.length_cons, List.length_nil]
        · simp -implicitDefEqProofs only [go_sem, hm, wi]
          have e3 : ((ks ++ [l[i].key]).filter (matchM pattern)).map Tx.row = (ks.filter (matchM pattern)).map Tx.row ++ [[T.str l[i].key]] := by rw [List.filter_append, List.map_append]; simp [hm]; rfl
          have hfl := List.length_filter_le (matchM pattern) ks
          refine ⟨by unfold roomy; omega, .to [488, 496, 465, 466, 467] (i + 1) rfl ?_ ?_ (by omega) ⟨by omega, by rw [ef]; simp; omega⟩⟩ <;> simp -implicitDefEqProofs only [go_sem, LeTs_undef, LeTs_same, LeTs_nil, wi, ef, el, e3, List.length_append, List.length_cons, List.length_nil]
  · have h : i = l.length := by simp at h; omega
    subst h
    rw [List.take_length] at hn ⊢
    rw [if_neg (by omega), List.take_of_length_le (by omega)] at hM
    rw [hM]
end Go.Proofs.Ythbhnjcnbnlidaa.Am
namespace Go.Proofs.Ythbhnjcnbnlidaa.Am
open Go
set_option maxRecDepth 100000
set_option linter.unusedSimpArgs false
set_option linter.unusedVariables false
theorem p_eqPair : Plain Try.prog 130 := ⟨_, Try.func130, rfl, by decide⟩
theorem s_eqPair (x y : Pr) : Spec Try.prog 130 [x.av, y.av] (fun r => r = Bo (decide (x = y))) := by
  have ext := Pr.ext_iff (x := x) (y := y)
  refine Spec.of tysOk mixed Try.func130 rfl (by decide) ?_
  simp -implicitDefEqProofs only [go_sem, Try.f130]
  refine BrA_i (fun h0 => ?_) (fun h0 => ?_) <;> simp -implicitDefEqProofs only [go_sem]
  · skip
    refine BrA_i (fun h1 => ?_) (fun h1 => ?_) <;> simp -implicitDefEqProofs only [go_sem]
    · simp only [decide_eq_true_eq] at h0 h1; simp [ext, *]
    · simp only [decide_eq_false_iff_not] at h1; simp [ext, h1]
  · simp only [decide_eq_false_iff_not] at h0; simp [ext, h0]
theorem p_eqPairS : Plain Try.prog 108 := ⟨_, Try.func108, rfl, by decide⟩
theorem s_eqPairS (xs ys : List Pr) (hx : xs.length < 4611686018427387904) : Spec Try.prog 108 [.t (.list false 2 (xs.map Pr.row)), .t (.list false 2 (ys.map Pr.row))] (fun r => r = Bo (decide (xs = ys))) := by
  refine Spec.of tysOk mixed Try.func108 rfl (by decide) ?_
  simp -implicitDefEqProofs only [go_sem, Try.f108]
  refine BrA_i (fun h => ?_) (fun h => ?_) <;> simp -implicitDefEqProofs only [go_sem]
  · have hl : xs.length = ys.length := by simp at h; omega
    refine LoopW.slots (α := Nat) (fun i => [(5, I i)]) (fun _ => []) (fun i => xs.length - i) (fun i => i ≤ xs.length ∧ ∀ j (h : j < xs.length), j < i → xs[j] = ys[j]) 0 rfl rfl (by simp) ?_
    rintro i ⟨hi, hz⟩
    simp -implicitDefEqProofs only [go_sem]
    refine BrA_i (fun h => ?_) (fun h => ?_)
    · have h : i < xs.length := by simp at h; omega
      have h' : i < ys.length := by omega
      have hw1 : IntKind.i64.wrap ((i : Int) + 1) = ((i + 1 : Nat) : Int) := by rw [wrap64 (by omega) (by omega)]; omega
      simp -implicitDefEqProofs only [go_sem]
      refine RegD_of sch_108_6 tysOk (by kernel_rfl) ?_
      simp -implicitDefEqProofs only [go_sem, row_getD _ _ h, row_getD _ _ h', Pr.row]
      refine ⟨⟨by omega, by omega⟩, ⟨by omega, by omega⟩, ?_⟩
      refine .one (s_eqPair xs[i] ys[i]) p_eqPair (by simp -implicitDefEqProofs only [go_sem]) trivial ?_
      simp -implicitDefEqProofs only [go_sem]
      refine BrA_i (fun h1 => ?_) (fun h1 => ?_) <;> simp -implicitDefEqProofs only [go_sem]
      · refine .to [] (i + 1) rfl ?_ ?_ (by omega) ⟨h, fun j hj hl => ?_⟩ <;> (try simp -implicitDefEqProofs only [go_sem, LeTs_undef, LeTs_same, LeTs_nil, hw1])
        rcases Nat.lt_succ_iff_lt_or_eq.1 hl with hl | rfl
        · exact hz j hj hl
        · simpa using h1
      · have : xs ≠ ys := fun e => by subst e; simp at h1
        simp [this]
    · simp -implicitDefEqProofs only [go_sem]
      have : xs = ys := List.ext_getElem hl fun j h1 h2 => hz j h1 (by simp at h; omega)
      simp [this]
  · have : xs ≠ ys := fun e => by subst e; simp at h
    simp [this]
end Go.Proofs.Ythbhnjcnbnlidaa.Am
namespace Go.Proofs.Ythbhnjcnbnlidaa.Am
open Go
set_option maxRecDepth 100000
set_option linter.unusedSimpArgs false
set_option linter.unusedVariables false
theorem p_eqStringS : Plain Try.prog 26 := ⟨_, Try.func26, rfl, by decide⟩
theorem s_eqStringS (xs ys : List Tx) (hx : xs.length < 4611686018427387904) : Spec Try.prog 26 [.t (.list false 1 (xs.map Tx.row)), .t (.list false 1 (ys.map Tx.row))] (fun r => r = Bo (decide (xs = ys))) := by
  refine Spec.of tysOk mixed Try.func26 rfl (by decide) ?_
  simp -implicitDefEqProofs only [go_sem, Try.f26]
  refine BrA_i (fun h => ?_) (fun h => ?_) <;> simp -implicitDefEqProofs only [go_sem]
  · have hl : xs.length = ys.length := by simp at h; omega
    refine LoopW.slots (α := Nat) (fun i => [(5, I i)]) (fun _ => []) (fun i => xs.length - i) (fun i => i ≤ xs.length ∧ ∀ j (h : j < xs.length), j < i → xs[j] = ys[j]) 0 rfl rfl (by simp) ?_
    rintro i ⟨hi, hz⟩
    simp -implicitDefEqProofs only [go_sem]
    refine BrA_i (fun h => ?_) (fun h => ?_)
    · have h : i < xs.length := by simp at h; omega
      have h' : i < ys.length := by omega
      have hw1 : IntKind.i64.wrap ((i : Int) + 1) = ((i + 1 : Nat) : Int) := by rw [wrap64 (by omega) (by omega)]; omega
      simp -implicitDefEqProofs only [go_sem]
      refine RegD_of sch_26_6 tysOk (by kernel_rfl) ?_
      simp -implicitDefEqProofs only [go_sem, row_getD _ _ h, row_getD _ _ h', Tx.row]
      refine ⟨⟨by omega, by omega⟩, ⟨by omega, by omega⟩, ?_⟩
      refine BrA_i (fun h1 => ?_) (fun h1 => ?_) <;> simp -implicitDefEqProofs only [go_sem]
      · refine .to [] (i + 1) rfl ?_ ?_ (by omega) ⟨h, fun j hj hl => ?_⟩ <;> (try simp -implicitDefEqProofs only [go_sem, LeTs_undef, LeTs_same, LeTs_nil, hw1])
        rcases Nat.lt_succ_iff_lt_or_eq.1 hl with hl | rfl
        · exact hz j hj hl
        · simpa using h1
      · have : xs ≠ ys := fun e => by subst e; simp at h1
        simp [this]
    · simp -implicitDefEqProofs only [go_sem]
      have : xs = ys := List.ext_getElem hl fun j h1 h2 => hz j h1 (by simp at h; omega)
      simp [this]
  · have : xs ≠ ys := fun e => by subst e; simp at h
    simp [this]
theorem p_eqScore : Plain Try.prog 47 := ⟨_, Try.func47, rfl, by decide⟩
theorem s_eqScore (x y : Sc) : Spec Try.prog 47 [x.av, y.av] (fun r => r = Bo (decide (x = y))) := by
  have ext := Sc.ext_iff (x := x) (y := y)
  refine Spec.of tysOk mixed Try.func47 rfl (by decide) ?_
  simp -implicitDefEqProofs only [go_sem, Try.f47]
  refine BrA_i (fun h0 => ?_) (fun h0 => ?_) <;> simp -implicitDefEqProofs only [go_sem]
  rotate_left
  · simp only [decide_eq_false_iff_not] at h0; simp [ext, h0]
  simp only [decide_eq_true_eq] at h0
  refine BrA_i (fun h1 => ?_) (fun h1 => ?_) <;> simp -implicitDefEqProofs only [go_sem]
  rotate_left
  · simp only [decide_eq_false_iff_not] at h1; simp [ext, h1]
  simp only [decide_eq_true_eq] at h1
  simp [ext, *]
theorem p_eqScoreS : Plain Try.prog 17 := ⟨_, Try.func17, rfl, by decide⟩
theorem s_eqScoreS (xs ys : List Sc) (hx : xs.length < 4611686018427387904) : Spec Try.prog 17 [.t (.list false 2 (xs.map Sc.row)), .t (.list false 2 (ys.map Sc.row))] (fun r => r = Bo (decide (xs = ys))) := by
  refine Spec.of tysOk mixed Try.func17 rfl (by decide) ?_
  simp -implicitDefEqProofs only [go_sem, Try.f17]
  refine BrA_i (fun h => ?_) (fun h => ?_) <;> simp -implicitDefEqProofs only [go_sem]
  · have hl : xs.length = ys.length := by simp at h; omega
    refine LoopW.slots (α := Nat) (fun i => [(5, I i)]) (fun _ => []) (fun i => xs.length - i) (fun i => i ≤ xs.length ∧ ∀ j (h : j < xs.length), j < i → xs[j] = ys[j]) 0 rfl rfl (by simp) ?_
    rintro i ⟨hi, hz⟩
    simp -implicitDefEqProofs only [go_sem]
    refine BrA_i (fun h => ?_) (fun h => ?_)
    · have h : i < xs.length := by simp at h; omega
      have h' : i < ys.length := by omega
      have hw1 : IntKind.i64.wrap ((i : Int) + 1) = ((i + 1 : Nat) : Int) := by rw [wrap64 (by omega) (by omega)]; omega
      simp -implicitDefEqProofs only [go_sem]
      refine RegD_of sch_17_6 tysOk (by kernel_rfl) ?_
      simp -implicitDefEqProofs only [go_sem, row_getD _ _ h, row_getD _ _ h', Sc.row]
      refine ⟨⟨by omega, by omega⟩, ⟨by omega, by omega⟩, ?_⟩
      refine .one (s_eqScore xs[i] ys[i]) p_eqScore (by simp -implicitDefEqProofs only [go_sem]) trivial ?_
      simp -implicitDefEqProofs only [go_sem]
      refine BrA_i (fun h1 => ?_) (fun h1 => ?_) <;> simp -implicitDefEqProofs only [go_sem]
      · refine .to [] (i + 1) rfl ?_ ?_ (by omega) ⟨h, fun j hj hl => ?_⟩ <;> (try simp -implicitDefEqProofs only [go_sem, LeTs_undef, LeTs_same, LeTs_nil, hw1])
        rcases Nat.lt_succ_iff_lt_or_eq.1 hl with hl | rfl
        · exact hz j hj hl
        · simpa using h1
      · have : xs ≠ ys := fun e => by subst e; simp at h1
        simp [this]
    · simp -implicitDefEqProofs only [go_sem]
      have : xs = ys := List.ext_getElem hl fun j h1 h2 => hz j h1 (by simp at h; omega)
      simp [this]
  · have : xs ≠ ys := fun e => by subst e; simp at h
    simp [this]
theorem p_eqEntry : Plain Try.prog 77 := ⟨_, Try.func77, rfl, by decide⟩
theorem s_eqEntry (x y : En) (hs : x.sm) : Spec Try.prog 77 [x.av, y.av] (fun r => r = Bo (decide (x = y))) := by
  have ext := En.ext_iff (x := x) (y := y)
  obtain ⟨q0, q1, q2⟩ := hs
  refine Spec.of tysOk mixed Try.func77 rfl (by decide) ?_
  simp -implicitDefEqProofs only [go_sem, Try.f77]
  refine BrA_i (fun h0 => ?_) (fun h0 => ?_) <;> simp -implicitDefEqProofs only [go_sem]
  rotate_left
  · simp only [decide_eq_false_iff_not] at h0; simp [ext, h0]
  simp only [decide_eq_true_eq] at h0
  refine BrA_i (fun h1 => ?_) (fun h1 => ?_) <;> simp -implicitDefEqProofs only [go_sem]
  rotate_left
  · simp only [decide_eq_false_iff_not] at h1; simp [ext, h1]
  simp only [decide_eq_true_eq] at h1
  refine BrA_i (fun h2 => ?_) (fun h2 => ?_) <;> simp -implicitDefEqProofs only [go_sem]
  rotate_left
  · simp only [decide_eq_false_iff_not] at h2; simp [ext, h2]
  simp only [decide_eq_true_eq] at h2
  refine BrA_i (fun h3 => ?_) (fun h3 => ?_) <;> simp -implicitDefEqProofs only [go_sem]
  rotate_left
  · simp only [decide_eq_false_iff_not] at h3; simp [ext, h3]
  simp only [decide_eq_true_eq] at h3
  refine .one (s_eqStringS x.list y.list q0) p_eqStringS (by simp -implicitDefEqProofs only [go_sem]) trivial ?_
  simp -implicitDefEqProofs only [go_sem]
  refine BrA_i (fun h4 => ?_) (fun h4 => ?_) <;> simp -implicitDefEqProofs only [go_sem]
  rotate_left
  · simp only [decide_eq_false_iff_not] at h4; simp [ext, h4]
  simp only [decide_eq_true_eq] at h4
  refine .one (s_eqScoreS x.scores y.scores q1) p_eqScoreS (by simp -implicitDefEqProofs only [go_sem]) trivial ?_
  simp -implicitDefEqProofs only [go_sem]
  refine BrA_i (fun h5 => ?_) (fun h5 => ?_) <;> simp -implicitDefEqProofs only [go_sem]
  rotate_left
  · simp only [decide_eq_false_iff_not] at h5; simp [ext, h5]
  simp only [decide_eq_true_eq] at h5
  refine .one (s_eqPairS x.fields y.fields q2) p_eqPairS (by simp -implicitDefEqProofs only [go_sem]) trivial ?_
  simp -implicitDefEqProofs only [go_sem]
  refine BrA_i (fun h6 => ?_) (fun h6 => ?_) <;> simp -implicitDefEqProofs only [go_sem]
  rotate_left
  · simp only [decide_eq_false_iff_not] at h6; simp [ext, h6]
  simp only [decide_eq_true_eq] at h6
  simp [ext, *]
theorem p_eqEntryS : Plain Try.prog 56 := ⟨_, Try.func56, rfl, by decide⟩
theorem s_eqEntryS (xs ys : List En) (hx : xs.length < 4611686018427387904) (hs : ∀ x ∈ xs, x.sm) : Spec Try.prog 56 [.t (.list false 7 (xs.map En.row)), .t (.list false 7 (ys.map En.row))] (fun r => r = Bo (decide (xs = ys))) := by
  refine Spec.of tysOk mixed Try.func56 rfl (by decide) ?_
  simp -implicitDefEqProofs only [go_sem, Try.f56]
  refine BrA_i (fun h => ?_) (fun h => ?_) <;> simp -implicitDefEqProofs only [go_sem]
  · have hl : xs.length = ys.length := by simp at h; omega
    refine LoopW.slots (α := Nat) (fun i => [(5, I i)]) (fun _ => []) (fun i => xs.length - i) (fun i => i ≤ xs.length ∧ ∀ j (h : j < xs.length), j < i → xs[j] = ys[j]) 0 rfl rfl (by simp) ?_
    rintro i ⟨hi, hz⟩
    simp -implicitDefEqProofs only [go_sem]
    refine BrA_i (fun h => ?_) (fun h => ?_)
    · have h : i < xs.length := by simp at h; omega
      have h' : i < ys.length := by omega
      have hw1 : IntKind.i64.wrap ((i : Int) + 1) = ((i + 1 : Nat) : Int) := by rw [wrap64 (by omega) (by omega)]; omega
      simp -implicitDefEqProofs only [go_sem]
      refine RegD_of sch_56_6 tysOk (by kernel_rfl) ?_
      simp -implicitDefEqProofs only [go_sem, row_getD _ _ h, row_getD _ _ h', En.row]
      refine ⟨⟨by omega, by omega⟩, ⟨by omega, by omega⟩, ?_⟩
      refine .one (s_eqEntry xs[i] ys[i] (hs _ (List.getElem_mem _))) p_eqEntry (by simp -implicitDefEqProofs only [go_sem]) trivial ?_
      simp -implicitDefEqProofs only [go_sem]
      refine BrA_i (fun h1 => ?_) (fun h1 => ?_) <;> simp -implicitDefEqProofs only [go_sem]
      · refine .to [] (i + 1) rfl ?_ ?_ (by omega) ⟨h, fun j hj hl => ?_⟩ <;> (try simp -implicitDefEqProofs only [go_sem, LeTs_undef, LeTs_same, LeTs_nil, hw1])
        rcases Nat.lt_succ_iff_lt_or_eq.1 hl with hl | rfl
        · exact hz j hj hl
        · simpa using h1
      · have : xs ≠ ys := fun e => by subst e; simp at h1
        simp [this]
    · simp -implicitDefEqProofs only [go_sem]
      have : xs = ys := List.ext_getElem hl fun j h1 h2 => hz j h1 (by simp at h; omega)
      simp [this]
  · have : xs ≠ ys := fun e => by subst e; simp at h
    simp [this]
theorem p_eqBase : Plain Try.prog 27 := ⟨_, Try.func27, rfl, by decide⟩
theorem s_eqBase (x y : Bs) (hs : x.sm) : Spec Try.prog 27 [x.av, y.av] (fun r => r = Bo (decide (x = y))) := by
  have ext := Bs.ext_iff (x := x) (y := y)
  obtain ⟨q0, q1⟩ := hs
  refine Spec.of tysOk mixed Try.func27 rfl (by decide) ?_
  simp -implicitDefEqProofs only [go_sem, Try.f27]
  refine BrA_i (fun h0 => ?_) (fun h0 => ?_) <;> simp -implicitDefEqProofs only [go_sem]
  rotate_left
  · simp only [decide_eq_false_iff_not] at h0; simp [ext, h0]
  simp only [decide_eq_true_eq] at h0
  refine .one (s_eqEntryS x.ents y.ents q0 q1) p_eqEntryS (by simp -implicitDefEqProofs only [go_sem]) trivial ?_
  simp -implicitDefEqProofs only [go_sem]
  refine BrA_i (fun h1 => ?_) (fun h1 => ?_) <;> simp -implicitDefEqProofs only [go_sem]
  rotate_left
  · simp only [decide_eq_false_iff_not] at h1; simp [ext, h1]
  simp only [decide_eq_true_eq] at h1
  simp [ext, *]
end Go.Proofs.Ythbhnjcnbnlidaa.Am
namespace Go.Proofs.Ythbhnjcnbnlidaa.Am
open Go
set_option maxRecDepth 100000
set_option linter.unusedSimpArgs false
set_option linter.unusedVariables false
theorem p_szStringS : Plain Try.prog 95 := ⟨_, Try.func95, rfl, by decide⟩
theorem s_szStringS (xs : List Tx) (n : Int) (h0 : 0 ≤ n) (h1 : n ≤ 1048576) (hs : lG Tx.G xs) : Spec Try.prog 95 [.t (.list false 1 (xs.map Tx.row)), I n] (fun r => r = I (cutM n (wAll Tx.w xs))) := by
  have hk : wAll Tx.w xs = xs.length + wSum Tx.w xs := rfl
  obtain ⟨hs, hsG⟩ := hs
  refine Spec.of tysOk mixed Try.func95 rfl (by decide) ?_
  have w1 : IntKind.i64.wrap (n - (xs.length : Int)) = n - xs.length := wrap64 (by omega) (by omega)
  simp -implicitDefEqProofs only [go_sem, Try.f95, w1]
  refine BrA_i (fun h2 => ?_) (fun h2 => ?_) <;> simp -implicitDefEqProofs only [go_sem]
  · simp at h2
    have : n < wAll Tx.w xs := by omega
    simp [cutM, this]
  · simp at h2
    refine LoopW.slots (α := Nat) (fun i => [(5, I i), (1, I (n - xs.length - wSum Tx.w (xs.take i)))]) (fun _ => []) (fun i => xs.length - i) (fun i => i ≤ xs.length ∧ 0 ≤ n - xs.length - wSum Tx.w (xs.take i)) 0 (by simp -implicitDefEqProofs only [go_sem]; simp [wSum]) rfl (by simp [wSum]; omega) ?_
    rintro i ⟨hi, hz⟩
    simp -implicitDefEqProofs only [go_sem]
    refine BrA_i (fun h => ?_) (fun h => ?_)
    · have h : i < xs.length := by simp at h; omega
      have hw1 : IntKind.i64.wrap ((i : Int) + 1) = ((i + 1 : Nat) : Int) := by rw [wrap64 (by omega) (by omega)]; omega
      have e1 := wSum_take Tx.w xs h
      have e2 := wSum_le Tx.w xs (i + 1)
      simp -implicitDefEqProofs only [go_sem, row_getD _ _ h, Tx.row]
      refine ⟨⟨by omega, by omega⟩, ?_⟩
      have hG : xs[i].size ≤ 140737488351232 := hsG _ (List.getElem_mem h)
      have hwi : Tx.w xs[i] = xs[i].size := rfl
      have hsb : IntKind.i64.wrap (n - xs.length - wSum Tx.w (xs.take i) - ((xs[i].size : Nat) : Int)) = n - xs.length - wSum Tx.w (xs.take i) - ((xs[i].size : Nat) : Int) := wrap64 (by omega) (by omega)
      simp -implicitDefEqProofs only [go_sem, hsb]
      refine BrA_i (fun h3 => ?_) (fun h3 => ?_) <;> simp -implicitDefEqProofs only [go_sem]
      · have h3 : n - xs.length - wSum Tx.w (xs.take i) < Tx.w xs[i] := by have := of_decide_eq_true h3; omega
        have : n < wAll Tx.w xs := by omega
        simp [cutM, this]
      · have h3 : ¬ n - xs.length - wSum Tx.w (xs.take i) < Tx.w xs[i] := by have := of_decide_eq_false h3; omega
        refine .to [] (i + 1) rfl ?_ ?_ (by omega) ⟨h, by omega⟩ <;> (try simp -implicitDefEqProofs only [go_sem, LeTs_undef, LeTs_same, LeTs_nil, hw1, hsb, e1])
        refine LeTs_cons _ _ _ _ ?_ ?_
        · congr 2; omega
        · simp -implicitDefEqProofs only [go_sem, LeTs_undef, LeTs_same, LeTs_nil]
    · simp -implicitDefEqProofs only [go_sem]
      have h : i = xs.length := by simp at h; omega
      subst h
      rw [List.take_length] at hz ⊢
      have : ¬ n < wAll Tx.w xs := by omega
      simp only [cutM, this, if_false]
      congr 2
      omega
theorem p_szScore : Plain Try.prog 41 := ⟨_, Try.func41, rfl, by decide⟩
theorem s_szScore (x : Sc) (n : Int) (h0 : 0 ≤ n) (h1 : n ≤ 1048576) (hs : x.G) : Spec Try.prog 41 [x.av, I n] (fun r => r = I (cutM n x.w)) := by
  have hk : x.w = x.text.size := rfl
  have q0 : x.text.size ≤ 140737488351232 := hs
  refine Spec.of tysOk mixed Try.func41 rfl (by decide) ?_
  simp -implicitDefEqProofs only [go_sem, Try.f41]
  have w0 : IntKind.i64.wrap (n - ((x.text.size : Nat) : Int)) = n - ((x.text.size : Nat) : Int) := wrap64 (by omega) (by omega)
  simp -implicitDefEqProofs only [go_sem, w0]
  refine BrA_i (fun g0 => ?_) (fun g0 => ?_) <;> simp -implicitDefEqProofs only [go_sem]
  · have : n < x.w := by simp at g0; omega
    simp [cutM, this]
  have g0 : 0 ≤ n - ((x.text.size : Nat) : Int) := by simp at g0; omega
  have : ¬ n < x.w := by omega
  simp only [cutM, this, if_false]
  congr 2
  all_goals omega
theorem p_szScoreS : Plain Try.prog 13 := ⟨_, Try.func13, rfl, by decide⟩
theorem s_szScoreS (xs : List Sc) (n : Int) (h0 : 0 ≤ n) (h1 : n ≤ 1048576) (hs : lG Sc.G xs) : Spec Try.prog 13 [.t (.list false 2 (xs.map Sc.row)), I n] (fun r => r = I (cutM n (wAll Sc.w xs))) := by
  have hk : wAll Sc.w xs = xs.length + wSum Sc.w xs := rfl
  obtain ⟨hs, hsG⟩ := hs
  refine Spec.of tysOk mixed Try.func13 rfl (by decide) ?_
  have w1 : IntKind.i64.wrap (n - (xs.length : Int)) = n - xs.length := wrap64 (by omega) (by omega)
  simp -implicitDefEqProofs only [go_sem, Try.f13, w1]
  refine BrA_i (fun h2 => ?_) (fun h2 => ?_) <;> simp -implicitDefEqProofs only [go_sem]
  · simp at h2
    have : n < wAll Sc.w xs := by omega
    simp [cutM, this]
  · simp at h2
    refine LoopW.slots (α := Nat) (fun i => [(5, I i), (1, I (n - xs.length - wSum Sc.w (xs.take i)))]) (fun _ => []) (fun i => xs.length - i) (fun i => i ≤ xs.length ∧ 0 ≤ n - xs.length - wSum Sc.w (xs.take i)) 0 (by simp -implicitDefEqProofs only [go_sem]; simp [wSum]) rfl (by simp [wSum]; omega) ?_
    rintro i ⟨hi, hz⟩
    simp -implicitDefEqProofs only [go_sem]
    refine BrA_i (fun h => ?_) (fun h => ?_)
    · have h : i < xs.length := by simp at h; omega
      have hw1 : IntKind.i64.wrap ((i : Int) + 1) = ((i + 1 : Nat) : Int) := by rw [wrap64 (by omega) (by omega)]; omega
      have e1 := wSum_take Sc.w xs h
      have e2 := wSum_le Sc.w xs (i + 1)
      simp -implicitDefEqProofs only [go_sem, row_getD _ _ h, Sc.row]
      refine ⟨⟨by omega, by omega⟩, ?_⟩
      refine .one (s_szScore xs[i] _ hz (by omega) (hsG _ (List.getElem_mem h))) p_szScore (by simp -implicitDefEqProofs only [go_sem]) trivial ?_
      simp -implicitDefEqProofs only [go_sem]
      refine BrA_i (fun h3 => ?_) (fun h3 => ?_) <;> simp -implicitDefEqProofs only [go_sem]
      · have h3 : n - xs.length - wSum Sc.w (xs.take i) < xs[i].w := (cutM_lt _ _).1 (by simpa using h3)
        have : n < wAll Sc.w xs := by omega
        simp [cutM, this]
      · have h3 : ¬ n - xs.length - wSum Sc.w (xs.take i) < xs[i].w := fun hh => by simp [(cutM_lt _ _).2 hh] at h3
        refine .to [] (i + 1) rfl ?_ ?_ (by omega) ⟨h, by omega⟩ <;> (try simp -implicitDefEqProofs only [go_sem, LeTs_undef, LeTs_same, LeTs_nil, hw1, cutM_ge h3, e1])
        refine LeTs_cons _ _ _ _ ?_ ?_
        · congr 2; omega
        · simp -implicitDefEqProofs only [go_sem, LeTs_undef, LeTs_same, LeTs_nil]
    · simp -implicitDefEqProofs only [go_sem]
      have h : i = xs.length := by simp at h; omega
      subst h
      rw [List.take_length] at hz ⊢
      have : ¬ n < wAll Sc.w xs := by omega
      simp only [cutM, this, if_false]
      congr 2
      omega
theorem p_szEntry : Plain Try.prog 72 := ⟨_, Try.func72, rfl, by decide⟩
theorem s_szEntry (x : En) (n : Int) (h0 : 0 ≤ n) (h1 : n ≤ 1048576) (hs : x.G) : Spec Try.prog 72 [x.av, I n] (fun r => r = I (cutM n x.w)) := by
  have hk : x.w = x.key.size + x.text.size + wAll Tx.w x.list + wAll Sc.w x.scores + wAll Pr.w x.fields := rfl
  obtain ⟨q0, q1, q2, q3, q4⟩ := hs
  refine Spec.of tysOk mixed Try.func72 rfl (by decide) ?_
  simp -implicitDefEqProofs only [go_sem, Try.f72]
  have w0 : IntKind.i64.wrap (n - ((x.key.size : Nat) : Int)) = n - ((x.key.size : Nat) : Int) := wrap64 (by omega) (by omega)
  simp -implicitDefEqProofs only [go_sem, w0]
  refine BrA_i (fun g0 => ?_) (fun g0 => ?_) <;> simp -implicitDefEqProofs only [go_sem]
  · have : n < x.w := by simp at g0; omega
    simp [cutM, this]
  have g0 : 0 ≤ n - ((x.key.size : Nat) : Int) := by simp at g0; omega
  have w1 : IntKind.i64.wrap (n - ((x.key.size : Nat) : Int) - ((x.text.size : Nat) : Int)) = n - ((x.key.size : Nat) : Int) - ((x.text.size : Nat) : Int) := wrap64 (by omega) (by omega)
  simp -implicitDefEqProofs only [go_sem, w1]
  refine BrA_i (fun g1 => ?_) (fun g1 => ?_) <;> simp -implicitDefEqProofs only [go_sem]
  · have : n < x.w := by simp at g1; omega
    simp [cutM, this]
  have g1 : 0 ≤ n - ((x.key.size : Nat) : Int) - ((x.text.size : Nat) : Int) := by simp at g1; omega
  refine .one (s_szStringS x.list (n - ((x.key.size : Nat) : Int) - ((x.text.size : Nat) : Int)) (by omega) (by omega) q2) p_szStringS (by simp -implicitDefEqProofs only [go_sem]) trivial ?_
  simp -implicitDefEqProofs only [go_sem]
  refine BrA_i (fun g2 => ?_) (fun g2 => ?_) <;> simp -implicitDefEqProofs only [go_sem]
  · have g2 := (cutM_lt _ _).1 (by simpa using g2)
    have : n < x.w := by omega
    simp [cutM, this]
  have g2 : ¬ n - ((x.key.size : Nat) : Int) - ((x.text.size : Nat) : Int) < ((wAll Tx.w x.list : Nat) : Int) := fun hh => by simp [(cutM_lt _ _).2 hh] at g2
  simp -implicitDefEqProofs only [cutM_ge g2]
  refine .one (s_szScoreS x.scores (n - ((x.key.size : Nat) : Int) - ((x.text.size : Nat) : Int) - ((wAll Tx.w x.list : Nat) : Int)) (by omega) (by omega) q3) p_szScoreS (by simp -implicitDefEqProofs only [go_sem]) trivial ?_
  simp -implicitDefEqProofs only [go_sem]
  refine BrA_i (fun g3 => ?_) (fun g3 => ?_) <;> simp -implicitDefEqProofs only [go_sem]
  · have g3 := (cutM_lt _ _).1 (by simpa using g3)
    have : n < x.w := by omega
    simp [cutM, this]
  have g3 : ¬ n - ((x.key.size : Nat) : Int) - ((x.text.size : Nat) : Int) - ((wAll Tx.w x.list : Nat) : Int) < ((wAll Sc.w x.scores : Nat) : Int) := fun hh => by simp [(cutM_lt _ _).2 hh] at g3
  simp -implicitDefEqProofs only [cutM_ge g3]
  refine .one (s_szPairS x.fields (n - ((x.key.size : Nat) : Int) - ((x.text.size : Nat) : Int) - ((wAll Tx.w x.list : Nat) : Int) - ((wAll Sc.w x.scores : Nat) : Int)) (by omega) (by omega) q4) p_szPairS (by simp -implicitDefEqProofs only [go_sem]) trivial ?_
  simp -implicitDefEqProofs only [go_sem]
  refine BrA_i (fun g4 => ?_) (fun g4 => ?_) <;> simp -implicitDefEqProofs only [go_sem]
  · have g4 := (cutM_lt _ _).1 (by simpa using g4)
    have : n < x.w := by omega
    simp [cutM, this]
  have g4 : ¬ n - ((x.key.size : Nat) : Int) - ((x.text.size : Nat) : Int) - ((wAll Tx.w x.list : Nat) : Int) - ((wAll Sc.w x.scores : Nat) : Int) < ((wAll Pr.w x.fields : Nat) : Int) := fun hh => by simp [(cutM_lt _ _).2 hh] at g4
  simp -implicitDefEqProofs only [cutM_ge g4]
  have : ¬ n < x.w := by omega
  simp only [cutM, this, if_false]
  congr 2
  all_goals omega
theorem p_szEntryS : Plain Try.prog 49 := ⟨_, Try.func49, rfl, by decide⟩
theorem s_szEntryS (xs : List En) (n : Int) (h0 : 0 ≤ n) (h1 : n ≤ 1048576) (hs : lG En.G xs) : Spec Try.prog 49 [.t (.list false 7 (xs.map En.row)), I n] (fun r => r = I (cutM n (wAll En.w xs))) := by
  have hk : wAll En.w xs = xs.length + wSum En.w xs := rfl
  obtain ⟨hs, hsG⟩ := hs
  refine Spec.of tysOk mixed Try.func49 rfl (by decide) ?_
  have w1 : IntKind.i64.wrap (n - (xs.length : Int)) = n - xs.length := wrap64 (by omega) (by omega)
  simp -implicitDefEqProofs only [go_sem, Try.f49, w1]
  refine BrA_i (fun h2 => ?_) (fun h2 => ?_) <;> simp -implicitDefEqProofs only [go_sem]
  · simp at h2
    have : n < wAll En.w xs := by omega
    simp [cutM, this]
  · simp at h2
    refine LoopW.slots (α := Nat) (fun i => [(5, I i), (1, I (n - xs.length - wSum En.w (xs.take i)))]) (fun _ => []) (fun i => xs.length - i) (fun i => i ≤ xs.length ∧ 0 ≤ n - xs.length - wSum En.w (xs.take i)) 0 (by simp -implicitDefEqProofs only [go_sem]; simp [wSum]) rfl (by simp [wSum]; omega) ?_
    rintro i ⟨hi, hz⟩
    simp -implicitDefEqProofs only [go_sem]
    refine BrA_i (fun h => ?_) (fun h => ?_)
    · have h : i < xs.length := by simp at h; omega
      have hw1 : IntKind.i64.wrap ((i : Int) + 1) = ((i + 1 : Nat) : Int) := by rw [wrap64 (by omega) (by omega)]; omega
      have e1 := wSum_take En.w xs h
      have e2 := wSum_le En.w xs (i + 1)
      simp -implicitDefEqProofs only [go_sem, row_getD _ _ h, En.row]
      refine ⟨⟨by omega, by omega⟩, ?_⟩
      refine .one (s_szEntry xs[i] _ hz (by omega) (hsG _ (List.getElem_mem h))) p_szEntry (by simp -implicitDefEqProofs only [go_sem]) trivial ?_
      simp -implicitDefEqProofs only [go_sem]
      refine BrA_i (fun h3 => ?_) (fun h3 => ?_) <;> simp -implicitDefEqProofs only [go_sem]
      · have h3 : n - xs.length - wSum En.w (xs.take i) < xs[i].w := (cutM_lt _ _).1 (by simpa using h3)
        have : n < wAll En.w xs := by omega
        simp [cutM, this]
      · have h3 : ¬ n - xs.length - wSum En.w (xs.take i) < xs[i].w := fun hh => by simp [(cutM_lt _ _).2 hh] at h3
        refine .to [] (i + 1) rfl ?_ ?_ (by omega) ⟨h, by omega⟩ <;> (try simp -implicitDefEqProofs only [go_sem, LeTs_undef, LeTs_same, LeTs_nil, hw1, cutM_ge h3, e1])
        refine LeTs_cons _ _ _ _ ?_ ?_
        · congr 2; omega
        · simp -implicitDefEqProofs only [go_sem, LeTs_undef, LeTs_same, LeTs_nil]
    · simp -implicitDefEqProofs only [go_sem]
      have h : i = xs.length := by simp at h; omega
      subst h
      rw [List.take_length] at hz ⊢
      have : ¬ n < wAll En.w xs := by omega
      simp only [cutM, this, if_false]
      congr 2
      omega
theorem p_szBase : Plain Try.prog 22 := ⟨_, Try.func22, rfl, by decide⟩
theorem s_szBase (x : Bs) (n : Int) (h0 : 0 ≤ n) (h1 : n ≤ 1048576) (hs : x.G) : Spec Try.prog 22 [x.av, I n] (fun r => r = I (cutM n x.w)) := by
  have hk : x.w = wAll En.w x.ents := rfl
  have q0 : lG En.G x.ents := hs
  refine Spec.of tysOk mixed Try.func22 rfl (by decide) ?_
  simp -implicitDefEqProofs only [go_sem, Try.f22]
  refine .one (s_szEntryS x.ents (n) (by omega) (by omega) q0) p_szEntryS (by simp -implicitDefEqProofs only [go_sem]) trivial ?_
  simp -implicitDefEqProofs only [go_sem]
  refine BrA_i (fun g0 => ?_) (fun g0 => ?_) <;> simp -implicitDefEqProofs only [go_sem]
  · have g0 := (cutM_lt _ _).1 (by simpa using g0)
    have : n < x.w := by omega
    simp [cutM, this]
  have g0 : ¬ n < ((wAll En.w x.ents : Nat) : Int) := fun hh => by simp [(cutM_lt _ _).2 hh] at g0
  simp -implicitDefEqProofs only [cutM_ge g0]
  have : ¬ n < x.w := by omega
  simp only [cutM, this, if_false]
  congr 2
  all_goals omega
end Go.Proofs.Ythbhnjcnbnlidaa.Am
namespace Go.Proofs.Ythbhnjcnbnlidaa.Am
open Go
set_option maxRecDepth 100000
set_option linter.unusedSimpArgs false
set_option linter.unusedVariables false
theorem p_toPair : Plain Try.prog 128 := ⟨_, Try.func128, rfl, by decide⟩
theorem s_toPair (x : Pr) : Spec Try.prog 128 [x.av] (fun r => r = x.av) := by
  refine Spec.of tysOk mixed Try.func128 rfl (by decide) ?_
  simp -implicitDefEqProofs only [go_sem, Try.f128]
theorem p_toPairS : Plain Try.prog 102 := ⟨_, Try.func102, rfl, by decide⟩
theorem s_toPairS (xs : List Pr) (hx : xs.length ≤ 1048576) : Spec Try.prog 102 [.t (.list false 2 (xs.map Pr.row))] (fun r => r = .own (.list true 2 (xs.map Pr.row))) := by
  refine Spec.of tysOk mixed Try.func102 rfl (by decide) ?_
  simp -implicitDefEqProofs only [go_sem, Try.f102]
  refine ⟨⟨by omega, by unfold roomy; omega⟩, ?_⟩
  refine LoopW.slots (α := Nat) (fun i => [(4, I i)]) (fun i => [(56, .rows 2 (fillR Pr.row [T.str ⟨#[]⟩, T.str ⟨#[]⟩] xs i))]) (fun i => xs.length - i) (fun i => i ≤ xs.length) 0 rfl (by simp -implicitDefEqProofs only [go_sem, fill_0]) (by omega) ?_
  intro i hi
  simp -implicitDefEqProofs only [go_sem]
  refine BrA_i (fun h => ?_) (fun h => ?_)
  · have h : i < xs.length := by simp at h; omega
    have hw1 : IntKind.i64.wrap ((i : Int) + 1) = ((i + 1 : Nat) : Int) := by rw [wrap64 (by omega) (by omega)]; omega
    simp -implicitDefEqProofs only [go_sem, row_getD _ _ h, Pr.row]
    refine ⟨⟨by omega, by omega⟩, ?_⟩
    refine .onep (s_toPair xs[i]) p_toPair (by simp -implicitDefEqProofs only [go_sem]) rfl ?_
    simp -implicitDefEqProofs only [go_sem, fill_len _ _ _ hi, fill_getD _ _ _ h]
    have e := fill_set Pr.row [T.str ⟨#[]⟩, T.str ⟨#[]⟩] xs h
    simp only [Pr.row] at e
    refine ⟨⟨by omega, by omega⟩, h, .to [] (i + 1) rfl ?_ ?_ (by omega) h⟩ <;> simp -implicitDefEqProofs only [go_sem, LeTs_undef, LeTs_same, LeTs_nil, hw1, e]
  · simp -implicitDefEqProofs only [go_sem]
    have h : i = xs.length := by simp at h; omega
    subst h
    rw [fill_all]
    try exact ⟨by decide, rfl⟩
end Go.Proofs.Ythbhnjcnbnlidaa.Am
namespace Go.Proofs.Ythbhnjcnbnlidaa.Am
open Go
set_option maxRecDepth 100000
set_option linter.unusedSimpArgs false
set_option linter.unusedVariables false
theorem p_toStringS : Plain Try.prog 101 := ⟨_, Try.func101, rfl, by decide⟩
theorem s_toStringS (xs : List Tx) (hx : xs.length ≤ 1048576) : Spec Try.prog 101 [.t (.list false 1 (xs.map Tx.row))] (fun r => r = .own (.list true 1 (xs.map Tx.row))) := by
  refine Spec.of tysOk mixed Try.func101 rfl (by decide) ?_
  simp -implicitDefEqProofs only [go_sem, Try.f101]
  refine ⟨⟨by omega, by unfold roomy; omega⟩, ?_⟩
  refine LoopW.slots (α := Nat) (fun i => [(4, I i)]) (fun i => [(56, .rows 1 (fillR Tx.row [T.str ⟨#[]⟩] xs i))]) (fun i => xs.length - i) (fun i => i ≤ xs.length) 0 rfl (by simp -implicitDefEqProofs only [go_sem, fill_0]) (by omega) ?_
  intro i hi
  simp -implicitDefEqProofs only [go_sem]
  refine BrA_i (fun h => ?_) (fun h => ?_)
  · have h : i < xs.length := by simp at h; omega
    have hw1 : IntKind.i64.wrap ((i : Int) + 1) = ((i + 1 : Nat) : Int) := by rw [wrap64 (by omega) (by omega)]; omega
    simp -implicitDefEqProofs only [go_sem, row_getD _ _ h, Tx.row]
    refine ⟨⟨by omega, by omega⟩, ?_⟩
    simp -implicitDefEqProofs only [go_sem, fill_len _ _ _ hi, fill_getD _ _ _ h]
    have e := fill_set Tx.row [T.str ⟨#[]⟩] xs h
    simp only [Tx.row] at e
    refine ⟨⟨by omega, by omega⟩, h, .to [] (i + 1) rfl ?_ ?_ (by omega) h⟩ <;> simp -implicitDefEqProofs only [go_sem, LeTs_undef, LeTs_same, LeTs_nil, hw1, e]
  · simp -implicitDefEqProofs only [go_sem]
    have h : i = xs.length := by simp at h; omega
    subst h
    rw [fill_all]
    try exact ⟨by decide, rfl⟩
theorem p_toScore : Plain Try.prog 45 := ⟨_, Try.func45, rfl, by decide⟩
theorem s_toScore (x : Sc) : Spec Try.prog 45 [x.av] (fun r => r = x.av) := by
  refine Spec.of tysOk mixed Try.func45 rfl (by decide) ?_
  simp -implicitDefEqProofs only [go_sem, Try.f45]
theorem p_toScoreS : Plain Try.prog 15 := ⟨_, Try.func15, rfl, by decide⟩
theorem s_toScoreS (xs : List Sc) (hx : xs.length ≤ 1048576) : Spec Try.prog 15 [.t (.list false 2 (xs.map Sc.row))] (fun r => r = .own (.list true 2 (xs.map Sc.row))) := by
  refine Spec.of tysOk mixed Try.func15 rfl (by decide) ?_
  simp -implicitDefEqProofs only [go_sem, Try.f15]
  refine ⟨⟨by omega, by unfold roomy; omega⟩, ?_⟩
  refine LoopW.slots (α := Nat) (fun i => [(4, I i)]) (fun i => [(56, .rows 2 (fillR Sc.row [T.str ⟨#[]⟩, T.int .i64 0] xs i))]) (fun i => xs.length - i) (fun i => i ≤ xs.length) 0 rfl (by simp -implicitDefEqProofs only [go_sem, fill_0]) (by omega) ?_
  intro i hi
  simp -implicitDefEqProofs only [go_sem]
  refine BrA_i (fun h => ?_) (fun h => ?_)
  · have h : i < xs.length := by simp at h; omega
    have hw1 : IntKind.i64.wrap ((i : Int) + 1) = ((i + 1 : Nat) : Int) := by rw [wrap64 (by omega) (by omega)]; omega
    simp -implicitDefEqProofs only [go_sem, row_getD _ _ h, Sc.row]
    refine ⟨⟨by omega, by omega⟩, ?_⟩
    refine .onep (s_toScore xs[i]) p_toScore (by simp -implicitDefEqProofs only [go_sem]) rfl ?_
    simp -implicitDefEqProofs only [go_sem, fill_len _ _ _ hi, fill_getD _ _ _ h]
    have e := fill_set Sc.row [T.str ⟨#[]⟩, T.int .i64 0] xs h
    simp only [Sc.row] at e
    refine ⟨⟨by omega, by omega⟩, h, .to [] (i + 1) rfl ?_ ?_ (by omega) h⟩ <;> simp -implicitDefEqProofs only [go_sem, LeTs_undef, LeTs_same, LeTs_nil, hw1, e]
  · simp -implicitDefEqProofs only [go_sem]
    have h : i = xs.length := by simp at h; omega
    subst h
    rw [fill_all]
    try exact ⟨by decide, rfl⟩
theorem p_toEntry : Plain Try.prog 74 := ⟨_, Try.func74, rfl, by decide⟩
theorem s_toEntry (x : En) (hs : x.md) : Spec Try.prog 74 [x.av] (fun r => r = x.avO) := by
  obtain ⟨q0, q1, q2⟩ := hs
  refine Spec.of tysOk mixed Try.func74 rfl (by decide) ?_
  simp -implicitDefEqProofs only [go_sem, Try.f74]
  refine .onep (s_toStringS x.list q0) p_toStringS (by simp -implicitDefEqProofs only [go_sem]) rfl ?_
  simp -implicitDefEqProofs only [go_sem]
  refine .onep (s_toScoreS x.scores q1) p_toScoreS (by simp -implicitDefEqProofs only [go_sem]) rfl ?_
  simp -implicitDefEqProofs only [go_sem]
  refine .onep (s_toPairS x.fields q2) p_toPairS (by simp -implicitDefEqProofs only [go_sem]) rfl ?_
  simp -implicitDefEqProofs only [go_sem]
  try decide
theorem p_toEntryS : Plain Try.prog 52 := ⟨_, Try.func52, rfl, by decide⟩
theorem s_toEntryS (xs : List En) (hx : xs.length ≤ 1048576) (hs : ∀ x ∈ xs, En.md x) : Spec Try.prog 52 [.t (.list false 7 (xs.map En.row))] (fun r => r = .own (.list true 7 (xs.map En.rowO))) := by
  refine Spec.of tysOk mixed Try.func52 rfl (by decide) ?_
  simp -implicitDefEqProofs only [go_sem, Try.f52]
  refine ⟨⟨by omega, by unfold roomy; omega⟩, ?_⟩
  refine LoopW.slots (α := Nat) (fun i => [(4, I i)]) (fun i => [(56, .rows 7 (fillR En.rowO [T.str ⟨#[]⟩, T.int .i64 0, T.int .i64 0, T.str ⟨#[]⟩, T.list true 1 [], T.list true 2 [], T.list true 2 []] xs i))]) (fun i => xs.length - i) (fun i => i ≤ xs.length) 0 rfl (by simp -implicitDefEqProofs only [go_sem, fill_0]) (by omega) ?_
  intro i hi
  simp -implicitDefEqProofs only [go_sem]
  refine BrA_i (fun h => ?_) (fun h => ?_)
  · have h : i < xs.length := by simp at h; omega
    have hw1 : IntKind.i64.wrap ((i : Int) + 1) = ((i + 1 : Nat) : Int) := by rw [wrap64 (by omega) (by omega)]; omega
    simp -implicitDefEqProofs only [go_sem, row_getD _ _ h, En.row]
    refine ⟨⟨by omega, by omega⟩, ?_⟩
    refine .onep (s_toEntry xs[i] (hs _ (List.getElem_mem _))) p_toEntry (by simp -implicitDefEqProofs only [go_sem]) rfl ?_
    simp -implicitDefEqProofs only [go_sem, fill_len _ _ _ hi, fill_getD _ _ _ h]
    have e := fill_set En.rowO [T.str ⟨#[]⟩, T.int .i64 0, T.int .i64 0, T.str ⟨#[]⟩, T.list true 1 [], T.list true 2 [], T.list true 2 []] xs h
    simp only [En.rowO] at e
    refine ⟨⟨by omega, by omega⟩, h, .to [] (i + 1) rfl ?_ ?_ (by omega) h⟩ <;> simp -implicitDefEqProofs only [go_sem, LeTs_undef, LeTs_same, LeTs_nil, hw1, e]
  · simp -implicitDefEqProofs only [go_sem]
    have h : i = xs.length := by simp at h; omega
    subst h
    rw [fill_all]
    try exact ⟨by decide, rfl⟩
theorem p_toBase : Plain Try.prog 24 := ⟨_, Try.func24, rfl, by decide⟩
theorem s_toBase (x : Bs) (hs : x.md) : Spec Try.prog 24 [x.av] (fun r => r = x.avO) := by
  obtain ⟨q0, q1⟩ := hs
  refine Spec.of tysOk mixed Try.func24 rfl (by decide) ?_
  simp -implicitDefEqProofs only [go_sem, Try.f24]
  refine .onep (s_toEntryS x.ents q0 q1) p_toEntryS (by simp -implicitDefEqProofs only [go_sem]) rfl ?_
  simp -implicitDefEqProofs only [go_sem]
  try decide
end Go.Proofs.Ythbhnjcnbnlidaa.Am
namespace Go.Proofs.Ythbhnjcnbnlidaa.Am
open Go
set_option maxRecDepth 100000
set_option linter.unusedSimpArgs false
set_option linter.unusedVariables false
def dig (n : Nat) : ByteArray := ⟨#[UInt8.ofNat (IntKind.u8.wrap (48 + (n : Int))).toNat]⟩
def mtL (n : Nat) (out : ByteArray) : ByteArray := if h : n = 0 then out else mtL (n / 10) (dig (n % 10) ++ out)
termination_by n
decreasing_by omega
theorem mtL_pos {n : Nat} (h : 0 < n) (out : ByteArray) : mtL n out = mtL (n / 10) (dig (n % 10) ++ out) := by rw [mtL, dif_neg (by omega)]
theorem mtL_0 (out : ByteArray) : mtL 0 out = out := by rw [mtL, dif_pos rfl]
def mt (k : Int) : ByteArray := if k ≤ 0 then "m0".toUTF8 else "m".toUTF8 ++ mtL k.toNat .empty
theorem p_markText : Plain Try.prog 48 := ⟨_, Try.func48, rfl, by decide⟩
theorem s_markText (k : Int) (hk : k < 1000000000000000000) : Spec Try.prog 48 [I k] (fun r => r = .t (.str (mt k))) := by
  refine Spec.of tysOk mixed Try.func48 rfl (by decide) ?_
  simp -implicitDefEqProofs only [go_sem, Try.f48]
  refine BrA_i (fun h => ?_) (fun h => ?_) <;> simp -implicitDefEqProofs only [go_sem]
  · have h : k ≤ 0 := by simpa using h
    simp only [mt, if_pos h]; rfl
  · have h : 0 < k := by simpa using h
    refine LoopW.slotsL (α := Nat × ByteArray × Nat) (fun p => [(0, I p.1), (3, .t (.str p.2.1))]) (fun _ => []) (fun p => p.1) (fun p => mtL p.1 p.2.1 = mtL k.toNat .empty ∧ p.1 < 10 ^ p.2.2 ∧ p.2.1.size + p.2.2 ≤ 100 ∧ p.1 ≤ k.toNat) (k.toNat, .empty, 18) ?_ rfl ?_ ?_
    · simp -implicitDefEqProofs only [go_sem, LeTs_undef, LeTs_same, LeTs_nil, Int.toNat_of_nonneg (show 0 ≤ k by omega)]
      simp [LeTs]; rfl
    · refine ⟨rfl, ?_, ?_, Nat.le_refl _⟩
      · show k.toNat < 10 ^ 18; omega
      · show (0 + 18 ≤ 100); omega
    rintro ⟨n, out, f⟩ ⟨h1, h2, h3, h4⟩
    simp -implicitDefEqProofs only [go_sem]
    refine BrA_i (fun h => ?_) (fun h => ?_) <;> simp -implicitDefEqProofs only [go_sem]
    · have h : 0 < n := by simp at h; omega
      simp only at h1 h2 h3 h4
      have e1 : IntKind.i64.wrap (48 + (n : Int).tmod 10) = 48 + ((n % 10 : Nat) : Int) := by
        have : (n : Int).tmod 10 = ((n % 10 : Nat) : Int) := rfl
        rw [this, wrap64 (by omega) (by omega)]
      have e2 : IntKind.i64.wrap ((n : Int).tdiv 10) = ((n / 10 : Nat) : Int) := by
        have h0 : (n : Int).tdiv 10 = ((n / 10 : Nat) : Int) := rfl
        rw [h0, wrap64 (by omega) (by omega)]
      have ed : (⟨#[UInt8.ofNat (IntKind.u8.wrap (48 + ((n % 10 : Nat) : Int))).toNat]⟩ : ByteArray) = dig (n % 10) := rfl
      rw [e1, e2, ed]
      have hf : f ≠ 0 := fun e => by subst e; simp at h2; omega
      obtain ⟨f, rfl⟩ : ∃ g, f = g + 1 := ⟨f - 1, by omega⟩
      have hsz : (dig (n % 10) ++ out).size = out.size + 1 := by
        rw [ByteArray.size_append]; show 1 + out.size = _; omega
      refine ⟨by unfold strMax; omega, .to [96] (n / 10, dig (n % 10) ++ out, f) rfl ?_ rfl ?_ ⟨?_, ?_, ?_, ?_⟩⟩
      · simp -implicitDefEqProofs only [go_sem, LeTs_undef, LeTs_same, LeTs_nil]
      · show n / 10 < n; omega
      · show mtL (n / 10) (dig (n % 10) ++ out) = _
        rw [← h1, mtL_pos h]
      · show n / 10 < 10 ^ f
        rw [Nat.pow_succ] at h2; omega
      · show (dig (n % 10) ++ out).size + f ≤ 100; omega
      · show n / 10 ≤ k.toNat; omega
    · have h : n = 0 := by simp at h; omega
      subst h
      simp only at h1 h2 h3 h4
      rw [mtL_0] at h1
      refine ⟨by unfold strMax; omega, ?_⟩
      have hk0 : ¬ k ≤ 0 := by omega
      simp only [mt, if_neg hk0, ← h1]
      rfl
end Go.Proofs.Ythbhnjcnbnlidaa.Am
namespace Go.Proofs.Ythbhnjcnbnlidaa.Am
open Go
set_option maxRecDepth 100000
set_option linter.unusedSimpArgs false
set_option linter.unusedVariables false
def Pr.mw (x : Pr) : Nat := 2
def Pr.m (x : Pr) (k : Int) : Pr := ⟨mt (k), mt (k + 1)⟩
theorem p_markPairS : Plain Try.prog 78 := ⟨_, Try.func78, rfl, by decide⟩
theorem s_markPairS (xs : List Pr) (k : Int) (hk : 0 ≤ k) (hb : k + (wSum Pr.mw xs : Nat) < 10000000000000000) (hx : xs.length < 10000000000000000) : SpecO Try.prog 78 [.refw 9000, I k] [(9000, .rows 2 (xs.map Pr.row))]
    (fun r h => r = I (k + (wSum Pr.mw xs : Nat)) ∧ h = [(9000, .rows 2 ((mkAll Pr.m Pr.mw xs k).map Pr.row))]) := by
  refine SpecO.of tysOk mixed Try.func78 rfl (by decide) ?_
  have hl : ((mkAll Pr.m Pr.mw xs k).map Pr.row).length = (xs.map Pr.row).length := by rw [List.length_map, List.length_map, mkAll_len]
  simp -implicitDefEqProofs only [go_sem, Try.f78]
  refine LoopW.slotsL (α := Nat) (fun i => [(5, I i), (1, I (k + (wSum Pr.mw (xs.take i) : Nat)))]) (fun i => [(9000, .rows 2 (mixR ((mkAll Pr.m Pr.mw xs k).map Pr.row) (xs.map Pr.row) i))]) (fun i => xs.length - i) (fun i => i ≤ xs.length) 0 ?_ ?_ (by omega) ?_
  · simp -implicitDefEqProofs only [go_sem, LeTs_undef, LeTs_same, LeTs_nil]
    simp [LeTs, wSum]
  · simp -implicitDefEqProofs only [go_sem, mix_0]
  intro i hi
  have hw := wSum_le Pr.mw xs i
  have hml : (mixR ((mkAll Pr.m Pr.mw xs k).map Pr.row) (xs.map Pr.row) i).length = xs.length := by rw [mix_len hl (by simpa using hi), List.length_map]
  simp -implicitDefEqProofs only [go_sem, hml]
  refine BrA_i (fun h => ?_) (fun h => ?_) <;> simp -implicitDefEqProofs only [go_sem]
  · have h : i < xs.length := by simp at h; omega
    have hw1 := wSum_take Pr.mw xs h
    have hw2 := wSum_le Pr.mw xs (i + 1)
    obtain ⟨K, hK⟩ : ∃ K : Int, K = k + (wSum Pr.mw (xs.take i) : Nat) := ⟨_, rfl⟩
    have hK1 : k + (wSum Pr.mw (xs.take (i + 1)) : Nat) = K + (Pr.mw xs[i] : Nat) := by rw [hw1, hK]; omega
    rw [← hK]
    have hmw : Pr.mw xs[i] = 2 := rfl
    have h0i : (0 : Int) ≤ i := by omega
    have h1i : (i : Int) < xs.length := by omega
    have hg : (mixR ((mkAll Pr.m Pr.mw xs k).map Pr.row) (xs.map Pr.row) i).getD i [] = [.str xs[i].k, .str xs[i].v] := by rw [mix_getD hl (by simpa using h), row_getD _ _ h]; rfl
    have hn : ((mkAll Pr.m Pr.mw xs k).map Pr.row).getD i [] = [.str (mt (K)), .str (mt (K + 1))] := by rw [mkAll_getD _ _ _ _ _ h, ← hK]; rfl
    have hst := mix_set hl (i := i) (by simpa using h)
    rw [hn] at hst
    have hsg : ∀ r, ((mixR ((mkAll Pr.m Pr.mw xs k).map Pr.row) (xs.map Pr.row) i).set i r).getD i [] = r := fun r => set_getD (by omega) r
    have wi : IntKind.i64.wrap ((i : Int) + 1) = ((i + 1 : Nat) : Int) := by rw [wrap64 (by omega) (by omega)]; omega
    have w0 : IntKind.i64.wrap (K + 1) = K + 1 := by rw [wrap64 (by omega) (by omega)]
    have w1 : IntKind.i64.wrap (K + 1 + 1) = K + 2 := by rw [wrap64 (by omega) (by omega)]; omega
    simp -implicitDefEqProofs only [go_sem, hml, h0i, h1i, h, hg, hsg, wi, w0, w1]
    refine .one (s_markText _ (by omega)) p_markText rfl trivial ?_
    simp -implicitDefEqProofs only [go_sem, hml, h0i, h1i, h, hg, hsg, wi, w0, w1]
    refine .one (s_markText _ (by omega)) p_markText rfl trivial ?_
    simp -implicitDefEqProofs only [go_sem, hml, h0i, h1i, h, hg, hsg, wi, w0, w1]
    refine .to [] (i + 1) rfl ?_ ?_ (by omega) (by omega)
    · simp -implicitDefEqProofs only [go_sem, LeTs_undef, LeTs_same, LeTs_nil, hK1, hmw]
      try simp [LeTs]
      try omega
    · try simp -implicitDefEqProofs only [go_sem, hst]
  · have h : i = xs.length := by simp at h; omega
    subst h
    have hm : mixR ((mkAll Pr.m Pr.mw xs k).map Pr.row) (xs.map Pr.row) xs.length = ((mkAll Pr.m Pr.mw xs k).map Pr.row) := by
      have := mix_all hl; rwa [List.length_map] at this
    simp -implicitDefEqProofs only [go_sem, hm, List.take_length, mkAll_len]
def It.mw (x : It) : Nat := 2 + wSum Pr.mw x.fields
def It.m (x : It) (k : Int) : It := ⟨⟨k, k + 1⟩, mkAll Pr.m Pr.mw x.fields (k + 2)⟩
def Wt.mw (x : Wt) : Nat := 5
def Wt.m (x : Wt) (k : Int) : Wt := ⟨⟨k, k + 1⟩, mt (k + 2), k + 3, k + 4⟩
def Gr.mw (x : Gr) : Nat := 3 + wSum Wt.mw x.waits
def Gr.m (x : Gr) (k : Int) : Gr := ⟨mt (k), ⟨k + 1, k + 2⟩, mkAll Wt.m Wt.mw x.waits (k + 3)⟩
end Go.Proofs.Ythbhnjcnbnlidaa.Am
namespace Go.Proofs.Ythbhnjcnbnlidaa.Am
open Go
set_option maxRecDepth 100000
set_option linter.unusedSimpArgs false
set_option linter.unusedVariables false
def Tx.mw (x : Tx) : Nat := 1
def Tx.m (x : Tx) (k : Int) : Tx := mt (k)
theorem p_markStringS : Plain Try.prog 29 := ⟨_, Try.func29, rfl, by decide⟩
theorem s_markStringS (xs : List Tx) (k : Int) (hk : 0 ≤ k) (hb : k + (wSum Tx.mw xs : Nat) < 10000000000000000) (hx : xs.length < 10000000000000000) : SpecO Try.prog 29 [.refw 9000, I k] [(9000, .rows 1 (xs.map Tx.row))]
    (fun r h => r = I (k + (wSum Tx.mw xs : Nat)) ∧ h = [(9000, .rows 1 ((mkAll Tx.m Tx.mw xs k).map Tx.row))]) := by
  refine SpecO.of tysOk mixed Try.func29 rfl (by decide) ?_
  have hl : ((mkAll Tx.m Tx.mw xs k).map Tx.row).length = (xs.map Tx.row).length := by rw [List.length_map, List.length_map, mkAll_len]
  simp -implicitDefEqProofs only [go_sem, Try.f29]
  refine LoopW.slotsL (α := Nat) (fun i => [(5, I i), (1, I (k + (wSum Tx.mw (xs.take i) : Nat)))]) (fun i => [(9000, .rows 1 (mixR ((mkAll Tx.m Tx.mw xs k).map Tx.row) (xs.map Tx.row) i))]) (fun i => xs.length - i) (fun i => i ≤ xs.length) 0 ?_ ?_ (by omega) ?_
  · simp -implicitDefEqProofs only [go_sem, LeTs_undef, LeTs_same, LeTs_nil]
    simp [LeTs, wSum]
  · simp -implicitDefEqProofs only [go_sem, mix_0]
  intro i hi
  have hw := wSum_le Tx.mw xs i
  have hml : (mixR ((mkAll Tx.m Tx.mw xs k).map Tx.row) (xs.map Tx.row) i).length = xs.length := by rw [mix_len hl (by simpa using hi), List.length_map]
  simp -implicitDefEqProofs only [go_sem, hml]
  refine BrA_i (fun h => ?_) (fun h => ?_) <;> simp -implicitDefEqProofs only [go_sem]
  · have h : i < xs.length := by simp at h; omega
    have hw1 := wSum_take Tx.mw xs h
    have hw2 := wSum_le Tx.mw xs (i + 1)
    obtain ⟨K, hK⟩ : ∃ K : Int, K = k + (wSum Tx.mw (xs.take i) : Nat) := ⟨_, rfl⟩
    have hK1 : k + (wSum Tx.mw (xs.take (i + 1)) : Nat) = K + (Tx.mw xs[i] : Nat) := by rw [hw1, hK]; omega
    rw [← hK]
    have hmw : Tx.mw xs[i] = 1 := rfl
    have h0i : (0 : Int) ≤ i := by omega
    have h1i : (i : Int) < xs.length := by omega
    have hg : (mixR ((mkAll Tx.m Tx.mw xs k).map Tx.row) (xs.map Tx.row) i).getD i [] = [.str xs[i]] := by rw [mix_getD hl (by simpa using h), row_getD _ _ h]; rfl
    have hn : ((mkAll Tx.m Tx.mw xs k).map Tx.row).getD i [] = [.str (mt (K))] := by rw [mkAll_getD _ _ _ _ _ h, ← hK]; rfl
    have hst := mix_set hl (i := i) (by simpa using h)
    rw [hn] at hst
    have hsg : ∀ r, ((mixR ((mkAll Tx.m Tx.mw xs k).map Tx.row) (xs.map Tx.row) i).set i r).getD i [] = r := fun r => set_getD (by omega) r
    have wi : IntKind.i64.wrap ((i : Int) + 1) = ((i + 1 : Nat) : Int) := by rw [wrap64 (by omega) (by omega)]; omega
    have w0 : IntKind.i64.wrap (K + 1) = K + 1 := by rw [wrap64 (by omega) (by omega)]
    simp -implicitDefEqProofs only [go_sem, hml, h0i, h1i, h, hg, hsg, wi, w0]
    refine .one (s_markText _ (by omega)) p_markText rfl trivial ?_
    simp -implicitDefEqProofs only [go_sem, hml, h0i, h1i, h, hg, hsg, wi, w0]
    refine .to [] (i + 1) rfl ?_ ?_ (by omega) (by omega)
    · simp -implicitDefEqProofs only [go_sem, LeTs_undef, LeTs_same, LeTs_nil, hK1, hmw]
      try simp [LeTs]
      try omega
    · try simp -implicitDefEqProofs only [go_sem, hst]
  · have h : i = xs.length := by simp at h; omega
    subst h
    have hm : mixR ((mkAll Tx.m Tx.mw xs k).map Tx.row) (xs.map Tx.row) xs.length = ((mkAll Tx.m Tx.mw xs k).map Tx.row) := by
      have := mix_all hl; rwa [List.length_map] at this
    simp -implicitDefEqProofs only [go_sem, hm, List.take_length, mkAll_len]
theorem p_heldStringS : Plain Try.prog 30 := ⟨_, Try.func30, rfl, by decide⟩
theorem s_heldStringS (xs : List Tx) (k : Int) (hk : 0 ≤ k) (hb : k + (wSum Tx.mw xs : Nat) < 10000000000000000) (hx : xs.length < 10000000000000000) : Spec Try.prog 30 [.t (.list false 1 ((mkAll Tx.m Tx.mw xs k).map Tx.row)), I k]
    (fun r => r = I (k + (wSum Tx.mw xs : Nat))) := by
  refine Spec.of tysOk mixed Try.func30 rfl (by decide) ?_
  simp -implicitDefEqProofs only [go_sem, Try.f30, mkAll_len]
  refine LoopW.slotsL (α := Nat) (fun i => [(5, I i), (1, I (k + (wSum Tx.mw (xs.take i) : Nat)))]) (fun i => []) (fun i => xs.length - i) (fun i => i ≤ xs.length) 0 ?_ rfl (by omega) ?_
  · simp -implicitDefEqProofs only [go_sem, LeTs_undef, LeTs_same, LeTs_nil]
    simp [LeTs, wSum]
  intro i hi
  have hw := wSum_le Tx.mw xs i
  simp -implicitDefEqProofs only [go_sem, mkAll_len]
  refine BrA_i (fun h => ?_) (fun h => ?_) <;> simp -implicitDefEqProofs only [go_sem]
  · have h : i < xs.length := by simp at h; omega
    have hw1 := wSum_take Tx.mw xs h
    have hw2 := wSum_le Tx.mw xs (i + 1)
    obtain ⟨K, hK⟩ : ∃ K : Int, K = k + (wSum Tx.mw (xs.take i) : Nat) := ⟨_, rfl⟩
    have hK1 : k + (wSum Tx.mw (xs.take (i + 1)) : Nat) = K + (Tx.mw xs[i] : Nat) := by rw [hw1, hK]; omega
    rw [← hK]
    have hmw : Tx.mw xs[i] = 1 := rfl
    have h0i : (0 : Int) ≤ i := by omega
    have h1i : (i : Int) < xs.length := by omega
    have hn : ((mkAll Tx.m Tx.mw xs k).map Tx.row).getD i [] = [.str (mt (K))] := by rw [mkAll_getD _ _ _ _ _ h, ← hK]; rfl
    have wi : IntKind.i64.wrap ((i : Int) + 1) = ((i + 1 : Nat) : Int) := by rw [wrap64 (by omega) (by omega)]; omega
    have w0 : IntKind.i64.wrap (K + 1) = K + 1 := by rw [wrap64 (by omega) (by omega)]
    simp -implicitDefEqProofs only [go_sem, mkAll_len, h0i, h1i, h, hn, wi, eq_self, decide_true, beq_self_eq_true, Bool.not_true, w0]
    (first | refine RegD_of sch_30_4 tysOk (by decide +kernel) ?_)
    simp -implicitDefEqProofs only [go_sem, mkAll_len, h0i, h1i, h, hn, wi, eq_self, decide_true, beq_self_eq_true, Bool.not_true, w0]
    refine .one (s_markText _ (by omega)) p_markText rfl trivial ?_
    simp -implicitDefEqProofs only [go_sem, mkAll_len, h0i, h1i, h, hn, wi, eq_self, decide_true, beq_self_eq_true, Bool.not_true, w0]
    refine .to [] (i + 1) rfl ?_ rfl (by omega) (by omega)
    · simp -implicitDefEqProofs only [go_sem, LeTs_undef, LeTs_same, LeTs_nil, hK1, hmw]
      try simp [LeTs]
      try omega
  · have h : i = xs.length := by simp at h; omega
    subst h
    simp -implicitDefEqProofs only [go_sem, List.take_length, mkAll_len]
def Or.mw (x : Or) : Nat := wSum Tx.mw x
def Or.m (x : Or) (k : Int) : Or := mkAll Tx.m Tx.mw x (k)
def Sc.mw (x : Sc) : Nat := 2
def Sc.m (x : Sc) (k : Int) : Sc := ⟨mt (k), k + 1⟩
theorem p_markScoreS : Plain Try.prog 18 := ⟨_, Try.func18, rfl, by decide⟩
theorem s_markScoreS (xs : List Sc) (k : Int) (hk : 0 ≤ k) (hb : k + (wSum Sc.mw xs : Nat) < 10000000000000000) (hx : xs.length < 10000000000000000) : SpecO Try.prog 18 [.refw 9000, I k] [(9000, .rows 2 (xs.map Sc.row))]
    (fun r h => r = I (k + (wSum Sc.mw xs : Nat)) ∧ h = [(9000, .rows 2 ((mkAll Sc.m Sc.mw xs k).map Sc.row))]) := by
  refine SpecO.of tysOk mixed Try.func18 rfl (by decide) ?_
  have hl : ((mkAll Sc.m Sc.mw xs k).map Sc.row).length = (xs.map Sc.row).length := by rw [List.length_map, List.length_map, mkAll_len]
  simp -implicitDefEqProofs only [go_sem, Try.f18]
  refine LoopW.slotsL (α := Nat) (fun i => [(5, I i), (1, I (k + (wSum Sc.mw (xs.take i) : Nat)))]) (fun i => [(9000, .rows 2 (mixR ((mkAll Sc.m Sc.mw xs k).map Sc.row) (xs.map Sc.row) i))]) (fun i => xs.length - i) (fun i => i ≤ xs.length) 0 ?_ ?_ (by omega) ?_
  · simp -implicitDefEqProofs only [go_sem, LeTs_undef, LeTs_same, LeTs_nil]
    simp [LeTs, wSum]
  · simp -implicitDefEqProofs only [go_sem, mix_0]
  intro i hi
  have hw := wSum_le Sc.mw xs i
  have hml : (mixR ((mkAll Sc.m Sc.mw xs k).map Sc.row) (xs.map Sc.row) i).length = xs.length := by rw [mix_len hl (by simpa using hi), List.length_map]
  simp -implicitDefEqProofs only [go_sem, hml]
  refine BrA_i (fun h => ?_) (fun h => ?_) <;> simp -implicitDefEqProofs only [go_sem]
  · have h : i < xs.length := by simp at h; omega
    have hw1 := wSum_take Sc.mw xs h
    have hw2 := wSum_le Sc.mw xs (i + 1)
    obtain ⟨K, hK⟩ : ∃ K : Int, K = k + (wSum Sc.mw (xs.take i) : Nat) := ⟨_, rfl⟩
    have hK1 : k + (wSum Sc.mw (xs.take (i + 1)) : Nat) = K + (Sc.mw xs[i] : Nat) := by rw [hw1, hK]; omega
    rw [← hK]
    have hmw : Sc.mw xs[i] = 2 := rfl
    have h0i : (0 : Int) ≤ i := by omega
    have h1i : (i : Int) < xs.length := by omega
    have hg : (mixR ((mkAll Sc.m Sc.mw xs k).map Sc.row) (xs.map Sc.row) i).getD i [] = [.str xs[i].text, .int .i64 xs[i].num] := by rw [mix_getD hl (by simpa using h), row_getD _ _ h]; rfl
    have hn : ((mkAll Sc.m Sc.mw xs k).map Sc.row).getD i [] = [.str (mt (K)), .int .i64 (K + 1)] := by rw [mkAll_getD _ _ _ _ _ h, ← hK]; rfl
    have hst := mix_set hl (i := i) (by simpa using h)
    rw [hn] at hst
    have hsg : ∀ r, ((mixR ((mkAll Sc.m Sc.mw xs k).map Sc.row) (xs.map Sc.row) i).set i r).getD i [] = r := fun r => set_getD (by omega) r
    have wi : IntKind.i64.wrap ((i : Int) + 1) = ((i + 1 : Nat) : Int) := by rw [wrap64 (by omega) (by omega)]; omega
    have w0 : IntKind.i64.wrap (K + 1) = K + 1 := by rw [wrap64 (by omega) (by omega)]
    have w1 : IntKind.i64.wrap (K + 1 + 1) = K + 2 := by rw [wrap64 (by omega) (by omega)]; omega
    simp -implicitDefEqProofs only [go_sem, hml, h0i, h1i, h, hg, hsg, wi, w0, w1]
    refine .one (s_markText _ (by omega)) p_markText rfl trivial ?_
    simp -implicitDefEqProofs only [go_sem, hml, h0i, h1i, h, hg, hsg, wi, w0, w1]
    refine .to [] (i + 1) rfl ?_ ?_ (by omega) (by omega)
    · simp -implicitDefEqProofs only [go_sem, LeTs_undef, LeTs_same, LeTs_nil, hK1, hmw]
      try simp [LeTs]
      try omega
    · try simp -implicitDefEqProofs only [go_sem, hst]
  · have h : i = xs.length := by simp at h; omega
    subst h
    have hm : mixR ((mkAll Sc.m Sc.mw xs k).map Sc.row) (xs.map Sc.row) xs.length = ((mkAll Sc.m Sc.mw xs k).map Sc.row) := by
      have := mix_all hl; rwa [List.length_map] at this
    simp -implicitDefEqProofs only [go_sem, hm, List.take_length, mkAll_len]
def En.mw (x : En) : Nat := 4 + wSum Tx.mw x.list + wSum Sc.mw x.scores + wSum Pr.mw x.fields
def En.m (x : En) (k : Int) : En := ⟨mt (k), k + 1, k + 2, mt (k + 3), mkAll Tx.m Tx.mw x.list (k + 4), mkAll Sc.m Sc.mw x.scores (k + 4 + (wSum Tx.mw x.list : Nat)), mkAll Pr.m Pr.mw x.fields (k + 4 + (wSum Tx.mw x.list : Nat) + (wSum Sc.mw x.scores : Nat))⟩
theorem p_markEntryS : Plain Try.prog 57 := ⟨_, Try.func57, rfl, by decide⟩
theorem s_markEntryS (xs : List En) (k : Int) (hk : 0 ≤ k) (hb : k + (wSum En.mw xs : Nat) < 10000000000000000) (hx : xs.length < 10000000000000000) : SpecO Try.prog 57 [.refw 9000, I k] [(9000, .rows 7 (xs.map En.rowO))]
    (fun r h => r = I (k + (wSum En.mw xs : Nat)) ∧ h = [(9000, .rows 7 ((mkAll En.m En.mw xs k).map En.rowO))]) := by
  refine SpecO.of tysOk mixed Try.func57 rfl (by decide) ?_
  have hl : ((mkAll En.m En.mw xs k).map En.rowO).length = (xs.map En.rowO).length := by rw [List.length_map, List.length_map, mkAll_len]
  simp -implicitDefEqProofs only [go_sem, Try.f57]
  refine LoopW.slotsL (α := Nat) (fun i => [(5, I i), (1, I (k + (wSum En.mw (xs.take i) : Nat)))]) (fun i => [(9000, .rows 7 (mixR ((mkAll En.m En.mw xs k).map En.rowO) (xs.map En.rowO) i))]) (fun i => xs.length - i) (fun i => i ≤ xs.length) 0 ?_ ?_ (by omega) ?_
  · simp -implicitDefEqProofs only [go_sem, LeTs_undef, LeTs_same, LeTs_nil]
    simp [LeTs, wSum]
  · simp -implicitDefEqProofs only [go_sem, mix_0]
  intro i hi
  have hw := wSum_le En.mw xs i
  have hml : (mixR ((mkAll En.m En.mw xs k).map En.rowO) (xs.map En.rowO) i).length = xs.length := by rw [mix_len hl (by simpa using hi), List.length_map]
  simp -implicitDefEqProofs only [go_sem, hml]
  refine BrA_i (fun h => ?_) (fun h => ?_) <;> simp -implicitDefEqProofs only [go_sem]
  · have h : i < xs.length := by simp at h; omega
    have hw1 := wSum_take En.mw xs h
    have hw2 := wSum_le En.mw xs (i + 1)
    obtain ⟨K, hK⟩ : ∃ K : Int, K = k + (wSum En.mw (xs.take i) : Nat) := ⟨_, rfl⟩
    have hK1 : k + (wSum En.mw (xs.take (i + 1)) : Nat) = K + (En.mw xs[i] : Nat) := by rw [hw1, hK]; omega
    rw [← hK]
    have hmw : En.mw xs[i] = 4 + wSum Tx.mw xs[i].list + wSum Sc.mw xs[i].scores + wSum Pr.mw xs[i].fields := rfl
    have h0i : (0 : Int) ≤ i := by omega
    have h1i : (i : Int) < xs.length := by omega
    have hg : (mixR ((mkAll En.m En.mw xs k).map En.rowO) (xs.map En.rowO) i).getD i [] = [.str xs[i].key, .int .i64 xs[i].till, .int .i64 xs[i].kind, .str xs[i].text, .list true 1 (xs[i].list.map Tx.row), .list true 2 (xs[i].scores.map Sc.row), .list true 2 (xs[i].fields.map Pr.row)] := by rw [mix_getD hl (by simpa using h), row_getD _ _ h]; rfl
    have hn : ((mkAll En.m En.mw xs k).map En.rowO).getD i [] = [.str (mt (K)), .int .i64 (K + 1), .int .i64 (K + 2), .str (mt (K + 3)), .list true 1 ((mkAll Tx.m Tx.mw xs[i].list (K + 4)).map Tx.row), .list true 2 ((mkAll Sc.m Sc.mw xs[i].scores (K + 4 + (wSum Tx.mw xs[i].list : Nat))).map Sc.row), .list true 2 ((mkAll Pr.m Pr.mw xs[i].fields (K + 4 + (wSum Tx.mw xs[i].list : Nat) + (wSum Sc.mw xs[i].scores : Nat))).map Pr.row)] := by rw [mkAll_getD _ _ _ _ _ h, ← hK]; rfl
    have hst := mix_set hl (i := i) (by simpa using h)
    rw [hn] at hst
    have hsg : ∀ r, ((mixR ((mkAll En.m En.mw xs k).map En.rowO) (xs.map En.rowO) i).set i r).getD i [] = r := fun r => set_getD (by omega) r
    have wi : IntKind.i64.wrap ((i : Int) + 1) = ((i + 1 : Nat) : Int) := by rw [wrap64 (by omega) (by omega)]; omega
    have w0 : IntKind.i64.wrap (K + 1) = K + 1 := by rw [wrap64 (by omega) (by omega)]
    have w1 : IntKind.i64.wrap (K + 1 + 1) = K + 2 := by rw [wrap64 (by omega) (by omega)]; omega
    have w2 : IntKind.i64.wrap (K + 2 + 1) = K + 3 := by rw [wrap64 (by omega) (by omega)]; omega
    have w3 : IntKind.i64.wrap (K + 3 + 1) = K + 4 := by rw [wrap64 (by omega) (by omega)]; omega
    have z4 : wSum Tx.mw xs[i].list ≤ En.mw xs[i] := by rw [hmw]; omega
    have z5 : wSum Sc.mw xs[i].scores ≤ En.mw xs[i] := by rw [hmw]; omega
    have z6 : wSum Pr.mw xs[i].fields ≤ En.mw xs[i] := by rw [hmw]; omega
    simp -implicitDefEqProofs only [go_sem, hml, h0i, h1i, h, hg, hsg, wi, w0, w1, w2, w3]
    refine .one (s_markText _ (by omega)) p_markText rfl trivial ?_
    simp -implicitDefEqProofs only [go_sem, hml, h0i, h1i, h, hg, hsg, wi, w0, w1, w2, w3]
    refine .one (s_markText _ (by omega)) p_markText rfl trivial ?_
    simp -implicitDefEqProofs only [go_sem, hml, h0i, h1i, h, hg, hsg, wi, w0, w1, w2, w3]
    refine CallW.n [(9000, 384)] [] [I (K + 4)] 384 rfl (by conv => lhs; simp -implicitDefEqProofs only [go_sem, hml, h0i, h1i, h, hg, hsg, wi, w0, w1, w2, w3]) (s_markStringS xs[i].list (K + 4) (by omega) (by omega) (by have := wSum_len (w := Tx.mw) (fun _ => by unfold Tx.mw; omega) xs[i].list; omega)) p_markStringS o29 rfl rfl (by conv => lhs; simp -implicitDefEqProofs only [go_sem]) (by simp -implicitDefEqProofs only [go_sem]) ?_
    rintro _ _ ⟨rfl, rfl⟩
    simp -implicitDefEqProofs only [go_sem, hml, h0i, h1i, h, hg, hsg, wi, w0, w1, w2, w3]
    refine CallW.n [(9000, 440)] [] [I (K + 4 + (wSum Tx.mw xs[i].list : Nat))] 440 rfl (by conv => lhs; simp -implicitDefEqProofs only [go_sem, hml, h0i, h1i, h, hg, hsg, wi, w0, w1, w2, w3]) (s_markScoreS xs[i].scores (K + 4 + (wSum Tx.mw xs[i].list : Nat)) (by omega) (by omega) (by have := wSum_len (w := Sc.mw) (fun _ => by unfold Sc.mw; omega) xs[i].scores; omega)) p_markScoreS o18 rfl rfl (by conv => lhs; simp -implicitDefEqProofs only [go_sem]) (by simp -implicitDefEqProofs only [go_sem]) ?_
    rintro _ _ ⟨rfl, rfl⟩
    simp -implicitDefEqProofs only [go_sem, hml, h0i, h1i, h, hg, hsg, wi, w0, w1, w2, w3]
    refine CallW.n [(9000, 496)] [] [I (K + 4 + (wSum Tx.mw xs[i].list : Nat) + (wSum Sc.mw xs[i].scores : Nat))] 496 rfl (by conv => lhs; simp -implicitDefEqProofs only [go_sem, hml, h0i, h1i, h, hg, hsg, wi, w0, w1, w2, w3]) (s_markPairS xs[i].fields (K + 4 + (wSum Tx.mw xs[i].list : Nat) + (wSum Sc.mw xs[i].scores : Nat)) (by omega) (by omega) (by have := wSum_len (w := Pr.mw) (fun _ => by unfold Pr.mw; omega) xs[i].fields; omega)) p_markPairS o78 rfl rfl (by conv => lhs; simp -implicitDefEqProofs only [go_sem]) (by simp -implicitDefEqProofs only [go_sem]) ?_
    rintro _ _ ⟨rfl, rfl⟩
    simp -implicitDefEqProofs only [go_sem, hml, h0i, h1i, h, hg, hsg, wi, w0, w1, w2, w3]
    refine .to [] (i + 1) rfl ?_ ?_ (by omega) (by omega)
    · simp -implicitDefEqProofs only [go_sem, LeTs_undef, LeTs_same, LeTs_nil, hK1, hmw]
      try simp [LeTs]
      try omega
    · try simp -implicitDefEqProofs only [go_sem, hst]
  · have h : i = xs.length := by simp at h; omega
    subst h
    have hm : mixR ((mkAll En.m En.mw xs k).map En.rowO) (xs.map En.rowO) xs.length = ((mkAll En.m En.mw xs k).map En.rowO) := by
      have := mix_all hl; rwa [List.length_map] at this
    simp -implicitDefEqProofs only [go_sem, hm, List.take_length, mkAll_len]
def Cl.mw (x : Cl) : Nat := 3 + wSum Or.mw x.queue + wSum Tx.mw x.watch + wSum Tx.mw x.hears
def Cl.m (x : Cl) (k : Int) : Cl := ⟨decide ((k).tmod 3 = 0), decide ((k + 1).tmod 3 = 0), mkAll Or.m Or.mw x.queue (k + 2), mkAll Tx.m Tx.mw x.watch (k + 2 + (wSum Or.mw x.queue : Nat)), decide ((k + 2 + (wSum Or.mw x.queue : Nat) + (wSum Tx.mw x.watch : Nat)).tmod 3 = 0), mkAll Tx.m Tx.mw x.hears (k + 3 + (wSum Or.mw x.queue : Nat) + (wSum Tx.mw x.watch : Nat))⟩
def Bs.mw (x : Bs) : Nat := wSum En.mw x.ents
def Bs.m (x : Bs) (k : Int) : Bs := ⟨x.now, mkAll En.m En.mw x.ents (k)⟩
theorem Bs.m_len (x : Bs) (k : Int) : (Bs.m x k).ents.length = x.ents.length := by simp only [Bs.m, mkAll_len, and_self]
theorem p_markBase : Plain Try.prog 28 := ⟨_, Try.func28, rfl, by decide⟩
theorem s_markBase (x : Bs) (k : Int) (hk : 0 ≤ k) (hb : k + (Bs.mw x : Nat) < 10000000000000000) : SpecO Try.prog 28 [.agg [I x.now, .refw 9000], I k] [(9000, .rows 7 (x.ents.map En.rowO))]
    (fun r h => r = I (k + (Bs.mw x : Nat)) ∧ h = [(9000, .rows 7 ((Bs.m x k).ents.map En.rowO))]) := by
  have hk1 : Bs.mw x = wSum En.mw x.ents := rfl
  have l0 := wSum_len (w := En.mw) (fun _ => by unfold En.mw; omega) x.ents
  have hl := Bs.m_len x k
  refine SpecO.of tysOk mixed Try.func28 rfl (by decide) ?_
  simp -implicitDefEqProofs only [go_sem, Try.f28]
  refine CallW.o [(9000, 9000)] (s_markEntryS x.ents (k) (by omega) (by omega) (by omega)) p_markEntryS o57 rfl (by conv => lhs; simp -implicitDefEqProofs only [go_sem]) (by simp -implicitDefEqProofs only [go_sem]) ?_
  rintro _ _ ⟨rfl, rfl⟩
  simp -implicitDefEqProofs only [go_sem]
  try simp -implicitDefEqProofs only [go_sem, mkAll_len]
  first
    | rfl
    | exact ⟨trivial, trivial⟩
    | exact ⟨congrArg (fun z => AV.t (T.int .i64 z)) (by omega), trivial⟩
    | exact ⟨congrArg (fun z => AV.t (T.int .i64 z)) (by omega), rfl⟩
    | ((repeat' (with_reducible refine And.intro ?_ ?_)) <;> first | trivial | rfl | exact congrArg (fun z => AV.t (T.int .i64 z)) (by omega) | exact Eq.symm (by simp only [Sv.m, Bs.m, mkAll_len]))
def Sv.mw (x : Sv) : Nat := Bs.mw x.base + wSum Cl.mw x.cls
def Sv.m (x : Sv) (k : Int) : Sv := ⟨Bs.m x.base (k), x.file, mkAll Cl.m Cl.mw x.cls (k + (Bs.mw x.base : Nat))⟩
theorem Sv.m_len (x : Sv) (k : Int) : (Sv.m x k).base.ents.length = x.base.ents.length ∧ (Sv.m x k).cls.length = x.cls.length := by simp only [Sv.m, Bs.m, mkAll_len, and_self]
def Ld.mw (x : Ld) : Nat := Sv.mw x.srv
def Ld.m (x : Ld) (k : Int) : Ld := ⟨Sv.m x.srv (k), x.hist⟩
theorem Ld.m_len (x : Ld) (k : Int) : (Ld.m x k).srv.base.ents.length = x.srv.base.ents.length ∧ (Ld.m x k).srv.cls.length = x.srv.cls.length := by simp only [Ld.m, Sv.m, Bs.m, mkAll_len, and_self]
def Fo.mw (x : Fo) : Nat := Bs.mw x.base
def Fo.m (x : Fo) (k : Int) : Fo := ⟨x.hist, x.text, Bs.m x.base (k)⟩
theorem Fo.m_len (x : Fo) (k : Int) : (Fo.m x k).base.ents.length = x.base.ents.length := by simp only [Fo.m, Bs.m, mkAll_len, and_self]
end Go.Proofs.Ythbhnjcnbnlidaa.Am
namespace Go.Proofs.Ythbhnjcnbnlidaa.Am
open Go
set_option maxRecDepth 100000
set_option maxHeartbeats 1000000
set_option linter.unusedSimpArgs false
set_option linter.unusedVariables false
theorem En.md_w {e : En} (h : e.w ≤ 1048576) : e.md := by
  simp only [En.w, wAll] at h
  exact ⟨by omega, by omega, by omega⟩
theorem Bs.md_w {b : Bs} (h : b.w ≤ 1048576) : b.md := by
  simp only [Bs.w, wAll] at h
  refine ⟨by omega, fun e he => En.md_w ?_⟩
  have := wSum_mem En.w he
  omega
theorem Bs.md.sm {b : Bs} (h : b.md) : b.sm := ⟨by have := h.1; omega, fun e he => by
  obtain ⟨h1, h2, h3⟩ := h.2 e he
  exact ⟨by omega, by omega, by omega⟩⟩
theorem Bs.md.lim {b : Bs} (h : b.md) : b.lim := ⟨by have := h.1; omega, fun e he => by
  obtain ⟨h1, h2, h3⟩ := h.2 e he
  exact ⟨by omega, by omega, by omega⟩⟩
theorem wSum_le_mul {α : Type} (f : α → Nat) (c : Nat) : ∀ l : List α, (∀ x ∈ l, f x ≤ c) → wSum f l ≤ c * l.length
  | [], _ => by simp [wSum]
  | x :: l, h => by
    have h1 := wSum_le_mul f c l fun y hy => h y (by simp [hy])
    have h2 := h x (by simp)
    rw [wSum_cons, List.length_cons, Nat.mul_add]; omega
theorem En.mw_md {e : En} (h : e.md) : e.mw ≤ 5242884 := by
  obtain ⟨h1, h2, h3⟩ := h
  have a1 : wSum Tx.mw e.list = 1 * e.list.length := wSum_const 1 _
  have a2 : wSum Sc.mw e.scores = 2 * e.scores.length := wSum_const 2 _
  have a3 : wSum Pr.mw e.fields = 2 * e.fields.length := wSum_const 2 _
  simp only [En.mw]; omega
theorem Bs.mw_md {b : Bs} (h : b.md) : b.mw ≤ 5497562333184 := by
  have := wSum_le_mul En.mw 5242884 b.ents fun e he => En.mw_md (h.2 e he)
  have h1 := h.1
  simp only [Bs.mw]
  have : 5242884 * b.ents.length ≤ 5242884 * 1048576 := Nat.mul_le_mul_left _ h1
  omega
theorem deep_rowsX {α : Type} (row : α → List T) (h : ∀ x, ∀ t ∈ row x, Deep t) (n : Nat) (l : List α) : Deep (.list true n (l.map row)) :=
  .list _ _ fun r hr x hx => by
    obtain ⟨y, _, rfl⟩ := List.mem_map.1 hr
    exact h y x hx
theorem deep_txs (l : List Tx) : Deep (.list true 1 (l.map Tx.row)) := deep_rowsX _ (fun x t ht => by simp only [Tx.row, List.mem_cons, List.not_mem_nil, or_false] at ht; subst ht; exact .sc _ trivial) _ _
theorem deep_scanR (x : List Tx × ByteArray) : DeepR (scanR x) := ⟨deep_txs _, trivial, trivial⟩
theorem scanM_len (b : Bs) (behind pattern : ByteArray) (count : Int) : (scanM b behind pattern count).1.length ≤ 12 := by
  unfold scanM
  split
  · rename_i h
    have h1 := List.length_filter_le (matchM pattern) ((keysM b.ents behind).take count.toNat)
    have h2 := keysM_len b.ents behind
    have h3 := baseOkM_len h.1
    simp only [List.length_take] at h1
    show (((keysM b.ents behind).take count.toNat).filter (matchM pattern)).length ≤ 12
    omega
  · simp
theorem s_FnExactScan (b : Bs) (behind pattern : ByteArray) (count : Int) (hg : b.G) (hb : (Lit.int .i64 count).wf = true) : Spec Try.prog 6 [b.av, .t (.str behind), .t (.str pattern), I count] (fun r => r = Bo true) := by
  have hc : count < 9223372036854775808 := by
    simp only [Lit.wf, Bool.and_eq_true, decide_eq_true_eq] at hb
    have : count ≤ 9223372036854775807 := hb.2
    omega
  refine Spec.of tysOk mixed Try.func6 rfl (by decide) ?_
  simp -implicitDefEqProofs only [go_sem, Try.f6]
  refine BrA_i (fun h1 => ?_) (fun h1 => ?_) <;> simp -implicitDefEqProofs only [go_sem]
  refine BrA_i (fun h1 => ?_) (fun h1 => ?_) <;> simp -implicitDefEqProofs only [go_sem]
  refine CallW.one (s_szBase b 1048576 (by omega) (by omega) hg) p_szBase (by first | (simp -implicitDefEqProofs only [go_sem]; done) | ((conv => lhs; simp -implicitDefEqProofs only [go_sem]); done) | (simp -implicitDefEqProofs only [go_sem]; rfl) | rfl) (by first | trivial | (simp [DeepR, DeepV, DeepVs, DeepC, DeepCs, T.scal]; done)) ?_
  simp -implicitDefEqProofs only [go_sem]
  refine BrA_i (fun h1 => ?_) (fun h1 => ?_) <;> simp -implicitDefEqProofs only [go_sem]
  have h1 : b.w ≤ 1048576 := by
    have : ¬ (1048576 : Int) < b.w := fun hh => by simp [(cutM_lt _ _).2 hh] at h1
    omega
  have hm := Bs.md_w h1
  have hs := hm.sm
  have hl := hm.lim
  have hw := Bs.mw_md hm
  obtain ⟨M, hM⟩ : ∃ M, M = scanM b behind pattern count := ⟨_, rfl⟩
  have hML := scanM_len b behind pattern count
  have mo : wSum Tx.mw (scanM b behind pattern count).1 = 1 * _ := wSum_const 1 _
  have n1 : ¬ (1 + (b.mw : Nat) : Int) < 0 := by omega
  have n2 : ¬ (1 + (wSum Tx.mw (scanM b behind pattern count).1 : Nat) : Int) < 0 := by omega
  refine CallW.onep (s_toBase b hm) p_toBase (by first | (simp -implicitDefEqProofs only [go_sem]; done) | ((conv => lhs; simp -implicitDefEqProofs only [go_sem]); done) | (simp -implicitDefEqProofs only [go_sem]; rfl) | rfl) rfl ?_
  simp -implicitDefEqProofs only [go_sem]
  refine CallW.one (s_sScan b behind pattern count hl hc) p_sScan (by first | (simp -implicitDefEqProofs only [go_sem]; done) | ((conv => lhs; simp -implicitDefEqProofs only [go_sem]); done) | (simp -implicitDefEqProofs only [go_sem]; rfl) | rfl) (deep_scanR _) ?_
  simp -implicitDefEqProofs only [go_sem]
  refine CallW.onep (s_toBase b hm) p_toBase (by first | (simp -implicitDefEqProofs only [go_sem]; done) | ((conv => lhs; simp -implicitDefEqProofs only [go_sem]); done) | (simp -implicitDefEqProofs only [go_sem]; rfl) | rfl) rfl ?_
  simp -implicitDefEqProofs only [go_sem]
  refine CallW.one (s_Scan b behind pattern count hl hc) p_Scan (by first | (simp -implicitDefEqProofs only [go_sem]; done) | ((conv => lhs; simp -implicitDefEqProofs only [go_sem]); done) | (simp -implicitDefEqProofs only [go_sem]; rfl) | rfl) (deep_scanR _) ?_
  simp -implicitDefEqProofs only [go_sem]
  refine CallW.one (s_eqStringS (scanM b behind pattern count).1 (scanM b behind pattern count).1 (by omega)) p_eqStringS (by first | (simp -implicitDefEqProofs only [go_sem]; done) | ((conv => lhs; simp -implicitDefEqProofs only [go_sem]); done) | (simp -implicitDefEqProofs only [go_sem]; rfl) | rfl) (by first | trivial | (simp [DeepR, DeepV, DeepVs, DeepC, DeepCs, T.scal]; done)) ?_
  simp -implicitDefEqProofs only [go_sem, eq_self, decide_true, beq_self_eq_true, decide_false]
  refine RegD_to sch_6_14 ?sx14 tysOk (by kernel_rfl) ?ga14 ?gb14
  case ga14 =>
    simp -implicitDefEqProofs only [go_sem]
    repeat' (first
      | (with_reducible refine And.intro ?_ ?_)
      | (refine CallW.onep (s_toBase b hm) p_toBase (by first | (simp -implicitDefEqProofs only [go_sem]; done) | ((conv => lhs; simp -implicitDefEqProofs only [go_sem]); done) | (simp -implicitDefEqProofs only [go_sem]; rfl) | rfl) rfl ?_; simp -implicitDefEqProofs only [go_sem])
      | (refine CallW.one (s_eqBase b b hs) p_eqBase (by first | (simp -implicitDefEqProofs only [go_sem]; done) | ((conv => lhs; simp -implicitDefEqProofs only [go_sem]); done) | (simp -implicitDefEqProofs only [go_sem]; rfl) | rfl) (by first | trivial | (simp [DeepR, DeepV, DeepVs, DeepC, DeepCs, T.scal]; done)) ?_; simp -implicitDefEqProofs only [go_sem, eq_self, decide_true, beq_self_eq_true, decide_false])
      | exact rfl)
  simp -implicitDefEqProofs only [go_sem, eq_self, decide_true, beq_self_eq_true, decide_false]
  refine CallW.o [(9000, 329)] (s_markBase b 1 (by omega) (by omega)) p_markBase o28 rfl (by conv => lhs; simp -implicitDefEqProofs only [go_sem]) (by simp -implicitDefEqProofs only [go_sem]) ?_
  rintro _ _ ⟨rfl, rfl⟩
  simp -implicitDefEqProofs only [go_sem, eq_self, decide_true, beq_self_eq_true, decide_false, n1]
  refine CallW.one (s_eqStringS (scanM b behind pattern count).1 (scanM b behind pattern count).1 (by omega)) p_eqStringS (by first | (simp -implicitDefEqProofs only [go_sem]; done) | ((conv => lhs; simp -implicitDefEqProofs only [go_sem]); done) | (simp -implicitDefEqProofs only [go_sem]; rfl) | rfl) (by first | trivial | (simp [DeepR, DeepV, DeepVs, DeepC, DeepCs, T.scal]; done)) ?_
  simp -implicitDefEqProofs only [go_sem, eq_self, decide_true, beq_self_eq_true, decide_false]
  refine CallW.o [(9000, 377)] (s_markStringS (scanM b behind pattern count).1 1 (by omega) (by omega) (by omega)) p_markStringS o29 rfl (by conv => lhs; simp -implicitDefEqProofs only [go_sem]) (by simp -implicitDefEqProofs only [go_sem]) ?_
  rintro _ _ ⟨rfl, rfl⟩
  simp -implicitDefEqProofs only [go_sem, eq_self, decide_true, beq_self_eq_true, decide_false]
  refine CallW.one (s_heldStringS (scanM b behind pattern count).1 1 (by omega) (by omega) (by omega)) p_heldStringS (by first | (simp -implicitDefEqProofs only [go_sem]; done) | ((conv => lhs; simp -implicitDefEqProofs only [go_sem]); done) | (simp -implicitDefEqProofs only [go_sem]; rfl) | rfl) (by first | trivial | (simp [DeepR, DeepV, DeepVs, DeepC, DeepCs, T.scal]; done)) ?_
  simp -implicitDefEqProofs only [go_sem, eq_self, decide_true, beq_self_eq_true, decide_false, n2]
  refine CallW.onep (s_toBase b hm) p_toBase (by first | (simp -implicitDefEqProofs only [go_sem]; done) | ((conv => lhs; simp -implicitDefEqProofs only [go_sem]); done) | (simp -implicitDefEqProofs only [go_sem]; rfl) | rfl) rfl ?_
  simp -implicitDefEqProofs only [go_sem]
  refine CallW.one (s_Scan b behind pattern count hl hc) p_Scan (by first | (simp -implicitDefEqProofs only [go_sem]; done) | ((conv => lhs; simp -implicitDefEqProofs only [go_sem]); done) | (simp -implicitDefEqProofs only [go_sem]; rfl) | rfl) (deep_scanR _) ?_
  simp -implicitDefEqProofs only [go_sem]
  refine CallW.one (s_eqStringS (scanM b behind pattern count).1 (scanM b behind pattern count).1 (by omega)) p_eqStringS (by first | (simp -implicitDefEqProofs only [go_sem]; done) | ((conv => lhs; simp -implicitDefEqProofs only [go_sem]); done) | (simp -implicitDefEqProofs only [go_sem]; rfl) | rfl) (by first | trivial | (simp [DeepR, DeepV, DeepVs, DeepC, DeepCs, T.scal]; done)) ?_
  simp -implicitDefEqProofs only [go_sem, eq_self, decide_true, beq_self_eq_true, decide_false]
  refine CallW.one (s_heldStringS (scanM b behind pattern count).1 1 (by omega) (by omega) (by omega)) p_heldStringS (by first | (simp -implicitDefEqProofs only [go_sem]; done) | ((conv => lhs; simp -implicitDefEqProofs only [go_sem]); done) | (simp -implicitDefEqProofs only [go_sem]; rfl) | rfl) (by first | trivial | (simp [DeepR, DeepV, DeepVs, DeepC, DeepCs, T.scal]; done)) ?_
  simp -implicitDefEqProofs only [go_sem, eq_self, decide_true, beq_self_eq_true, decide_false, n2]
end Go.Proofs.Ythbhnjcnbnlidaa.Am
namespace Go.Proofs.Ythbhnjcnbnlidaa.Am
open Go Go.ChangeShapes Go.WideShapes Go.RowKit
def RdRow (w : World) (ts : List T) (cs : List Value) : Prop := ts.length = cs.length ∧ ∀ (j : Nat) (t : T) (v : Value), ts[j]? = some t → cs[j]? = some v → Rd w (fun b => b < w.heap.size) t v
structure Opn (P : Program) (t : TypeId) (sz : Nat) {α : Type} (row : α → List T) (G : α → Prop) : Prop where
  len : ∀ x, (row x).length = sz
  op : ∀ {H : Type} {enc : TypeId × Value → H} {W : World} {fuel : Nat} {cs : List Value} {D : DataW H} {ps : List MemPlace},
    DataW.trod enc P W 0 (fun _ => true) true fuel t cs = some (D, ps) → (∀ n ∈ DataW.weights P t D, n ≤ reachBytes) → ∃ x, RdRow W (row x) cs ∧ G x
theorem RdRow.one {w : World} {t : T} {v : Value} (h : Rd w (fun b => b < w.heap.size) t v) : RdRow w [t] [v] :=
  ⟨rfl, fun j t' v' h1 h2 => by
    cases j with
    | zero => simp at h1 h2; subst h1 h2; exact h
    | succ j => simp at h1⟩
theorem RdRow.append {w : World} {a b : List T} {c d : List Value} (h : RdRow w a c) (h' : RdRow w b d) : RdRow w (a ++ b) (c ++ d) :=
  ⟨by simp [h.1, h'.1], fun j t v h1 h2 => by
    rw [List.getElem?_append] at h1 h2
    have := h.1
    split at h1
    · rename_i hj
      rw [if_pos (by omega)] at h2
      exact h.2 j t v h1 h2
    · rename_i hj
      rw [if_neg (by omega)] at h2
      rw [this] at h1
      exact h'.2 _ t v h1 h2⟩
section
variable {P : Program} {t : TypeId}
theorem Opn.int {k : IntKind} (hu : P.underlying t = some (.int k)) : Opn P t 1 (fun x : Int => [T.int k x]) (fun x => (Lit.int k x).wf = true) where
  len := fun _ => rfl
  op := fun h _ => by
    obtain ⟨m, rfl, _, hw⟩ := DataW.trod_int hu h
    exact ⟨m, .one (.int _ _), hw⟩
theorem Opn.bool (hu : P.underlying t = some .bool) : Opn P t 1 (fun x : Bool => [T.bool x]) (fun _ => True) where
  len := fun _ => rfl
  op := fun h _ => by
    obtain ⟨m, rfl, _⟩ := DataW.trod_bool hu h
    exact ⟨m, .one (.bool _), trivial⟩
theorem Opn.string (hu : P.underlying t = some .string) : Opn P t 1 (fun x : ByteArray => [T.str x]) (fun x => x.size ≤ 140737488351232) where
  len := fun _ => rfl
  op := fun h hz => by
    obtain ⟨m, rfl, e, _⟩ := DataW.trod_string hu h
    obtain ⟨rfl, _⟩ := Prod.mk.inj e
    refine ⟨m, .one (.str _), ?_⟩
    have := hz m.data.toList.length (by simp [DataW.weights])
    simpa [reachBytes] using this
theorem Opn.slice {e : TypeId} {sz : Nat} {α : Type} {row : α → List T} {G : α → Prop} (he : Opn P e sz row G) (hu : P.underlying t = some (.slice e)) (hc : P.cellsOf e = sz) (hs : 0 < sz) {B : Nat} (hB : P.bytesOf e = B) :
    Opn P t 1 (fun xs : List α => [T.list false sz (xs.map row)]) (fun xs => xs.length * B ≤ 140737488351232 ∧ ∀ x ∈ xs, G x) where
  len := fun _ => rfl
  op := fun {H enc W fuel cs D ps} h hz => by
    rcases DataW.trod_slice hu h with ⟨rfl, _⟩ | ⟨a, len, cap, elems, rest, n, _, rfl, hx, hb, hl, hm, hlen, hel, hsp, _⟩
    · exact ⟨[], .one (.nil ..), by simp, by simp⟩
    · obtain ⟨rfl, _⟩ := Prod.mk.inj hx
      have hw0 := hz ((elems.map (·.1)).length + (rest.map (·.1)).length |>.mul (P.bytesOf e)) (by simp [DataW.weights, hu])
      have each : ∀ i, i < len → ∃ x c, RdRow W (row x) c ∧ G x ∧ c.length = sz ∧ ∀ j u, c[j]? = some u → W.cell? (a.add (i * sz + j)) = some u := by
        intro i hi
        have h1 := hel i hi
        have hil : i < elems.length := by omega
        rw [List.getElem?_eq_getElem hil] at h1
        rw [Option.bind_eq_some_iff] at h1
        obtain ⟨c, hcs, hy⟩ := h1
        have hD : ∀ m ∈ DataW.weights P e (elems[i]).1, m ≤ reachBytes := by
          intro m hmem
          refine hz m ?_
          simp only [DataW.weights, hu]
          refine List.mem_cons_of_mem _ (List.mem_append_left _ ?_)
          have : ∀ (l : List (DataW H)) (y : DataW H), y ∈ l → m ∈ DataW.weights P e y → m ∈ DataW.weightsAll P e l := by
            intro l
            induction l with
            | nil => intro y hy; cases hy
            | cons z l ih =>
              intro y hy hm2
              simp only [DataW.weightsAll, List.mem_append]
              rcases List.mem_cons.1 hy with rfl | hy
              · exact Or.inl hm2
              · exact Or.inr (ih y hy hm2)
          exact this _ _ (List.mem_map.2 ⟨elems[i], List.getElem_mem hil, rfl⟩) hmem
        obtain ⟨x, hK, hG⟩ := he.op (show DataW.trod enc P W 0 (fun _ => true) true n e c = some ((elems[i]).1, (elems[i]).2) from hy) hD
        obtain ⟨hb1, hb2, hb3⟩ := World.cells?_some hcs
        have hlen2 : c.length = sz := by rw [← hK.1, he.len]
        refine ⟨x, c, hK, hG, hlen2, fun j u hu2 => ?_⟩
        have hj := (List.getElem?_eq_some_iff.1 hu2).1
        have h3 := hb3 j (by rw [hc]; omega)
        rw [hu2] at h3
        rw [← h3, hc, Addr.add_add]
      have pick : ∀ l, l ≤ len → ∃ xs : List α, xs.length = l ∧ (∀ x ∈ xs, G x) ∧ ∀ j p, xs[j]? = some p → ∃ c, c.length = sz ∧ RdRow W (row p) c ∧ ∀ i u, c[i]? = some u → W.cell? (a.add (j * sz + i)) = some u := by
        intro l
        induction l with
        | zero => exact fun _ => ⟨[], rfl, by simp, fun j p h => by simp at h⟩
        | succ l ih =>
          intro hll
          obtain ⟨xs, h1, h2, h3⟩ := ih (by omega)
          obtain ⟨x, c, q1, q2, q3, q4⟩ := each l (by omega)
          refine ⟨xs ++ [x], by simp [h1], ?_, ?_⟩
          · intro y hy
            rcases List.mem_append.1 hy with hy | hy
            · exact h2 y hy
            · obtain rfl := List.mem_singleton.1 hy
              exact q2
          · intro j p hj
            by_cases hjl : j < xs.length
            · exact h3 j p (by rwa [List.getElem?_append_left hjl] at hj)
            · rw [List.getElem?_append_right (by omega)] at hj
              have : j - xs.length = 0 := by
                have := (List.getElem?_eq_some_iff.1 hj).1
                simpa using this
              rw [this] at hj
              have hjl2 : j = l := by omega
              subst hjl2
              obtain rfl : x = p := by simpa using hj
              exact ⟨c, q3, q1, q4⟩
      obtain ⟨xs, h1, h2, h3⟩ := pick len (Nat.le_refl _)
      subst h1
      refine ⟨xs, .one ?_, ?_, h2⟩
      · obtain ⟨ab, ao, asp⟩ := a
        have at0 : ∀ (j : Nat) (p : α), xs[j]? = some p → ∀ i, i < sz → ∃ u, W.cell? ⟨ab, ao + (j * sz + i), none⟩ = some u ∧ ∀ x, (row p)[i]? = some x → Rd W (fun b => b < W.heap.size) x u := by
          intro j p hj i hi
          obtain ⟨c, c1, c2, c3⟩ := h3 j p hj
          obtain ⟨u, hu2⟩ : ∃ u, c[i]? = some u := ⟨c[i]'(by omega), List.getElem?_eq_getElem _⟩
          have h4 := c3 i u hu2
          refine ⟨u, ?_, fun x hx => c2.2 i x u hx hu2⟩
          by_cases h0 : j * sz + i = 0
          · rw [h0] at h4 ⊢
            have : asp = none := by
              unfold World.cell? at h4
              simp only [Addr.add] at h4
              cases asp with
              | none => rfl
              | some q => simp at h4; split at h4 <;> simp at h4
            subst this
            exact h4
          · unfold Addr.add at h4
            rw [if_neg h0] at h4
            exact h4
        cases xs with
        | nil => exact .nil ..
        | cons x0 xs0 =>
          obtain ⟨u0, hu0, _⟩ := at0 0 x0 rfl 0 hs
          have hab : ab < W.heap.size := by
            unfold World.cell? at hu0
            simp only at hu0
            split at hu0
            · rename_i hh
              exact (Array.getElem?_eq_some_iff.1 hh).1
            · cases hu0
          have e1 : asp = none := by
            obtain ⟨c, c1, c2, c3⟩ := h3 0 x0 rfl
            have h4 := c3 0 (c[0]'(by omega)) (List.getElem?_eq_getElem _)
            simp only [Nat.zero_mul, Nat.add_zero, Addr.add, if_pos] at h4
            unfold World.cell? at h4
            cases asp with
            | none => rfl
            | some q => simp at h4; split at h4 <;> simp at h4
          subst e1
          have hrow : ∀ (i : Nat) (r : List T), ((x0 :: xs0).map row)[i]? = some r → ∃ p, (x0 :: xs0)[i]? = some p ∧ r = row p := by
            intro i r hr
            rw [List.getElem?_map] at hr
            cases hp : (x0 :: xs0)[i]? with
            | none => rw [hp] at hr; cases hr
            | some p => rw [hp] at hr; cases hr; exact ⟨p, rfl, rfl⟩
          have hfin := @Rd.list W (fun b => b < W.heap.size) false sz ((x0 :: xs0).map row) ab ao cap (fun i j => (W.cell? ⟨ab, ao + (i * sz + j), none⟩).getD Go.undef) (by simpa using hl) hab
            (fun i r hr => by obtain ⟨p, _, rfl⟩ := hrow i r hr; exact he.len p)
            (fun i r j x hr hx => by
              obtain ⟨p, hp, rfl⟩ := hrow i r hr
              obtain ⟨u, hu1, _⟩ := at0 i p hp j (by have := (List.getElem?_eq_some_iff.1 hx).1; rw [he.len] at this; exact this)
              simp only [hu1, Option.getD_some])
            (fun i r j x hr hx => by
              obtain ⟨p, hp, rfl⟩ := hrow i r hr
              obtain ⟨u, hu1, hu2⟩ := at0 i p hp j (by have := (List.getElem?_eq_some_iff.1 hx).1; rw [he.len] at this; exact this)
              simp only [hu1, Option.getD_some]
              exact hu2 x hx)
          rwa [List.length_map] at hfin
      have hw1 : (elems.length + rest.length) * P.bytesOf e ≤ reachBytes := by simpa using hw0
      rw [hB] at hw1
      rw [← hlen]
      exact Nat.le_trans (Nat.mul_le_mul_right _ (Nat.le_add_right _ _)) hw1
structure OpnF (P : Program) (fs : List Field) (o sz : Nat) {α : Type} (row : α → List T) (G : α → Prop) : Prop where
  len : ∀ x, (row x).length = sz
  op : ∀ {H : Type} {enc : TypeId × Value → H} {W : World} {fuel : Nat} {cs : List Value} {xs : List (DataW H × List MemPlace)},
    xs.length = fs.length → (∀ (i : Nat) (f : Field), fs[i]? = some f → DataW.trod enc P W 0 (fun _ => true) true fuel f.type ((cs.drop f.offset).take (P.cellsOf f.type)) = xs[i]?) →
    (∀ n ∈ DataW.weightsEach P (fs.map (·.type)) (xs.map (·.1)), n ≤ reachBytes) → cs.length = o + sz → ∃ x, RdRow W (row x) (cs.drop o) ∧ G x
theorem OpnF.one {f : Field} {o sz : Nat} {α : Type} {row : α → List T} {G : α → Prop} (he : Opn P f.type sz row G) (ho : f.offset = o) (hc : P.cellsOf f.type = sz) : OpnF P [f] o sz row G where
  len := he.len
  op := fun {H enc W fuel cs xs} hx h hz hl => by
    match xs, hx with
    | [y], _ =>
      have hy := h 0 f rfl
      rw [ho, hc, List.take_of_length_le (by simp; omega)] at hy
      exact he.op (show _ = some (y.1, y.2) from hy) (fun n hn => hz n (by simp only [List.map_cons, List.map_nil, DataW.weightsEach]; exact List.mem_append_left _ hn))
theorem OpnF.cons {f : Field} {r : List Field} {o sz sz2 : Nat} {α β : Type} {row : α → List T} {row2 : β → List T} {G : α → Prop} {G2 : β → Prop} (he : Opn P f.type sz row G) (ho : f.offset = o) (hc : P.cellsOf f.type = sz) (hr : OpnF P r (o + sz) sz2 row2 G2) :
    OpnF P (f :: r) o (sz + sz2) (fun x : α × β => row x.1 ++ row2 x.2) (fun x => G x.1 ∧ G2 x.2) where
  len := fun x => by rw [List.length_append, he.len, hr.len]
  op := fun {H enc W fuel cs xs} hx h hz hl => by
    match xs, hx with
    | y :: ys, hx =>
      have hl2 : cs.length = o + sz + sz2 := by omega
      have hy := h 0 f rfl
      rw [ho, hc] at hy
      obtain ⟨x, hK, hG⟩ := he.op (show _ = some (y.1, y.2) from hy) (fun n hn => hz n (by simp only [List.map_cons, DataW.weightsEach]; exact List.mem_append_left _ hn))
      obtain ⟨x2, hK2, hG2⟩ := hr.op (xs := ys) (by simpa using hx) (fun i g hg => h (i + 1) g hg) (fun n hn => hz n (by simp only [List.map_cons, DataW.weightsEach]; exact List.mem_append_right _ hn)) hl2
      refine ⟨(x, x2), ?_, hG, hG2⟩
      have := hK.append hK2
      rwa [← List.drop_drop, List.take_append_drop] at this
theorem Opn.struct {fs : Array Field} {sz : Nat} {α β : Type} {row : α → List T} {row2 : β → List T} {G : α → Prop} {G2 : β → Prop} (g : α → β) (hf : OpnF P fs.toList 0 sz row G) (hu : P.underlying t = some (.struct fs)) (hg : ∀ a, row2 (g a) = row a) (hG2 : ∀ a, G a → G2 (g a)) (hlen : ∀ b, (row2 b).length = sz) (hc : P.cellsOf t = sz) :
    Opn P t sz row2 G2 where
  len := hlen
  op := fun {H enc W fuel cs D ps} h hz => by
    obtain ⟨xs, n, _, hx, hl, hm, he⟩ := DataW.trod_struct hu h
    obtain ⟨rfl, _⟩ := Prod.mk.inj hx
    obtain ⟨x, hK, hG⟩ := hf.op (xs := xs) (by simpa using hm) (fun i f hf => he i f (by simpa using hf)) (fun n hn => hz n (by simp only [DataW.weights, hu]; exact hn)) (by omega)
    exact ⟨g x, by rw [hg]; simpa using hK, hG2 x hG⟩
end
theorem each_of {H : Type} {P : Program} {ts : List TypeId} {ds : List (DataW H)} (h : (DataW.weightsEach P ts ds).all (· ≤ reachBytes) = true) {j : Nat} {t : TypeId} {D : DataW H} (ht : ts[j]? = some t) (hd : ds[j]? = some D) : ∀ n ∈ DataW.weights P t D, n ≤ reachBytes := by
  intro n hn
  have := List.all_eq_true.1 h _ (DataW.weights_mem_each ht hd n hn)
  simpa using this
theorem AVrs_of {W : World} : ∀ {ts : List T} {cs : List Value}, RdRow W ts cs → AVr.AVrs (inCx W fun b => b < W.heap.size) (ts.map .t) cs
  | [], [], _ => trivial
  | t :: ts, c :: cs, h => ⟨h.2 0 t c rfl rfl, AVrs_of ⟨by have := h.1; simpa using this, fun j t' v' h1 h2 => h.2 (j + 1) t' v' h1 h2⟩⟩
  | [], _ :: _, h => by have := h.1; simp at this
  | _ :: _, [], h => by have := h.1; simp at this
theorem arg_agg {W : World} {ts : List T} {cs : Array Value} (h : RdRow W ts (Value.agg cs).cells.toList) : AVr (inCx W fun b => b < W.heap.size) (.agg (ts.map .t)) (.agg cs) :=
  ⟨cs.toList, by simp, AVrs_of h⟩
theorem arg_one {W : World} {t : T} {v : Value} (hv : v.cells.toList = [v]) (h : RdRow W [t] v.cells.toList) : AVr (inCx W fun b => b < W.heap.size) (.t t) v := by
  rw [hv] at h
  exact h.2 0 t v rfl rfl
theorem okWide_agg {P : Program} {W : World} {base : Nat} {t : TypeId} {fs : Array Field} {v : Value} (hu : P.underlying t = some (.struct fs)) (h : Value.okWide P W .any base t v) : ∃ cs, v = .agg cs := by
  unfold Value.okWide at h
  rw [hu] at h
  obtain ⟨cs, h, _⟩ := h
  exact ⟨cs, h⟩
theorem out_bool {w w' : World} {D : Dm} {b : Bool} {v : Value} (h : Out w D w' (.t (.bool b)) v) : v = .bool b ∧ Below w.heap.size w w' := by
  obtain ⟨h1, col, _, h2⟩ := h
  refine ⟨?_, h1.os, h1.tape, h1.output, h1.size, fun k hk => h1.block k hk (by simp)⟩
  have h3 : Rd (outCx w D w' col).w (outCx w D w' col).Dp (.bool b) v := h2
  cases h3
  rfl
end Go.Proofs.Ythbhnjcnbnlidaa.Am
namespace Go.Proofs.Ythbhnjcnbnlidaa.Am
open Go
set_option linter.unusedVariables false
set_option linter.unusedSimpArgs false
set_option maxRecDepth 100000
theorem lG_mk {α : Type} {G : α → Prop} {B : Nat} {xs : List α} (hB : 1 ≤ B) (h : xs.length * B ≤ 140737488351232 ∧ ∀ x ∈ xs, G x) : lG G xs :=
  ⟨Nat.le_trans (Nat.le_mul_of_pos_right _ hB) h.1, h.2⟩
def Stm.row (x : Stm) : List T := [.int .i64 x.last.t, .int .i64 x.last.n, .list false 3 (x.items.map It.row), .list false 4 (x.groups.map Gr.row)]
theorem opn_int : Opn Try.prog 3 1 (fun x : Int => [T.int .i64 x]) (fun x => (Lit.int .i64 x).wf = true) := Opn.int Try.underlying3
theorem opn_Pair : Opn Try.prog 147 2 Pr.row Pr.G := by
  refine Opn.struct (sz := 1 + 1) (fun (a : ByteArray × ByteArray) => ⟨a.1, a.2⟩) (OpnF.cons (Opn.string Try.underlying9) rfl (by kernel_rfl) (OpnF.one (Opn.string Try.underlying9) rfl (by kernel_rfl))) Try.underlying147 ?_ ?_ (fun _ => rfl) (by kernel_rfl)
  · exact fun _ => rfl
  · exact (fun _ h => h)
theorem Opn.weaken {P : Program} {t : TypeId} {sz : Nat} {α : Type} {row : α → List T} {G G' : α → Prop} (h : Opn P t sz row G) (hg : ∀ x, G x → G' x) : Opn P t sz row G' :=
  ⟨h.len, fun h1 h2 => by obtain ⟨x, a, b⟩ := h.op h1 h2; exact ⟨x, a, hg x b⟩⟩
theorem opn_Pairs : Opn Try.prog 99 1 (fun xs : List Pr => [T.list false 2 (xs.map Pr.row)]) (lG Pr.G) :=
  (Opn.slice opn_Pair Try.underlying99 (by kernel_rfl) (by omega) (B := 32) (by kernel_rfl)).weaken fun _ => lG_mk (by omega)
end Go.Proofs.Ythbhnjcnbnlidaa.Am
namespace Go.Proofs.Ythbhnjcnbnlidaa.Am
open Go
set_option maxRecDepth 100000
set_option linter.unusedSimpArgs false
set_option linter.unusedVariables false
theorem opn_string : Opn Try.prog 9 1 (fun x : ByteArray => [T.str x]) (fun x => x.size ≤ 140737488351232) := Opn.string Try.underlying9
theorem opn_strings : Opn Try.prog 46 1 (fun xs : List Tx => [T.list false 1 (xs.map Tx.row)]) (lG Tx.G) :=
  (Opn.slice (row := Tx.row) (G := Tx.G) opn_string Try.underlying46 (by kernel_rfl) (by omega) (B := 16) (by kernel_rfl)).weaken fun _ => lG_mk (by omega)
theorem opn_Score : Opn Try.prog 67 2 Sc.row Sc.G := by
  refine Opn.struct (sz := 1 + 1) (fun (a : ByteArray × Int) => ⟨a.1, a.2⟩) (OpnF.cons opn_string rfl (by kernel_rfl) (OpnF.one opn_int rfl (by kernel_rfl))) Try.underlying67 ?_ ?_ (fun _ => rfl) (by kernel_rfl)
  · exact fun _ => rfl
  · exact (fun _ h => h.1)
theorem opn_Scores : Opn Try.prog 34 1 (fun xs : List Sc => [T.list false 2 (xs.map Sc.row)]) (lG Sc.G) :=
  (Opn.slice (row := Sc.row) (G := Sc.G) opn_Score Try.underlying34 (by kernel_rfl) (by omega) (B := 24) (by kernel_rfl)).weaken fun _ => lG_mk (by omega)
theorem opn_Entry : Opn Try.prog 101 7 En.row En.G := by
  refine Opn.struct (sz := 1 + (1 + (1 + (1 + (1 + (1 + 1)))))) (fun (a : ByteArray × Int × Int × ByteArray × List Tx × List Sc × List Pr) => ⟨a.1, a.2.1, a.2.2.1, a.2.2.2.1, a.2.2.2.2.1, a.2.2.2.2.2.1, a.2.2.2.2.2.2⟩) (OpnF.cons opn_string rfl (by kernel_rfl) (OpnF.cons opn_int rfl (by kernel_rfl) (OpnF.cons opn_int rfl (by kernel_rfl) (OpnF.cons opn_string rfl (by kernel_rfl) (OpnF.cons opn_strings rfl (by kernel_rfl) (OpnF.cons opn_Scores rfl (by kernel_rfl) (OpnF.one opn_Pairs rfl (by kernel_rfl)))))))) Try.underlying101 ?_ ?_ (fun _ => rfl) (by kernel_rfl)
  · exact fun _ => rfl
  · exact (fun _ h => ⟨h.1, h.2.2.2.1, h.2.2.2.2.1, h.2.2.2.2.2.1, h.2.2.2.2.2.2⟩)
theorem opn_Entrys : Opn Try.prog 42 1 (fun xs : List En => [T.list false 7 (xs.map En.row)]) (lG En.G) :=
  (Opn.slice (row := En.row) (G := En.G) opn_Entry Try.underlying42 (by kernel_rfl) (by omega) (B := 120) (by kernel_rfl)).weaken fun _ => lG_mk (by omega)
theorem opn_Base : Opn Try.prog 44 2 Bs.row Bs.G := by
  refine Opn.struct (sz := 1 + 1) (fun (a : Int × List En) => ⟨a.1, a.2⟩) (OpnF.cons opn_int rfl (by kernel_rfl) (OpnF.one opn_Entrys rfl (by kernel_rfl))) Try.underlying44 ?_ ?_ (fun _ => rfl) (by kernel_rfl)
  · exact fun _ => rfl
  · exact (fun _ h => h.2)
end Go.Proofs.Ythbhnjcnbnlidaa.Am
