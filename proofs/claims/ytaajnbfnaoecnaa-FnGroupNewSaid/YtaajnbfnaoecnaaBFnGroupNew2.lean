/- Texts of this claim, packed: walks and laws that its row stands on. Each states its own conditions. -/
import Derived.Test.YtaajnbfnaoecnaaBFnGroupNew1
namespace Go.Proofs.Ytaajnbfnaoecnaa.Am
open Go
set_option linter.unusedVariables false
def sw (m n k : Nat) : Nat := if k = m then n else if k = n then m else k
theorem sw_sw (m n k : Nat) : sw m n (sw m n k) = k := by
  unfold sw
  by_cases h1 : k = m
  · subst h1
    by_cases h2 : n = k <;> simp [h2]
  · by_cases h2 : k = n
    · subst h2; simp [h1]
    · simp [h1, h2]
theorem sw_eq {m n k k' : Nat} : sw m n k = k' ↔ k = sw m n k' := ⟨fun h => by rw [← h, sw_sw], fun h => by rw [h, sw_sw]⟩
theorem sw_inj {m n k k' : Nat} (h : sw m n k = sw m n k') : k = k' := by rw [← sw_sw m n k, h, sw_sw]
theorem sw_ge {m n k p : Nat} (hm : m < p) (hn : n < p) (hk : p ≤ k) : sw m n k = k := by
  unfold sw; rw [if_neg (by omega), if_neg (by omega)]
def AV.ren (m n : Nat) : AV → AV
  | .refw k => .refw (sw m n k)
  | .ref k o l => .ref (sw m n k) o l
  | .ptr k i j => .ptr (sw m n k) i j
  | .ls x (some (k, i, j)) => .ls x (some (sw m n k, i, j))
  | .agg cs => .agg (rens m n cs)
  | .tup cs => .tup (rens m n cs)
  | .fn f cs => .fn f (rens m n cs)
  | v => v
where rens (m n : Nat) : List AV → List AV
  | [] => []
  | v :: l => v.ren m n :: rens m n l
def Blk.ren (m n : Nat) : Blk → Blk
  | .box cs => .box (AV.ren.rens m n cs)
  | .rows sz rs => .rows sz rs
def hren (m n : Nat) : Hp → Hp
  | [] => []
  | (k, b) :: h => hput (hren m n h) (sw m n k) (b.ren m n)
def St.ren (s : St) (m n : Nat) : St := ⟨AV.ren.rens m n s.tm, hren m n s.hp⟩
theorem hget_hren (m n : Nat) (h : Hp) (k : Nat) : hget (hren m n h) k = (hget h (sw m n k)).map (Blk.ren m n) := by
  induction h with
  | nil => rfl
  | cons p h ih =>
    obtain ⟨k0, b⟩ := p
    simp only [hren, hget, hget_hput]
    by_cases e : sw m n k0 = k
    · rw [if_pos e, if_pos (sw_eq.1 e)]; rfl
    · rw [if_neg e, if_neg (fun e' => e (sw_eq.2 e')), ih]
theorem gt_rens (m n : Nat) (l : List AV) (i : Nat) : gt (AV.ren.rens m n l) i = (gt l i).ren m n := by
  induction l generalizing i with
  | nil => simp [AV.ren.rens, gt, AV.ren]
  | cons a l ih => cases i <;> simp [AV.ren.rens, gt, ih]
theorem rens_length (m n : Nat) (l : List AV) : (AV.ren.rens m n l).length = l.length := by
  induction l with
  | nil => rfl
  | cons a l ih => simp [AV.ren.rens, ih]
def ρR (m n : Nat) (ρ : Nat → Option Nat) : Nat → Option Nat := fun k => ρ (sw m n k)
def colR (m n : Nat) (col : Col) : Col := fun b => match col b with
  | some (k, i, j) => some (sw m n k, i, j)
  | none => none
section
variable {B : Base} {ρ : Nat → Option Nat} {col : Col} {s : St} {a : Act} {w : World} {m n : Nat}
theorem ren_Dp {hp : Hp} {b : Nat} (h : (cx B ρ col w hp).Dp b) : (cx B (ρR m n ρ) (colR m n col) w (hren m n hp)).Dp b :=
  ⟨h.1, h.2.1, by have := h.2.2.1; simp only [colR, this], fun k => h.2.2.2 (sw m n k)⟩
theorem ren_Dl (hm : m < pin) (hn : n < pin) {hp : Hp} {b : Nat} (h : (cx B ρ col w hp).Dl b) : (cx B (ρR m n ρ) (colR m n col) w (hren m n hp)).Dl b := by
  refine ⟨h.1, fun k => h.2.1 (sw m n k), fun i j e => ?_⟩
  simp only [colR] at e
  split at e
  · rename_i k i' j' hc
    simp only [Option.some.injEq, Prod.mk.injEq] at e
    obtain ⟨e1, rfl, rfl⟩ := e
    have : k = limKey := by rw [sw_eq.1 e1]; exact sw_ge (p := pin) hm hn (by decide)
    subst this
    exact h.2.2 _ _ hc
  · cases e
mutual
theorem AVr.ren (hm : m < pin) (hn : n < pin) {hp : Hp} : ∀ (x : AV) (v : Value), AVr (cx B ρ col w hp) x v → AVr (cx B (ρR m n ρ) (colR m n col) w (hren m n hp)) (x.ren m n) v
  | .t x, v, hx => Rd.mono hx (fun _ _ => rfl) (fun b hb => ren_Dp hb)
  | .own _, _, hx => hx
  | .ls x none, v, hx => ⟨Rd.mono hx.1 (fun _ _ => rfl) (fun b hb => ren_Dl hm hn hb), trivial⟩
  | .ls x (some (k, i, j)), v, hx => by
    refine ⟨Rd.mono hx.1 (fun _ _ => rfl) (fun b hb => ren_Dl hm hn hb), ?_⟩
    obtain ⟨b, sz, rs, t1, t2, t3, t4, t5⟩ := hx.2
    have t2' : hget hp k = some (.rows sz rs) := t2
    exact ⟨b, sz, rs, by show ρ (sw m n (sw m n k)) = _; rw [sw_sw]; exact t1, by show hget (hren m n hp) _ = _; rw [hget_hren, sw_sw, t2']; rfl, t3, t4, t5⟩
  | .nils _, _, hx => hx
  | .agg cs, v, ⟨vs, e, hx⟩ => ⟨vs, e, AVrs.ren hm hn cs vs hx⟩
  | .tup cs, v, ⟨vs, e, hx⟩ => ⟨vs, e, AVrs.ren hm hn cs vs hx⟩
  | .refw k, v, ⟨sz, rs, h1, h2⟩ => by
    have h1' : hget hp k = some (.rows sz rs) := h1
    refine ⟨sz, rs, by show hget (hren m n hp) _ = _; rw [hget_hren, sw_sw, h1']; rfl, ?_⟩
    rcases h2 with ⟨b, cap, e, q, g1, g2, g3, g4, g5⟩ | h2
    · exact .inl ⟨b, cap, e, q, by show ρ (sw m n (sw m n k)) = _; rw [sw_sw]; exact g1, g2, g3, g4, g5⟩
    · exact .inr h2
  | .ref k o l, v, ⟨sz, rs, h1, h0, h2⟩ => by
    have h1' : hget hp k = some (.rows sz rs) := h1
    refine ⟨sz, rs, by show hget (hren m n hp) _ = _; rw [hget_hren, sw_sw, h1']; rfl, h0, ?_⟩
    rcases h2 with ⟨b, cap, g1, g2, g3⟩ | h2
    · exact .inl ⟨b, cap, by show ρ (sw m n (sw m n k)) = _; rw [sw_sw]; exact g1, g2, g3⟩
    · exact .inr h2
  | .ptr k i j, v, ⟨b, h1, h2⟩ => by
    refine ⟨b, by show ρ (sw m n (sw m n k)) = _; rw [sw_sw]; exact h1, ?_⟩
    have e : hget (cx B (ρR m n ρ) (colR m n col) w (hren m n hp)).hp (sw m n k) = (hget hp k).map (Blk.ren m n) := by show hget (hren m n hp) _ = _; rw [hget_hren, sw_sw]
    rw [e]
    have h2' : match hget hp k with
      | some (.box _) => v = .pointer (some ⟨b, j, none⟩) ∧ i = 0
      | some (.rows sz _) => v = .pointer (some ⟨b, i * sz + j, none⟩)
      | none => False := h2
    revert h2'
    cases hget hp k with
    | none => exact id
    | some blk => cases blk <;> exact id
  | .rop false row j, v, ⟨b, off, h1, h2, h3⟩ => by
    simp only [Bool.false_eq_true, if_false] at h2 h3
    refine ⟨b, off, h1, by simpa using ren_Dp h2, fun q x hq => ?_⟩
    obtain ⟨u, h4, h5⟩ := h3 q x hq
    exact ⟨u, h4, by simp only [Bool.false_eq_true, if_false]; exact h5.mono (fun _ _ => rfl) (fun b hb => ren_Dp hb)⟩
  | .rop true row j, v, ⟨b, off, h1, h2, h3⟩ => by
    simp only [if_true] at h2 h3
    refine ⟨b, off, h1, by simpa using ren_Dl hm hn h2, fun q x hq => ?_⟩
    obtain ⟨u, h4, h5⟩ := h3 q x hq
    exact ⟨u, h4, by simp only [if_true]; exact h5.mono (fun _ _ => rfl) (fun b hb => ren_Dl hm hn hb)⟩
  | .fn f cap, v, ⟨vs, e, hx⟩ => ⟨vs, e, AVrs.ren hm hn cap vs hx⟩
  | .skip, _, hx => hx
  | .undef, _, _ => trivial
theorem AVrs.ren (hm : m < pin) (hn : n < pin) {hp : Hp} : ∀ (xs : List AV) (vs : List Value), AVr.AVrs (cx B ρ col w hp) xs vs → AVr.AVrs (cx B (ρR m n ρ) (colR m n col) w (hren m n hp)) (AV.ren.rens m n xs) vs
  | [], [], _ => trivial
  | x :: xs, v :: vs, hx => ⟨AVr.ren hm hn x v hx.1, AVrs.ren hm hn xs vs hx.2⟩
  | [], _ :: _, hx => hx
  | _ :: _, [], hx => hx
end
theorem SimR.ren (h : SimR B ρ col s a w) (hm : m < pin) (hn : n < pin) : SimR B (ρR m n ρ) (colR m n col) (s.ren m n) a w := by
  refine ⟨h.defers, by simp [St.ren, rens_length, h.len], h.keep, fun i => ?_, fun k b hb => ?_, fun k hk => ?_, fun k k' b h1 h2 => sw_inj (h.inj _ _ b h1 h2), fun k b hb => ?_, fun k b hb => h.lab _ b hb, fun b p hb => ?_, fun k hk => ?_, ?_⟩
  · simp only [St.ren, gt_rens]
    exact AVr.ren hm hn _ _ (h.tm i)
  · have hb1 : hget (hren m n s.hp) k = some b := hb
    rw [hget_hren] at hb1
    obtain ⟨b0, e0, rfl⟩ := Option.map_eq_some_iff.1 hb1
    have := h.hp _ b0 e0
    cases b0 with
    | box cs =>
      obtain ⟨g, vs, e, fr, e1, e2, e3, e4⟩ := this
      exact ⟨g, vs, e, fr, e1, e2, e3, AVrs.ren hm hn cs vs e4⟩
    | rows sz rs =>
      obtain ⟨r1, r2⟩ := this
      refine ⟨r1, ?_⟩
      rcases r2 with ⟨g, cells, e, fr, u, q1, q2, q3, q4, q5, q6⟩ | ⟨q1, q2⟩
      · refine .inl ⟨g, cells, e, fr, u, q1, q2, q3, q4, q5, fun i r j x hi hj => Own.mono (q6 i r j x hi hj) (fun _ _ => rfl) (fun b hb => ren_Dp hb) (fun _ _ => rfl) (fun b hb => ?_)⟩
        simp only [colR, hb, sw_sw]
      · exact .inr ⟨q1, q2⟩
  · have hk1 : hget (hren m n s.hp) k = none := hk
    rw [hget_hren, Option.map_eq_none_iff] at hk1
    exact h.dom _ hk1
  · have := h.sep _ b hb
    simp only [colR, this]
  · simp only [colR] at hb
    split at hb
    · rename_i hc; exact h.colb b _ hc
    · cases hb
  · show ρ (sw m n k) = _
    rw [sw_ge hm hn hk]; exact h.pins k hk
  · show hget (hren m n s.hp) limKey = none
    rw [hget_hren, sw_ge (p := pin) hm hn (by decide), h.nolim]; rfl
theorem LeS.ren (s : St) (hm : m < pin) (hn : n < pin) : LeS s (s.ren m n) := fun B a w ⟨ρ, col, h⟩ => ⟨_, _, h.ren hm hn⟩
def St.rens (s : St) : List (Nat × Nat) → St
  | [] => s
  | p :: l => (s.ren p.1 p.2).rens l
theorem LeS.rens : ∀ (l : List (Nat × Nat)) (s : St), (l.all fun p => decide (p.1 < pin) && decide (p.2 < pin)) = true → LeS s (s.rens l)
  | [], s, _ => LeS.refl s
  | p :: l, s, h => by
    simp only [List.all_cons, Bool.and_eq_true, decide_eq_true_eq] at h
    exact (LeS.ren s h.1.1 h.1.2).trans (LeS.rens l _ h.2)
theorem Rnd.toR {α : Type} {inv : α → St} {rank : α → Nat} {ok : α → Prop} {k : Nat} {s : St} (ks : List Nat) (ps : List (Nat × Nat)) (y : α) (hk : (ks.all fun k => decide (k < pin)) = true) (hp : (ps.all fun p => decide (p.1 < pin) && decide (p.2 < pin)) = true)
    (h1 : LeTs ((s.drops ks).rens ps).tm (inv y).tm) (h2 : ((s.drops ks).rens ps).hp = (inv y).hp) (hr : rank y < k) (ho : ok y) : Rnd inv rank ok k s :=
  ⟨y, (LeS.drops s (fun k hk' => of_decide_eq_true (List.all_eq_true.1 hk k hk'))).trans ((LeS.rens ps _ hp).trans (LeS.forget h1 h2)), hr, ho⟩
end
def emp (h : Hp) : AV → AV
  | .refw k => match hget h k with
    | some (.rows sz []) => .t (.list false sz [])
    | _ => .refw k
  | .nils sz => .t (.list false sz [])
  | x => x
theorem emp_r {c : Cx} {x : AV} {v : Value} (h : AVr c x v) : AVr c (emp c.hp x) v := by
  unfold emp
  split
  · rename_i k
    split
    · rename_i sz hk
      obtain ⟨sz', rs, h1, h2⟩ := h
      rw [hk] at h1; cases h1
      rcases h2 with ⟨b, cap, e, q, g1, rfl, _⟩ | ⟨_, a, rfl⟩
      · exact .nil ..
      · exact .nil ..
    · exact h
  · have h' : v = .slice none 0 0 := h
    subst h'
    exact .nil ..
  · exact h
def empT (s : St) : List Nat → St
  | [] => s
  | i :: l => empT ⟨pt s.tm i (emp s.hp (gt s.tm i)), s.hp⟩ l
theorem pt_len : ∀ (l : List AV) (i : Nat) (v : AV), (pt l i v).length = l.length
  | [], _, _ => rfl
  | a :: l, 0, v => rfl
  | a :: l, i + 1, v => by simp [pt, pt_len l i v]
theorem emp_le (s : St) (i : Nat) : LeS s ⟨pt s.tm i (emp s.hp (gt s.tm i)), s.hp⟩ := fun B a w ⟨ρ, col, h⟩ => ⟨ρ, col, ⟨h.defers, by rw [pt_len]; exact h.len, h.keep, fun j => by
    show AVr (cx B ρ col w s.hp) (gt (pt s.tm i (emp s.hp (gt s.tm i))) j) _
    rw [gt_pt]
    split
    · rename_i e; rw [e.1]; exact emp_r (h.tm i)
    · exact h.tm j, h.hp, h.dom, h.inj, h.sep, h.lab, h.colb, h.pins, h.nolim⟩⟩
theorem empT_le : ∀ (l : List Nat) (s : St), LeS s (empT s l)
  | [], s => LeS.refl s
  | i :: l, s => LeS.trans (emp_le s i) (empT_le l _)
theorem LoopW.empT {body : (Exit → St → Prop) → St → Prop} {K : Exit → St → Prop} {s s0 : St} (l : List Nat) (h : Am.empT s l = s0) (hl : LoopW body K s0) : LoopW body K s := hl.le (h ▸ empT_le l s)
def nilT (s : St) : List (Nat × Nat) → Option St
  | [] => some s
  | (k, j) :: l => match hget s.hp k with
    | some (.box cs) => match gt cs j with
      | .nils sz => nilT ⟨s.tm, hput s.hp k (.box (pt cs j (.t (.list false sz []))))⟩ l
      | _ => none
    | _ => none
theorem nilT_le : ∀ {l : List (Nat × Nat)} {s s' : St}, nilT s l = some s' → LeS s s'
  | [], s, s', h => by simp [nilT] at h; subst h; exact LeS.refl _
  | (k, j) :: l, s, s', h => by
    unfold nilT at h
    split at h
    · rename_i cs hk
      split at h
      · rename_i sz hz
        refine LeS.trans ?_ (nilT_le h)
        rintro B a w ⟨ρ, col, hs⟩
        have hgp : ∀ n, hget (hput s.hp k (.box (pt cs j (.t (.list false sz []))))) n = if k = n then some (.box (pt cs j (.t (.list false sz [])))) else hget s.hp n := by
          intro n; rw [hget_hput]
        have hle : (cx B ρ col w s.hp).le (cx B ρ col w (hput s.hp k (.box (pt cs j (.t (.list false sz [])))))) fun _ => True := by
          refine ⟨fun _ _ _ => rfl, fun n b _ hb => ?_, fun b hb => ⟨hb, rfl⟩, fun b hb => ⟨hb, rfl⟩, fun _ _ _ _ => rfl, fun _ _ _ _ _ => rfl⟩
          have hb' : hget s.hp n = some b := hb
          show ∃ b', hget (hput s.hp k (.box (pt cs j (.t (.list false sz []))))) n = some b' ∧ _
          rw [hgp]
          split
          · rename_i e; subst e; rw [hk] at hb'; cases hb'; exact ⟨_, rfl, trivial⟩
          · exact ⟨b, hb', blk_sim_refl b⟩
        refine ⟨ρ, col, ⟨hs.defers, hs.len, hs.keep, fun i => AVr.mono hle _ _ (hs.tm i), fun n b hb => ?_, fun n hn => ?_, hs.inj, hs.sep, hs.lab, hs.colb, hs.pins, by rw [hgp, if_neg (fun e => by rw [e, hs.nolim] at hk; cases hk), hs.nolim]⟩⟩
        · have hb1 := hb
          simp only at hb1
          rw [hgp] at hb1
          split at hb1
          · rename_i e; subst e; cases hb1
            obtain ⟨b, vs, e, fr, f1, f2, f3, f4⟩ := hs.hp k _ hk
            refine ⟨b, vs, e, fr, f1, f2, f3, AVrs_pt (AVrs.mono hle _ _ f4) (fun u hu => ?_)⟩
            rw [hz] at hu
            have hu' : u = .slice none 0 0 := hu
            subst hu'
            exact .nil ..
          · exact (hs.hp n b hb1).mono hle rfl (fun _ _ => rfl) (fun _ _ _ h => ⟨h, rfl⟩)
        · have hn1 := hn
          simp only at hn1
          rw [hgp] at hn1
          split at hn1
          · cases hn1
          · exact hs.dom n hn1
      · cases h
    · cases h
theorem LoopW.nilT {body : (Exit → St → Prop) → St → Prop} {K : Exit → St → Prop} {s s0 : St} (l : List (Nat × Nat)) (h : Am.nilT s l = some s0) (hl : LoopW body K s0) : LoopW body K s := hl.le (nilT_le h)
attribute [go_sem] emp empT nilT sw AV.ren AV.ren.rens Blk.ren hren St.ren St.rens shareC shareCs shareV shareVs shareR
end Go.Proofs.Ytaajnbfnaoecnaa.Am
namespace Go.Proofs.Ytaajnbfnaoecnaa.Am
open Go
set_option linter.unusedVariables false
theorem set_getD {l : List (List T)} {i : Nat} (h : i < l.length) (r : List T) : (l.set i r).getD i [] = r := by
  simp [List.getD_eq_getElem?_getD, h]
def wSum {α : Type} (w : α → Nat) (l : List α) : Nat := (l.map w).sum
def wAll {α : Type} (w : α → Nat) (l : List α) : Nat := l.length + wSum w l
def mkAll {α : Type} (m : α → Int → α) (w : α → Nat) : List α → Int → List α
  | [], _ => []
  | x :: xs, k => m x k :: mkAll m w xs (k + w x)
theorem filter_take {α : Type} (p : α → Bool) (l : List α) {i : Nat} (h : i < l.length) : (l.take (i + 1)).filter p = (l.take i).filter p ++ if p l[i] = true then [l[i]] else [] := by
  rw [List.take_succ_eq_append_getElem h, List.filter_append]; congr 1; simp [List.filter_cons]
theorem foldl_take {α β : Type} (f : β → α → β) (b : β) (l : List α) {i : Nat} (h : i < l.length) : (l.take (i + 1)).foldl f b = f ((l.take i).foldl f b) l[i] := by
  rw [List.take_succ_eq_append_getElem h, List.foldl_append]; rfl
end Go.Proofs.Ytaajnbfnaoecnaa.Am
namespace Go.Proofs.Ytaajnbfnaoecnaa.Am
open Go
@[ext] structure Pr where
  k : ByteArray
  v : ByteArray
deriving DecidableEq
@[ext] structure Idt where
  t : Int
  n : Int
deriving DecidableEq
@[ext] structure It where
  id : Idt
  fields : List Pr
deriving DecidableEq
@[ext] structure Wt where
  id : Idt
  who : ByteArray
  at' : Int
  tm : Int
deriving DecidableEq
@[ext] structure Gr where
  name : ByteArray
  last : Idt
  waits : List Wt
deriving DecidableEq
@[ext] structure Stm where
  last : Idt
  items : List It
  groups : List Gr
deriving DecidableEq
def Pr.row (x : Pr) : List T := [.str x.k, .str x.v]
def It.row (x : It) : List T := [.int .i64 x.id.t, .int .i64 x.id.n, .list false 2 (x.fields.map Pr.row)]
def Wt.row (x : Wt) : List T := [.int .i64 x.id.t, .int .i64 x.id.n, .str x.who, .int .i64 x.at', .int .i64 x.tm]
def Gr.row (x : Gr) : List T := [.str x.name, .int .i64 x.last.t, .int .i64 x.last.n, .list false 5 (x.waits.map Wt.row)]
def It.rowO (x : It) : List T := [.int .i64 x.id.t, .int .i64 x.id.n, .list true 2 (x.fields.map Pr.row)]
def Gr.rowO (x : Gr) : List T := [.str x.name, .int .i64 x.last.t, .int .i64 x.last.n, .list true 5 (x.waits.map Wt.row)]
def It.sm (x : It) : Prop := x.fields.length < 4611686018427387904
def Gr.sm (x : Gr) : Prop := x.waits.length < 4611686018427387904
def Stm.sm (x : Stm) : Prop := x.items.length < 4611686018427387904 ∧ x.groups.length < 4611686018427387904 ∧ (∀ i ∈ x.items, i.sm) ∧ ∀ g ∈ x.groups, g.sm
def Pr.w (x : Pr) : Nat := x.k.size + x.v.size
def It.w (x : It) : Nat := wAll Pr.w x.fields
def Wt.w (x : Wt) : Nat := x.who.size
def Gr.w (x : Gr) : Nat := x.name.size + wAll Wt.w x.waits
def Stm.w (x : Stm) : Nat := wAll It.w x.items + wAll Gr.w x.groups
def ts (l : List T) : List AV := l.map .t
abbrev Pr.av (x : Pr) : AV := .agg [.t (.str x.k), .t (.str x.v)]
abbrev Idt.av (x : Idt) : AV := .agg [I x.t, I x.n]
abbrev It.av (x : It) : AV := .agg [I x.id.t, I x.id.n, .t (.list false 2 (x.fields.map Pr.row))]
abbrev Wt.av (x : Wt) : AV := .agg [I x.id.t, I x.id.n, .t (.str x.who), I x.at', I x.tm]
abbrev Gr.av (x : Gr) : AV := .agg [.t (.str x.name), I x.last.t, I x.last.n, .t (.list false 5 (x.waits.map Wt.row))]
abbrev Stm.av (x : Stm) : AV := .agg [I x.last.t, I x.last.n, .t (.list false 3 (x.items.map It.row)), .t (.list false 4 (x.groups.map Gr.row))]
theorem bytesEq_iff (a b : ByteArray) : bytesEq a b = decide (a = b) := by
  unfold bytesEq
  rw [ByteArray.toList_eq, ByteArray.toList_eq]
  obtain ⟨⟨x⟩⟩ := a
  obtain ⟨⟨y⟩⟩ := b
  by_cases h : x = y
  · subst h; simp
  · have h1 : (x == y) = false := by simpa using h
    simp [h, h1]
theorem mk_rows {α : Type} (f : α → List T) (h : ∀ x, (f x).map (T.mk false) = f x) (l : List α) : (l.map f).map (List.map (T.mk false)) = l.map f := by
  rw [List.map_map]
  exact List.map_congr_left fun x _ => h x
theorem Pr.mk_rows (l : List Pr) : (l.map Pr.row).map (List.map (T.mk false)) = l.map Pr.row := Am.mk_rows _ (fun _ => rfl) l
theorem Wt.mk_rows (l : List Wt) : (l.map Wt.row).map (List.map (T.mk false)) = l.map Wt.row := Am.mk_rows _ (fun _ => rfl) l
theorem It.mk_rows (l : List It) : (l.map It.row).map (List.map (T.mk false)) = l.map It.row := Am.mk_rows _ (fun x => by simp only [It.row, List.map_cons, List.map_nil, T.mk_list, T.mk_int, Pr.mk_rows]) l
theorem Gr.mk_rows (l : List Gr) : (l.map Gr.row).map (List.map (T.mk false)) = l.map Gr.row := Am.mk_rows _ (fun x => by simp only [Gr.row, List.map_cons, List.map_nil, T.mk_list, T.mk_int, T.mk_str, Wt.mk_rows]) l
attribute [go_sem] bytesEq_iff Pr.mk_rows Wt.mk_rows It.mk_rows Gr.mk_rows
end Go.Proofs.Ytaajnbfnaoecnaa.Am
namespace Go.Proofs.Ytaajnbfnaoecnaa.Am
open Go
set_option maxRecDepth 100000
set_option maxHeartbeats 1000000
set_option linter.unusedSimpArgs false
set_option linter.unusedVariables false
abbrev by8 (bs : List Int) : AV := .t (.list false 1 (bs.map fun b => [T.int .u8 b]))
structure Drw (bs : List Int) (p : Int) : Prop where
  b : ∀ x ∈ bs, 0 ≤ x ∧ x ≤ 255
  l : bs.length ≤ 2000
  p0 : 0 ≤ p
  p1 : p ≤ 1000000000
abbrev dwH (bs : List Int) (p : Int) : Hp := [(9000, .box [by8 bs, I p])]
theorem wrap_i {n : Int} (h0 : 0 ≤ n) (h1 : n ≤ 9223372036854775807) : IntKind.i64.wrap n = n := wrap64 (by omega) (by omega)
theorem xor_ok {a b : Int} (ha : 0 ≤ a ∧ a < 4611686018427387904) (hb : 0 ≤ b ∧ b < 4611686018427387904) :
    ∃ v : Int, IntKind.i64.wrap (BitVec.ofInt IntKind.i64.bits a ^^^ BitVec.ofInt IntKind.i64.bits b).toNat = v ∧ 0 ≤ v ∧ v < 4611686018427387904 := by
  obtain ⟨a, rfl⟩ := Int.eq_ofNat_of_zero_le ha.1
  obtain ⟨b, rfl⟩ := Int.eq_ofNat_of_zero_le hb.1
  have h1 : a < 2 ^ 62 := by have := ha.2; omega
  have h2 : b < 2 ^ 62 := by have := hb.2; omega
  have h3 : (BitVec.ofInt IntKind.i64.bits (a : Int) ^^^ BitVec.ofInt IntKind.i64.bits (b : Int)).toNat = a ^^^ b := by
    rw [BitVec.toNat_xor, BitVec.ofInt_natCast, BitVec.ofInt_natCast, BitVec.toNat_ofNat, BitVec.toNat_ofNat, Nat.mod_eq_of_lt, Nat.mod_eq_of_lt]
    · show b < 2 ^ 64; omega
    · show a < 2 ^ 64; omega
  have h4 : a ^^^ b < 2 ^ 62 := Nat.xor_lt_two_pow h1 h2
  rw [h3]
  exact ⟨_, rfl, by rw [wrap64 (by omega) (by omega)]; omega, by rw [wrap64 (by omega) (by omega)]; omega⟩
theorem p_pick : Plain Try.prog 55 := ⟨_, Try.func55, rfl, by decide⟩
theorem byte_at {bs : List Int} {k : Nat} (hk : k < bs.length) : (bs.map fun b => [T.int .u8 b]).getD k [] = [T.int .u8 bs[k]] := row_getD (fun b => [T.int .u8 b]) bs hk
theorem s_pick (bs : List Int) (p n : Int) (h : Drw bs p) (hn : n ≤ 1000000000) : SpecO Try.prog 55 [.ptr 9000 0 0, I n] (dwH bs p)
    (fun r h' => (∃ v : Int, r = I v ∧ 0 ≤ v ∧ (v < n ∨ v = 0)) ∧ h' = dwH bs (p + 1)) := by
  obtain ⟨hb, hl, hp0, hp1⟩ := h
  refine SpecO.of tysOk mixed Try.func55 rfl (by decide) ?_
  have w1 : IntKind.i64.wrap (p + 1) = p + 1 := wrap64 (by omega) (by omega)
  have w2 : IntKind.i64.wrap (p + 1 - 1) = p := by rw [wrap64 (by omega) (by omega)]; omega
  simp -implicitDefEqProofs only [go_sem, Try.f55, by8, w1, w2]
  refine BrA_i (fun h1 => ?_) (fun h1 => ?_) <;> simp -implicitDefEqProofs only [go_sem]
  · exact ⟨0, rfl, by omega, .inr rfl⟩
  have h1 : 1 ≤ n := by simp at h1; omega
  refine BrA_i (fun h2 => ?_) (fun h2 => ?_) <;> simp -implicitDefEqProofs only [go_sem]
  · exact ⟨0, rfl, by omega, .inr rfl⟩
  have h2 : 0 < bs.length := by have := of_decide_eq_false h2; omega
  simp -implicitDefEqProofs only [go_sem, w2]
  refine BrA_i (fun h3 => ?_) (fun h3 => ?_) <;> simp -implicitDefEqProofs only [go_sem]
  · obtain ⟨k, rfl⟩ := Int.eq_ofNat_of_zero_le hp0
    have h3 : k < bs.length := by simp at h3; omega
    have hk := hb _ (List.getElem_mem h3)
    have h0i : (0 : Int) ≤ k := by omega
    have h1i : (k : Int) < bs.length := by omega
    have wk : IntKind.i64.wrap bs[k] = bs[k] := wrap_i (by omega) (by omega)
    simp -implicitDefEqProofs only [go_sem, h0i, h1i, byte_at h3, wk]
    exact ⟨by omega, _, rfl, Int.tmod_nonneg _ hk.1, .inl (Int.tmod_lt_of_pos _ (by omega))⟩
  · obtain ⟨k, rfl⟩ := Int.eq_ofNat_of_zero_le hp0
    have e1 : ((k : Int).tmod bs.length) = ((k % bs.length : Nat) : Int) := rfl
    have e2 : (IntKind.i64.wrap (IntKind.i64.wrap ((k : Int) * 7) + 3)).tmod bs.length = (((k * 7 + 3) % bs.length : Nat) : Int) := by
      rw [wrap_i (n := (k : Int) * 7) (by omega) (by omega), wrap_i (by omega) (by omega)]; rfl
    have g1 : k % bs.length < bs.length := Nat.mod_lt _ h2
    have g2 : (k * 7 + 3) % bs.length < bs.length := Nat.mod_lt _ h2
    obtain ⟨m1, hm1⟩ : ∃ m, m = k % bs.length := ⟨_, rfl⟩
    obtain ⟨m2, hm2⟩ : ∃ m, m = (k * 7 + 3) % bs.length := ⟨_, rfl⟩
    rw [← hm1] at e1 g1
    rw [← hm2] at e2 g2
    have z1 : (0 : Int) ≤ m1 := by omega
    have z2 : (0 : Int) ≤ m2 := by omega
    have y1 : (m1 : Int) < bs.length := by omega
    have y2 : (m2 : Int) < bs.length := by omega
    have k1 := hb _ (List.getElem_mem g1)
    have k2 := hb _ (List.getElem_mem g2)
    have wk1 : IntKind.i64.wrap bs[m1] = bs[m1] := wrap_i (by omega) (by omega)
    have wk2 : IntKind.i64.wrap bs[m2] = bs[m2] := wrap_i (by omega) (by omega)
    have hn0 : ¬ (bs.length : Int) = 0 := by omega
    refine RegD_of sch_55_7 tysOk (by kernel_rfl) ?_
    simp -implicitDefEqProofs only [go_sem, e1, e2, z1, z2, y1, y2, byte_at g1, byte_at g2, wk1, wk2, hn0]
    refine ⟨by omega, ?_⟩
    have q1 : (k : Int).tdiv bs.length = ((k / bs.length : Nat) : Int) := rfl
    have q2 : k / bs.length ≤ k := Nat.div_le_self _ _
    obtain ⟨q, hq⟩ : ∃ q, q = k / bs.length := ⟨_, rfl⟩
    rw [← hq] at q1 q2
    have u1 : IntKind.i64.wrap (bs[m1] * 131) = bs[m1] * 131 := wrap_i (by omega) (by omega)
    have u2 : IntKind.i64.wrap (bs[m2] * 1117) = bs[m2] * 1117 := wrap_i (by omega) (by omega)
    have u3 : IntKind.i64.wrap (bs[m1] * 131 + bs[m2] * 1117) = bs[m1] * 131 + bs[m2] * 1117 := wrap_i (by omega) (by omega)
    have u4 : IntKind.i64.wrap ((k : Int) * 29) = (k : Int) * 29 := wrap_i (by omega) (by omega)
    have u5 : IntKind.i64.wrap (q : Int) = (q : Int) := wrap_i (by omega) (by omega)
    have u6 : IntKind.i64.wrap ((q : Int) * 53) = (q : Int) * 53 := wrap_i (by omega) (by omega)
    have u7 : IntKind.i64.wrap (bs[m1] * 131 + bs[m2] * 1117 + (k : Int) * 29) = bs[m1] * 131 + bs[m2] * 1117 + (k : Int) * 29 := wrap_i (by omega) (by omega)
    have u8 : IntKind.i64.wrap (bs[m1] * 131 + bs[m2] * 1117 + (k : Int) * 29 + (q : Int) * 53) = bs[m1] * 131 + bs[m2] * 1117 + (k : Int) * 29 + (q : Int) * 53 := wrap_i (by omega) (by omega)
    rw [q1, u1, u2, u3, u4, u5, u6, u7, u8]
    obtain ⟨X, hX⟩ : ∃ X : Int, X = bs[m1] * 131 + bs[m2] * 1117 + (k : Int) * 29 + (q : Int) * 53 := ⟨_, rfl⟩
    rw [← hX]
    have hX0 : 0 ≤ X ∧ X < 4611686018427387904 := by omega
    have u9 : IntKind.i64.wrap (X.tdiv 64) = X.tdiv 64 := by
      have : X.tdiv 64 = X / 64 := Int.tdiv_eq_ediv_of_nonneg hX0.1
      rw [this]; exact wrap_i (by omega) (by omega)
    have hY0 : 0 ≤ X.tdiv 64 ∧ X.tdiv 64 < 4611686018427387904 := by
      have : X.tdiv 64 = X / 64 := Int.tdiv_eq_ediv_of_nonneg hX0.1
      rw [this]; omega
    obtain ⟨v, e, v0, v1⟩ := xor_ok hX0 hY0
    rw [u9]
    exact ⟨v.tmod n, congrArg (fun z => AV.t (T.int IntKind.i64 (Int.tmod z n))) e, Int.tmod_nonneg _ v0, .inl (Int.tmod_lt_of_pos _ (by omega))⟩
theorem p_of : Plain Try.prog 57 := ⟨_, Try.func57, rfl, by decide⟩
abbrev strR (b : ByteArray) : List T := [.str b]
theorem s_of (bs : List Int) (p : Int) (xs : List ByteArray) (h : Drw bs p) (hx : 0 < xs.length ∧ xs.length ≤ 1000) : SpecO Try.prog 57 [.ptr 9000 0 0, .refw 9001] (dwH bs p ++ [(9001, .rows 1 (xs.map strR))])
    (fun r h' => (∃ b, r = .t (.str b) ∧ b ∈ xs) ∧ h' = dwH bs (p + 1) ++ [(9001, .rows 1 (xs.map strR))]) := by
  refine SpecO.of tysOk mixed Try.func57 rfl (by decide) ?_
  simp -implicitDefEqProofs only [go_sem, Try.f57, by8, List.cons_append, List.nil_append]
  refine CallW.o [(9000, 9000)] (s_pick bs p xs.length h (by omega)) p_pick o55 rfl (by conv => lhs; simp -implicitDefEqProofs only [go_sem]) (by simp -implicitDefEqProofs only [go_sem]) ?_
  rintro _ _ ⟨⟨v, rfl, h0, h1⟩, rfl⟩
  obtain ⟨k, rfl⟩ := Int.eq_ofNat_of_zero_le h0
  have h1 : k < xs.length := by omega
  have h1i : (k : Int) < xs.length := by omega
  simp -implicitDefEqProofs only [go_sem, by8, h0, h1i, row_getD _ _ h1]
  exact ⟨h1, _, rfl, List.getElem_mem _⟩
theorem p_oneI : Plain Try.prog 91 := ⟨_, Try.func91, rfl, by decide⟩
abbrev intR (n : Int) : List T := [.int .i64 n]
theorem s_oneI (bs : List Int) (p : Int) (xs : List Int) (h : Drw bs p) (hx : 0 < xs.length ∧ xs.length ≤ 1000) : SpecO Try.prog 91 [.ptr 9000 0 0, .refw 9001] (dwH bs p ++ [(9001, .rows 1 (xs.map intR))])
    (fun r h' => (∃ b, r = I b ∧ b ∈ xs) ∧ h' = dwH bs (p + 1) ++ [(9001, .rows 1 (xs.map intR))]) := by
  refine SpecO.of tysOk mixed Try.func91 rfl (by decide) ?_
  simp -implicitDefEqProofs only [go_sem, Try.f91, by8, List.cons_append, List.nil_append]
  refine CallW.o [(9000, 9000)] (s_pick bs p xs.length h (by omega)) p_pick o55 rfl (by conv => lhs; simp -implicitDefEqProofs only [go_sem]) (by simp -implicitDefEqProofs only [go_sem]) ?_
  rintro _ _ ⟨⟨v, rfl, h0, h1⟩, rfl⟩
  obtain ⟨k, rfl⟩ := Int.eq_ofNat_of_zero_le h0
  have h1 : k < xs.length := by omega
  have h1i : (k : Int) < xs.length := by omega
  simp -implicitDefEqProofs only [go_sem, by8, h0, h1i, row_getD _ _ h1]
  exact ⟨h1, _, rfl, List.getElem_mem _⟩
theorem p_l1Open : Plain Try.prog 27 := ⟨_, Try.func27, rfl, by decide⟩
theorem s_l1Open (bs : List Int) (hb : ∀ x ∈ bs, 0 ≤ x ∧ x ≤ 255) (hl : bs.length ≤ 1048576) : ∃ cs, Drw cs 0 ∧ SpecB Try.prog 27 [by8 bs] [by8 cs, I 0] := by
  refine ⟨bs.take 2000, ⟨fun x hx => hb x (List.mem_of_mem_take hx), by simp; omega, by omega, by omega⟩, ?_⟩
  refine SpecB.of tysOk mixed Try.func27 rfl (by decide) rfl ?_
  simp -implicitDefEqProofs only [go_sem, Try.f27]
  refine BrA_i (fun h1 => ?_) (fun h1 => ?_) <;> simp -implicitDefEqProofs only [go_sem]
  · have e : List.take (Int.toNat 2000 - Int.toNat 0) (List.drop (Int.toNat 0) (List.map (fun b => [T.int IntKind.u8 b]) bs)) = (bs.take 2000).map fun b => [T.int IntKind.u8 b] := by
      show List.take 2000 (List.map _ bs) = _
      rw [List.map_take]
    rw [e]
    have h1 := of_decide_eq_true h1
    exact ⟨by omega, 2, 80, rfl, rfl, by decide, rfl⟩
  · have h1 := of_decide_eq_false h1
    have e : bs.take 2000 = bs := List.take_of_length_le (by omega)
    rw [e]
    exact ⟨2, 80, rfl, rfl, by decide, rfl⟩
theorem p_l1Many : Plain Try.prog 113 := ⟨_, Try.func113, rfl, by decide⟩
theorem s_l1Many (s : ByteArray) (n : Nat) (hs : s.size ≤ 1) (hn : n < 100) : Spec Try.prog 113 [.t (.str s), I n] (fun r => ∃ b, r = .t (.str b) ∧ b.size ≤ 1000 ∧ ∀ c ∈ b.data.toList, c ∈ s.data.toList) := by
  obtain ⟨s0, hs0⟩ : ∃ s0 : ByteArray, s0 = s := ⟨_, rfl⟩
  rw [← hs0]
  refine Spec.of tysOk mixed Try.func113 rfl (by decide) ?_
  simp -implicitDefEqProofs only [go_sem, Try.f113]
  refine LoopW.slotsM [true, true, false, false, false, true, false, false, false, false, false, false, false, false, false, false, false, false, false, false] (α := ByteArray × Nat × ByteArray × Nat) (fun x => [(0, .t (.str x.1)), (1, I x.2.1), (5, .t (.str x.2.2.1))]) (fun _ => []) (fun x => x.2.1) (fun x => x.2.2.1.size ≤ x.1.size ∧ x.2.1 < 2 ^ x.2.2.2 ∧ x.1.size * 2 ^ x.2.2.2 ≤ 1000 ∧ x.2.1 < 100 ∧ (∀ c ∈ x.1.data.toList, c ∈ s0.data.toList) ∧ ∀ c ∈ x.2.2.1.data.toList, c ∈ s0.data.toList) (s0, n, ⟨#[]⟩, 7) (by simp -implicitDefEqProofs only [go_sem, LeTs_undef, LeTs_same, LeTs_nil]; try simp [LeTs]) rfl ⟨Nat.zero_le _, (show n < 2 ^ 7 by omega), (show s0.size * 2 ^ 7 ≤ 1000 by rw [hs0]; omega), hn, fun _ h => h, fun _ h => (by cases h)⟩ ?_
  clear hs0 hs s
  rintro ⟨s, n, o, f⟩ ⟨h1, h2, h3, h8, h9, h10⟩
  simp only at h1 h2 h3 h8 h9 h10
  have hss9 : ∀ c ∈ (s ++ s).data.toList, c ∈ s0.data.toList := fun c hc => by
    rw [ByteArray.data_append, Array.toList_append, List.mem_append] at hc
    exact hc.elim (h9 c) (h9 c)
  have hos9 : ∀ c ∈ (o ++ s).data.toList, c ∈ s0.data.toList := fun c hc => by
    rw [ByteArray.data_append, Array.toList_append, List.mem_append] at hc
    exact hc.elim (h10 c) (h9 c)
  simp -implicitDefEqProofs only [go_sem]
  refine BrA_i (fun h => ?_) (fun h => ?_) <;> simp -implicitDefEqProofs only [go_sem]
  · have h : 0 < n := by simp at h; omega
    obtain ⟨f, rfl⟩ : ∃ g, f = g + 1 := ⟨f - 1, by cases f <;> simp at h2 ⊢; omega⟩
    rw [Nat.pow_succ] at h2 h3
    have h4 : s.size * 2 ≤ 1000 := by
      have := Nat.one_le_two_pow (n := f)
      have h5 : s.size * 2 * 1 ≤ s.size * 2 * 2 ^ f := Nat.mul_le_mul_left _ this
      have h6 : s.size * (2 ^ f * 2) = s.size * 2 * 2 ^ f := by rw [Nat.mul_comm (2 ^ f) 2, Nat.mul_assoc]
      omega
    have e1 : (n : Int).tmod 2 = ((n % 2 : Nat) : Int) := rfl
    have e2 : IntKind.i64.wrap ((n : Int).tdiv 2) = ((n / 2 : Nat) : Int) := by
      have h0 : (n : Int).tdiv 2 = ((n / 2 : Nat) : Int) := rfl
      rw [h0, wrap64 (by omega) (by omega)]
    have hss : (s ++ s).size = s.size + s.size := ByteArray.size_append
    have hos : (o ++ s).size = o.size + s.size := ByteArray.size_append
    have h7 : (s ++ s).size * 2 ^ f ≤ 1000 := by
      rw [hss]
      have : s.size * (2 ^ f * 2) = (s.size + s.size) * 2 ^ f := by rw [Nat.mul_comm (2 ^ f) 2, ← Nat.mul_assoc, Nat.mul_two]
      omega
    have m1 : (o.size : Int) + s.size ≤ strMax := by unfold strMax; omega
    have m2 : (s.size : Int) + s.size ≤ strMax := by unfold strMax; omega
    simp -implicitDefEqProofs only [go_sem, e1, e2, m1, m2]
    refine BrA_i (fun h => ?_) (fun h => ?_) <;> simp -implicitDefEqProofs only [go_sem, e1, e2, m1, m2]
    · refine .to [] (s ++ s, n / 2, o ++ s, f) rfl ?_ rfl (by show n / 2 < n; omega) ⟨by show (o ++ s).size ≤ (s ++ s).size; omega, by show n / 2 < 2 ^ f; omega, h7, by show n / 2 < 100; omega, hss9, hos9⟩
      simp -implicitDefEqProofs only [go_sem, LeTs_undef, LeTs_same, LeTs_nil]
    · refine .to [] (s ++ s, n / 2, o, f) rfl ?_ rfl (by show n / 2 < n; omega) ⟨by show o.size ≤ (s ++ s).size; omega, by show n / 2 < 2 ^ f; omega, h7, by show n / 2 < 100; omega, hss9, h10⟩
      simp -implicitDefEqProofs only [go_sem, LeTs_undef, LeTs_same, LeTs_nil]
  · refine ⟨o, rfl, ?_, h10⟩
    have := Nat.one_le_two_pow (n := f)
    have h5 : s.size * 1 ≤ s.size * 2 ^ f := Nat.mul_le_mul_left _ this
    omega
theorem p_l11Text : Plain Try.prog 97 := ⟨_, Try.func97, rfl, by decide⟩
theorem s_l11Text (bs : List Int) (p : Int) (h : Drw bs p) : SpecO Try.prog 97 [.ptr 9000 0 0] (dwH bs p)
    (fun r h' => (∃ b, r = .t (.str b) ∧ b.size ≤ 1000 ∧ ∀ c ∈ b.data.toList, c ≠ 102) ∧ h' = dwH bs (p + 1)) := by
  refine SpecO.of tysOk mixed Try.func97 rfl (by decide) ?_
  simp -implicitDefEqProofs only [go_sem, Try.f97]
  refine CallW.p (s_l1Many ⟨#[120]⟩ 40 (by decide) (by decide)) p_l1Many rfl rfl ?_
  rintro _ ⟨b, rfl, hb, hb2⟩
  simp -implicitDefEqProofs only [go_sem]
  refine CallW.o [(9000, 9000), (9001, 40)] (s_of bs p [⟨#[]⟩, ⟨#[97]⟩, ⟨#[98]⟩, ⟨#[99]⟩, ⟨#[53]⟩, ⟨#[45, 51]⟩, ⟨#[104, 101, 108, 108, 111]⟩, ⟨#[13, 10]⟩, ⟨#[255]⟩, b, ⟨#[57, 57, 57, 57, 57, 57, 57, 57, 57]⟩] h (by simp)) p_of o57 rfl (by (conv => lhs; simp -implicitDefEqProofs only [go_sem]) <;> rfl) (by (simp -implicitDefEqProofs only [go_sem]) <;> rfl) ?_
  rintro _ _ ⟨⟨c, rfl, hc⟩, rfl⟩
  simp -implicitDefEqProofs only [go_sem]
  refine ⟨c, rfl, ?_⟩
  have hb3 : ∀ c ∈ b.data.toList, c ≠ 102 := fun c hc => by
    have := hb2 c hc
    simp at this
    subst this
    decide
  simp only [List.mem_cons, List.not_mem_nil, or_false] at hc
  rcases hc with rfl | rfl | rfl | rfl | rfl | rfl | rfl | rfl | rfl | rfl | rfl <;> first | exact ⟨hb, hb3⟩ | decide
end Go.Proofs.Ytaajnbfnaoecnaa.Am
namespace Go.Proofs.Ytaajnbfnaoecnaa.Am
open Go
set_option maxRecDepth 100000
set_option linter.unusedSimpArgs false
set_option linter.unusedVariables false
def dig (n : Nat) : ByteArray := ⟨#[UInt8.ofNat (IntKind.u8.wrap (48 + (n : Int))).toNat]⟩
def mtL (n : Nat) (out : ByteArray) : ByteArray := if h : n = 0 then out else mtL (n / 10) (dig (n % 10) ++ out)
termination_by n
decreasing_by omega
def mt (k : Int) : ByteArray := if k ≤ 0 then "m0".toUTF8 else "m".toUTF8 ++ mtL k.toNat .empty
end Go.Proofs.Ytaajnbfnaoecnaa.Am
namespace Go.Proofs.Ytaajnbfnaoecnaa.Am
open Go
set_option maxRecDepth 100000
set_option linter.unusedSimpArgs false
set_option linter.unusedVariables false
def Pr.mw (x : Pr) : Nat := 2
def Pr.m (x : Pr) (k : Int) : Pr := ⟨mt (k), mt (k + 1)⟩
def It.mw (x : It) : Nat := 2 + wSum Pr.mw x.fields
def It.m (x : It) (k : Int) : It := ⟨⟨k, k + 1⟩, mkAll Pr.m Pr.mw x.fields (k + 2)⟩
def Wt.mw (x : Wt) : Nat := 5
def Wt.m (x : Wt) (k : Int) : Wt := ⟨⟨k, k + 1⟩, mt (k + 2), k + 3, k + 4⟩
def Gr.mw (x : Gr) : Nat := 3 + wSum Wt.mw x.waits
def Gr.m (x : Gr) (k : Int) : Gr := ⟨mt (k), ⟨k + 1, k + 2⟩, mkAll Wt.m Wt.mw x.waits (k + 3)⟩
end Go.Proofs.Ytaajnbfnaoecnaa.Am
namespace Go.Proofs.Ytaajnbfnaoecnaa.Am
open Go
set_option maxRecDepth 100000
set_option linter.unusedSimpArgs false
set_option linter.unusedVariables false
theorem shared_Pr (xs : List Pr) : sharedRows (xs.map Pr.row) = xs.map Pr.row := by
  unfold sharedRows
  rw [List.map_map]
  exact List.map_congr_left fun x _ => rfl
theorem shared_Wt (xs : List Wt) : sharedRows (xs.map Wt.row) = xs.map Wt.row := by
  unfold sharedRows
  rw [List.map_map]
  exact List.map_congr_left fun x _ => rfl
theorem p_copiedPairs : Plain Try.prog 72 := ⟨_, Try.func72, rfl, by decide⟩
theorem s_copiedPairs (xs : List Pr) (hx : xs.length ≤ 2097152) : Spec Try.prog 72 [.t (.list false 2 (xs.map Pr.row))] (fun r => r = .own (.list true 2 (xs.map Pr.row))) := by
  refine Spec.of tysOk mixed Try.func72 rfl (by decide) ?_
  simp -implicitDefEqProofs only [go_sem, Try.f72, shared_Pr]
  (unfold roomy; omega)
theorem p_cloneWaits : Plain Try.prog 64 := ⟨_, Try.func64, rfl, by decide⟩
theorem s_cloneWaits (xs : List Wt) (hx : xs.length ≤ 2097152) : Spec Try.prog 64 [.t (.list false 5 (xs.map Wt.row))] (fun r => r = .own (.list true 5 (xs.map Wt.row))) := by
  refine Spec.of tysOk mixed Try.func64 rfl (by decide) ?_
  simp -implicitDefEqProofs only [go_sem, Try.f64, shared_Wt]
  (unfold roomy; omega)
theorem p_cloneItems : Plain Try.prog 32 := ⟨_, Try.func32, rfl, by decide⟩
theorem s_cloneItems (xs : List It) (hx : xs.length ≤ 2097152) (hs : ∀ x ∈ xs, x.fields.length ≤ 2097152) : Spec Try.prog 32 [.t (.list false 3 (xs.map It.row))] (fun r => r = .own (.list true 3 (xs.map It.rowO))) := by
  refine Spec.of tysOk mixed Try.func32 rfl (by decide) ?_
  simp -implicitDefEqProofs only [go_sem, Try.f32]
  refine LoopW.slotsL (α := Nat) (fun i => [(9, I i), (6, .undef)]) (fun i => [(48, .rows 3 ((xs.take i).map It.rowO))]) (fun i => xs.length - i) (fun i => i ≤ xs.length) 0 (by simp -implicitDefEqProofs only [go_sem, LeTs_undef, LeTs_same, LeTs_nil]; simp [LeTs]) rfl (by omega) ?_
  intro i hi
  simp -implicitDefEqProofs only [go_sem]
  refine BrA_i (fun h => ?_) (fun h => ?_)
  · have h : i < xs.length := by simp at h; omega
    have hw1 : IntKind.i64.wrap ((i : Int) + 1) = ((i + 1 : Nat) : Int) := by rw [wrap64 (by omega) (by omega)]; omega
    simp -implicitDefEqProofs only [go_sem, row_getD _ _ h, It.row]
    refine ⟨⟨by omega, by omega⟩, ?_⟩
    refine RegD_of sch_32_5 tysOk (by kernel_rfl) ?_
    simp -implicitDefEqProofs only [go_sem]
    refine .onep (s_copiedPairs xs[i].fields (hs _ (List.getElem_mem _))) p_copiedPairs (by simp -implicitDefEqProofs only [go_sem]) rfl ?_
    simp -implicitDefEqProofs only [go_sem]
    have e : (xs.take (i + 1)).map It.rowO = (xs.take i).map It.rowO ++ [[T.int .i64 xs[i].id.t, T.int .i64 xs[i].id.n, T.list true 2 (xs[i].fields.map Pr.row)]] := by
      rw [List.take_succ_eq_append_getElem h, List.map_append]; rfl
    refine ⟨by unfold roomy; simp; omega, .to [40] (i + 1) rfl ?_ ?_ (by omega) h⟩ <;> simp -implicitDefEqProofs only [go_sem, LeTs_undef, LeTs_same, LeTs_nil, hw1, e]
  · simp -implicitDefEqProofs only [go_sem]
    have h : i = xs.length := by simp at h; omega
    subst h
    rw [List.take_length]
    try exact ⟨by decide, rfl⟩
end Go.Proofs.Ytaajnbfnaoecnaa.Am
namespace Go.Proofs.Ytaajnbfnaoecnaa.Am
open Go
set_option maxRecDepth 100000
set_option linter.unusedSimpArgs false
set_option linter.unusedVariables false
abbrev Stm.avO (x : Stm) : AV := .agg [I x.last.t, I x.last.n, .own (.list true 3 (x.items.map It.rowO)), .own (.list true 4 (x.groups.map Gr.rowO))]
def Stm.md (s : Stm) : Prop := s.items.length ≤ 1048576 ∧ s.groups.length ≤ 1048576 ∧ (∀ i ∈ s.items, i.fields.length ≤ 1048576) ∧ ∀ g ∈ s.groups, g.waits.length ≤ 1048576
theorem p_cloneStream : Plain Try.prog 30 := ⟨_, Try.func30, rfl, by decide⟩
theorem s_cloneStream (s : Stm) (hs : s.md) : Spec Try.prog 30 [s.av] (fun r => r = s.avO) := by
  obtain ⟨hs1, hs2, hs3, hs4⟩ := hs
  refine Spec.of tysOk mixed Try.func30 rfl (by decide) ?_
  simp -implicitDefEqProofs only [go_sem, Try.f30]
  (first | refine RegD_to sch_30_1 ?sx tysOk (by decide +kernel) ?ga ?gb | refine RegD_to sch_30_5 ?sx tysOk (by decide +kernel) ?ga ?gb)
  case ga =>
    simp -implicitDefEqProofs only [go_sem]
    repeat' (first
      | (refine CallW.onep (s_cloneItems s.items (by omega) (fun x hx => by have := hs3 x hx; omega)) p_cloneItems (by simp -implicitDefEqProofs only [go_sem]) rfl ?_; simp -implicitDefEqProofs only [go_sem])
      | exact rfl
      | refine ⟨?_, ?_⟩)
  simp -implicitDefEqProofs only [go_sem]
  refine LoopW.slotsM [false, false, true, true, false, false, false, false, false, false, false, false, false, false, true, true, true, false, false, false, false, false, false, false, false, false, false, false, false, false, false, false, false, false, false] (α := Nat) (fun i => [(16, I i)]) (fun i => [(88, .rows 4 ((s.groups.take i).map Gr.rowO))]) (fun i => s.groups.length - i) (fun i => i ≤ s.groups.length) 0 (by simp -implicitDefEqProofs only [go_sem, LeTs_undef, LeTs_same, LeTs_nil]; try simp [LeTs]) (by simp -implicitDefEqProofs only [go_sem, List.take_zero]) (by omega) ?_
  intro i hi
  simp -implicitDefEqProofs only [go_sem]
  refine BrA_i (fun h => ?_) (fun h => ?_) <;> simp -implicitDefEqProofs only [go_sem]
  · have h : i < s.groups.length := by simp at h; omega
    have h0i : (0 : Int) ≤ i := by omega
    have h1i : (i : Int) < s.groups.length := by omega
    have wi : IntKind.i64.wrap ((i : Int) + 1) = ((i + 1 : Nat) : Int) := by rw [wrap64 (by omega) (by omega)]; omega
    have hf := hs4 _ (List.getElem_mem h)
    have e : (s.groups.take (i + 1)).map Gr.rowO = (s.groups.take i).map Gr.rowO ++ [[T.str s.groups[i].name, T.int .i64 s.groups[i].last.t, T.int .i64 s.groups[i].last.n, T.list true 5 (s.groups[i].waits.map Wt.row)]] := by
      rw [List.take_succ_eq_append_getElem h, List.map_append]; rfl
    simp -implicitDefEqProofs only [go_sem, h, h0i, h1i, row_getD _ _ h, Gr.row]
    (first | refine RegD_of sch_30_1 tysOk (by decide +kernel) ?_ | refine RegD_of sch_30_5 tysOk (by decide +kernel) ?_)
    simp -implicitDefEqProofs only [go_sem]
    refine CallW.onep (s_cloneWaits s.groups[i].waits (by omega)) p_cloneWaits (by simp -implicitDefEqProofs only [go_sem]) rfl ?_
    simp -implicitDefEqProofs only [go_sem, wi]
    refine ⟨by unfold roomy; simp; omega, .to [40, 240, 248, 225, 226, 227] (i + 1) rfl ?_ ?_ (by omega) h⟩ <;> simp -implicitDefEqProofs only [go_sem, LeTs_undef, LeTs_same, LeTs_nil, e]
  · have h : i = s.groups.length := by simp at h; omega
    subst h
    simp -implicitDefEqProofs only [go_sem, List.take_length]
theorem p_l9Item : Plain Try.prog 73 := ⟨_, Try.func73, rfl, by decide⟩
theorem s_l9Item (x : It) (hx : x.fields.length ≤ 2097152) : Spec Try.prog 73 [x.av] (fun r => r = .agg [I x.id.t, I x.id.n, .own (.list true 2 (x.fields.map Pr.row))]) := by
  refine Spec.of tysOk mixed Try.func73 rfl (by decide) ?_
  simp -implicitDefEqProofs only [go_sem, Try.f73]
  (first | refine RegD_of sch_73_1 tysOk (by decide +kernel) ?_)
  simp -implicitDefEqProofs only [go_sem, shared_Pr]
  (unfold roomy; omega)
theorem p_l9Copy : Plain Try.prog 34 := ⟨_, Try.func34, rfl, by decide⟩
theorem s_l9Copy (s : Stm) (hs : s.md) : Spec Try.prog 34 [s.av] (fun r => r = s.avO) := by
  obtain ⟨hs1, hs2, hs3, hs4⟩ := hs
  refine Spec.of tysOk mixed Try.func34 rfl (by decide) ?_
  simp -implicitDefEqProofs only [go_sem, Try.f34]
  refine LoopW.nil [(24, 2, 208, 3), (24, 3, 392, 4)] (by conv => lhs; simp -implicitDefEqProofs only [go_sem]) ?_
  refine LoopW.slotsM [false, true, true, true, true, false, false, false, false, false, false, false, false, false, false, false, false, false, false, false, false, false, false, false, false, false, false, false, false, false, false, false, false, false, false, false, false, false, false, false, false, false, false, false, false, false, false, false, false, false, false, false] (α := Nat) (fun i => [(4, I i)]) (fun i => [(208, .rows 3 ((s.items.take i).map It.rowO))]) (fun i => s.items.length - i) (fun i => i ≤ s.items.length) 0 (by simp -implicitDefEqProofs only [go_sem, LeTs_undef, LeTs_same, LeTs_nil]; try simp [LeTs]) (by simp -implicitDefEqProofs only [go_sem, List.take_zero, List.map_nil]) (by omega) ?_
  intro i hi
  simp -implicitDefEqProofs only [go_sem]
  refine BrA_i (fun h => ?_) (fun h => ?_) <;> simp -implicitDefEqProofs only [go_sem]
  · have h : i < s.items.length := by simp at h; omega
    have h0i : (0 : Int) ≤ i := by omega
    have h1i : (i : Int) < s.items.length := by omega
    have wi : IntKind.i64.wrap ((i : Int) + 1) = ((i + 1 : Nat) : Int) := by rw [wrap64 (by omega) (by omega)]; omega
    have hf := hs3 _ (List.getElem_mem h)
    have e : (s.items.take (i + 1)).map It.rowO = (s.items.take i).map It.rowO ++ [[T.int .i64 s.items[i].id.t, T.int .i64 s.items[i].id.n, T.list true 2 (s.items[i].fields.map Pr.row)]] := by
      rw [List.take_succ_eq_append_getElem h, List.map_append]; rfl
    refine RegD_of sch_34_5 tysOk (by kernel_rfl) ?_
    simp -implicitDefEqProofs only [go_sem, h, h0i, h1i, row_getD _ _ h, It.row]
    refine CallW.onep (s_l9Item s.items[i] (by omega)) p_l9Item (by simp -implicitDefEqProofs only [go_sem]) rfl ?_
    simp -implicitDefEqProofs only [go_sem, wi]
    refine ⟨by unfold roomy; simp; omega, .to [200, 193, 194, 195] (i + 1) rfl ?_ ?_ (by omega) h⟩ <;> simp -implicitDefEqProofs only [go_sem, LeTs_undef, LeTs_same, LeTs_nil, e]
  · have h : i = s.items.length := by simp at h; omega
    subst h
    clear hi
    simp -implicitDefEqProofs only [go_sem, List.take_length]
    refine LoopW.slotsM [false, true, true, true, false, true, false, false, false, false, false, false, false, false, false, false, false, false, false, false, false, false, false, false, false, false, false, false, false, false, false, false, false, false, false, false, false, false, false, false, false, false, false, false, false, false, false, false, false, false, false, false] (α := Nat) (fun i => [(5, I i)]) (fun i => [(392, .rows 4 ((s.groups.take i).map Gr.rowO))]) (fun i => s.groups.length - i) (fun i => i ≤ s.groups.length) 0 (by simp -implicitDefEqProofs only [go_sem, LeTs_undef, LeTs_same, LeTs_nil]; try simp [LeTs]) (by simp -implicitDefEqProofs only [go_sem, List.take_zero, List.map_nil]) (by omega) ?_
    intro i hi
    simp -implicitDefEqProofs only [go_sem]
    refine BrA_i (fun h => ?_) (fun h => ?_) <;> simp -implicitDefEqProofs only [go_sem]
    · have h : i < s.groups.length := by simp at h; omega
      have h0i : (0 : Int) ≤ i := by omega
      have h1i : (i : Int) < s.groups.length := by omega
      have wi : IntKind.i64.wrap ((i : Int) + 1) = ((i + 1 : Nat) : Int) := by rw [wrap64 (by omega) (by omega)]; omega
      have hf := hs4 _ (List.getElem_mem h)
      have e : (s.groups.take (i + 1)).map Gr.rowO = (s.groups.take i).map Gr.rowO ++ [[T.str s.groups[i].name, T.int .i64 s.groups[i].last.t, T.int .i64 s.groups[i].last.n, T.list true 5 (s.groups[i].waits.map Wt.row)]] := by
        rw [List.take_succ_eq_append_getElem h, List.map_append]; rfl
      have hr : roomy s.groups[i].waits.length 48 := by unfold roomy; omega
      simp -implicitDefEqProofs only [go_sem, h, h0i, h1i, row_getD _ _ h, Gr.row, shared_Wt, hr, wi]
      refine ⟨by unfold roomy; simp; omega, .to [48, 320, 344, 384] (i + 1) rfl ?_ ?_ (by omega) h⟩ <;> simp -implicitDefEqProofs only [go_sem, LeTs_undef, LeTs_same, LeTs_nil, e]
    · have h : i = s.groups.length := by simp at h; omega
      subst h
      simp -implicitDefEqProofs only [go_sem, List.take_length]
end Go.Proofs.Ytaajnbfnaoecnaa.Am
namespace Go.Proofs.Ytaajnbfnaoecnaa.Am
open Go
set_option maxRecDepth 100000
set_option linter.unusedSimpArgs false
set_option linter.unusedVariables false
theorem s_isNaN (n : Int) : Spec Try.prog 101 [I n] (fun r => r = Bo false) := by
  refine Spec.of tysOk mixed Try.func101 rfl (by decide) ?_
  simp -implicitDefEqProofs only [go_sem, Try.f101]
theorem p_isNaN : Plain Try.prog 101 := ⟨_, Try.func101, rfl, by decide⟩
def cmpM (a b : Int) : Int := if a < b then -1 else if b < a then 1 else 0
theorem s_compare (a b : Int) : Spec Try.prog 77 [I a, I b] (fun r => r = I (cmpM a b)) := by
  refine Spec.of tysOk mixed Try.func77 rfl (by decide) ?_
  simp -implicitDefEqProofs only [go_sem, Try.f77]
  refine .one (s_isNaN _) p_isNaN rfl trivial ?_
  simp -implicitDefEqProofs only [go_sem]
  refine .one (s_isNaN _) p_isNaN rfl trivial ?_
  simp -implicitDefEqProofs only [go_sem]
  refine BrA_i (fun h => ?_) (fun h => ?_)
  · simp -implicitDefEqProofs only [go_sem]; simp_all [cmpM]
  · simp -implicitDefEqProofs only [go_sem]
    refine BrA_i (fun h => ?_) (fun h => ?_) <;> simp -implicitDefEqProofs only [go_sem] <;> simp_all [cmpM] <;> omega
theorem p_compare : Plain Try.prog 77 := ⟨_, Try.func77, rfl, by decide⟩
def firstM (xs : List Int) : Int := (xs.find? (· != 0)).getD 0
theorem s_or (xs : List Int) (hx : xs.length < 1000000) : Spec Try.prog 76 [.t (.list false 1 (xs.map fun n => [T.int .i64 n]))] (fun r => r = I (firstM xs)) := by
  refine Spec.of tysOk mixed Try.func76 rfl (by decide) ?_
  simp -implicitDefEqProofs only [go_sem, Try.f76]
  refine LoopW.slots (α := Nat) (fun i => [(8, I i)]) (fun _ => []) (fun i => xs.length - i) (fun i => i ≤ xs.length ∧ (∀ n ∈ xs.take i, n = 0)) 0 rfl rfl (by simp) ?_
  rintro i ⟨hi, hz⟩
  simp -implicitDefEqProofs only [go_sem]
  refine BrA_i (fun h => ?_) (fun h => ?_)
  · have h : i < xs.length := by simp at h; omega
    simp -implicitDefEqProofs only [go_sem, row_getD _ _ h]
    refine ⟨⟨by omega, by omega⟩, BrA_i (fun h0 => ?_) (fun h0 => ?_)⟩
    rotate_left
    · simp -implicitDefEqProofs only [go_sem]
      have hz' : ∀ n ∈ xs.take i, ¬ ((n != 0) = true) := fun n hn => by simp [hz n hn]
      have : xs = xs.take i ++ xs[i] :: xs.drop (i + 1) := by simp
      have h0 : (xs[i] != 0) = true := by simpa using h0
      have h1 : xs.find? (· != 0) = some xs[i] := by
        rw [List.find?_eq_some_iff_append]
        exact ⟨h0, _, _, this, fun n hn => by simp [hz n hn]⟩
      unfold firstM; rw [h1]; rfl
    · simp -implicitDefEqProofs only [go_sem]
      refine .to [] (i + 1) rfl ?_ rfl (by omega) ⟨h, ?_⟩
      · simp -implicitDefEqProofs only [go_sem, LeTs_undef, LeTs_same]
        simp only [wrap64 (n := (i : Int) + 1) (by omega) (by omega)]
        simp [LeTs]
      · intro n hn
        simp at h0
        rw [List.take_succ_eq_append_getElem h, List.mem_append, List.mem_singleton] at hn
        rcases hn with hn | hn
        · exact hz n hn
        · rw [hn]; exact h0
  · simp -implicitDefEqProofs only [go_sem]
    have h : i = xs.length := by simp at h; omega
    subst h
    have : xs.find? (· != 0) = none := List.find?_eq_none.2 fun n hn => by simp [hz n (by simpa using hn)]
    simp [firstM, this]
theorem p_or : Plain Try.prog 76 := ⟨_, Try.func76, rfl, by decide⟩
def ordM (a b c d : Int) : Int := if cmpM a c = 0 then cmpM b d else cmpM a c
theorem find2 (x y : Int) : firstM [x, y] = if x = 0 then y else x := by
  unfold firstM
  by_cases h : x = 0 <;> by_cases h' : y = 0 <;> simp [List.find?_cons, h, h', bne]
  all_goals (split <;> simp_all)
theorem s_idOrder (a b c d : Int) : Spec Try.prog 41 [.agg [I a, I b], .agg [I c, I d]] (fun r => r = I (ordM a b c d)) := by
  refine Spec.of tysOk mixed Try.func41 rfl (by decide) ?_
  simp -implicitDefEqProofs only [go_sem, Try.f41]
  refine RegD_of sch_41_1 tysOk (by kernel_rfl) ?_
  simp -implicitDefEqProofs only [go_sem]
  refine .one (s_compare _ _) p_compare rfl trivial ?_
  simp -implicitDefEqProofs only [go_sem]
  refine .one (s_compare _ _) p_compare rfl trivial ?_
  simp -implicitDefEqProofs only [go_sem]
  refine .one (s_or [cmpM a c, cmpM b d] (by simp)) p_or rfl trivial ?_
  simp -implicitDefEqProofs only [go_sem]
  rw [find2]; rfl
theorem p_idOrder : Plain Try.prog 41 := ⟨_, Try.func41, rfl, by decide⟩
theorem s_IdLess (a b c d : Int) : Spec Try.prog 25 [.agg [I a, I b], .agg [I c, I d]] (fun r => r = Bo (decide (ordM a b c d < 0))) := by
  refine Spec.of tysOk mixed Try.func25 rfl (by decide) ?_
  simp -implicitDefEqProofs only [go_sem, Try.f25]
  refine .one (s_idOrder _ _ _ _) p_idOrder rfl trivial ?_
  simp -implicitDefEqProofs only [go_sem]
theorem p_IdLess : Plain Try.prog 25 := ⟨_, Try.func25, rfl, by decide⟩
def withinM (n lo hi : Int) : Bool := decide (lo ≤ n) && decide (n ≤ hi)
theorem s_within (n lo hi : Int) : Spec Try.prog 63 [I n, I lo, I hi] (fun r => r = Bo (withinM n lo hi)) := by
  refine Spec.of tysOk mixed Try.func63 rfl (by decide) ?_
  simp -implicitDefEqProofs only [go_sem, Try.f63]
  refine BrA_i (fun h => ?_) (fun h => ?_) <;> simp -implicitDefEqProofs only [go_sem] <;> simp_all [withinM] <;> omega
theorem p_within : Plain Try.prog 63 := ⟨_, Try.func63, rfl, by decide⟩
def keyOkM (b : ByteArray) : Bool := withinM b.size 1 12
theorem s_keyOk (b : ByteArray) : Spec Try.prog 62 [.t (.str b)] (fun r => r = Bo (keyOkM b)) := by
  refine Spec.of tysOk mixed Try.func62 rfl (by decide) ?_
  simp -implicitDefEqProofs only [go_sem, Try.f62]
  refine .one (s_within _ _ _) p_within rfl trivial ?_
  simp -implicitDefEqProofs only [go_sem]
  rfl
theorem p_keyOk : Plain Try.prog 62 := ⟨_, Try.func62, rfl, by decide⟩
def idOkM (a b : Int) : Bool := withinM a 0 1000000 && withinM b 0 1000000000
theorem s_idOk (a b : Int) : Spec Try.prog 40 [.agg [I a, I b]] (fun r => r = Bo (idOkM a b)) := by
  refine Spec.of tysOk mixed Try.func40 rfl (by decide) ?_
  simp -implicitDefEqProofs only [go_sem, Try.f40]
  refine .one (s_within _ _ _) p_within rfl trivial ?_
  simp -implicitDefEqProofs only [go_sem]
  refine BrA_i (fun h => ?_) (fun h => ?_)
  · simp -implicitDefEqProofs only [go_sem]
    refine .one (s_within _ _ _) p_within rfl trivial ?_
    simp -implicitDefEqProofs only [go_sem]
    simp [idOkM, h]
  · simp -implicitDefEqProofs only [go_sem]
    simp [idOkM, h]
theorem p_idOk : Plain Try.prog 40 := ⟨_, Try.func40, rfl, by decide⟩
def okAt (lt ln : Int) (ws : List Wt) (i : Nat) (x : Wt) : Bool :=
  idOkM x.id.t x.id.n && (match i with | 0 => true | j + 1 => match ws[j]? with | some y => decide (ordM y.id.t y.id.n x.id.t x.id.n < 0) | none => true) && !decide (ordM lt ln x.id.t x.id.n < 0) && keyOkM x.who && withinM x.at' 0 1000000 && withinM x.tm 1 1000000000
theorem s_groupOk (name : ByteArray) (lt ln : Int) (ws : List Wt) (hw : ws.length < 2000000) : Spec Try.prog 43 [.agg [.t (.str name), I lt, I ln, .t (.list false 5 (ws.map Wt.row))]]
    (fun r => ∃ b, r = Bo b ∧ b = (decide (∀ i (h : i < ws.length), okAt lt ln ws i ws[i] = true) && keyOkM name && idOkM lt ln && decide (ws.length ≤ 16))) := by
  refine Spec.of tysOk mixed Try.func43 rfl (by decide) ?_
  simp -implicitDefEqProofs only [go_sem, Try.f43]
  refine LoopW.slots (α := Nat) (fun i => [(8, I i)]) (fun _ => []) (fun i => ws.length - i) (fun i => i ≤ ws.length ∧ (∀ j (h : j < ws.length), j < i → okAt lt ln ws j ws[j] = true)) 0 rfl rfl (by simp) ?_
  rintro i ⟨hi, hz⟩
  simp -implicitDefEqProofs only [go_sem]
  refine BrA_i (fun h => ?_) (fun h => ?_)
  · have h : i < ws.length := by simp at h; omega
    simp -implicitDefEqProofs only [go_sem, row_getD _ _ h, Wt.row]
    refine ⟨⟨by omega, by omega⟩, ?_⟩
    refine RegD_of sch_43_4 tysOk (by kernel_rfl) ?_
    have hp : 0 < i → IntKind.i64.wrap ((i : Int) - 1) = ((i - 1 : Nat) : Int) := fun h0 => by rw [wrap64 (by omega) (by omega)]; omega
    have hq : 0 < i → i - 1 < ws.length := fun _ => by omega
    have good : okAt lt ln ws i ws[i] = true → (∀ j (h : j < ws.length), j < i + 1 → okAt lt ln ws j ws[j] = true) := fun hg j hj hl => by
      rcases Nat.lt_succ_iff_lt_or_eq.1 hl with hl | rfl
      · exact hz j hj hl
      · exact hg
    have bad : okAt lt ln ws i ws[i] = false → (∃ b, Bo false = Bo b ∧ b = (decide (∀ i (h : i < ws.length), okAt lt ln ws i ws[i] = true) && keyOkM name && idOkM lt ln && decide (ws.length ≤ 16))) := fun hg => by
      refine ⟨_, rfl, ?_⟩
      have : ¬ ∀ i (h : i < ws.length), okAt lt ln ws i ws[i] = true := fun hall => by rw [hall i h] at hg; cases hg
      simp [this]
    have hw1 : IntKind.i64.wrap ((i : Int) + 1) = ((i + 1 : Nat) : Int) := by rw [wrap64 (by omega) (by omega)]; omega
    simp -implicitDefEqProofs only [go_sem]
    refine .one (s_idOk _ _) p_idOk rfl trivial ?_
    simp -implicitDefEqProofs only [go_sem]
    refine BrA_i (fun h1 => ?_) (fun h1 => ?_) <;> simp -implicitDefEqProofs only [go_sem]
    · refine BrA_i (fun h2 => ?_) (fun h2 => ?_) <;> simp -implicitDefEqProofs only [go_sem]
      · have h2 : 0 < i := by simpa using h2
        simp -implicitDefEqProofs only [go_sem, hp h2, row_getD _ _ (hq h2), Wt.row]
        refine ⟨⟨by omega, by omega⟩, ?_⟩
        refine .one (s_idOrder _ _ _ _) p_idOrder rfl trivial ?_
        simp -implicitDefEqProofs only [go_sem]
        refine BrA_i (fun h3 => ?_) (fun h3 => ?_) <;> simp -implicitDefEqProofs only [go_sem]
        · refine bad ?_
          obtain ⟨j, rfl⟩ : ∃ j, i = j + 1 := ⟨i - 1, by omega⟩
          have hj : ws[j]? = some ws[j] := List.getElem?_eq_getElem (by omega)
          simp only [Nat.add_sub_cancel, decide_eq_true_eq] at h3
          have : ¬ ordM ws[j].id.t ws[j].id.n ws[j + 1].id.t ws[j + 1].id.n < 0 := by omega
          simp [okAt, hj, this]
        have hprev : (match i with | 0 => true | j + 1 => match ws[j]? with | some y => decide (ordM y.id.t y.id.n ws[i].id.t ws[i].id.n < 0) | none => true) = true := by
          obtain ⟨j, rfl⟩ : ∃ j, i = j + 1 := ⟨i - 1, by omega⟩
          have hj : ws[j]? = some ws[j] := List.getElem?_eq_getElem (by omega)
          simp only [Nat.add_sub_cancel, decide_eq_false_iff_not] at h3
          have : ordM ws[j].id.t ws[j].id.n ws[j + 1].id.t ws[j + 1].id.n < 0 := by omega
          simp [hj, this]
        refine .one (s_IdLess _ _ _ _) p_IdLess rfl trivial ?_
        simp -implicitDefEqProofs only [go_sem]
        refine BrA_i (fun h4 => ?_) (fun h4 => ?_) <;> simp -implicitDefEqProofs only [go_sem]
        · exact bad (by simp [okAt, h4])
        refine .one (s_keyOk _) p_keyOk rfl trivial ?_
        simp -implicitDefEqProofs only [go_sem]
        refine BrA_i (fun h5 => ?_) (fun h5 => ?_) <;> simp -implicitDefEqProofs only [go_sem]
        · refine .one (s_within _ _ _) p_within rfl trivial ?_
          simp -implicitDefEqProofs only [go_sem]
          refine BrA_i (fun h6 => ?_) (fun h6 => ?_) <;> simp -implicitDefEqProofs only [go_sem]
          · refine .one (s_within _ _ _) p_within rfl trivial ?_
            simp -implicitDefEqProofs only [go_sem]
            refine BrA_i (fun h7 => ?_) (fun h7 => ?_) <;> simp -implicitDefEqProofs only [go_sem]
            · refine .to [32] (i + 1) rfl ?_ ?_ (by omega) ⟨h, good (by simp [okAt, h1, h4, h5, h6, h7, hprev])⟩ <;> simp -implicitDefEqProofs only [go_sem, LeTs_undef, LeTs_same, LeTs_nil, hw1]
            · exact bad (by simp [okAt, h7])
          · exact bad (by simp [okAt, h6])
        · exact bad (by simp [okAt, h5])
      · have h2 : i = 0 := by simp at h2; omega
        have hprev : (match i with | 0 => true | j + 1 => match ws[j]? with | some y => decide (ordM y.id.t y.id.n ws[i].id.t ws[i].id.n < 0) | none => true) = true := by subst h2; rfl
        refine .one (s_IdLess _ _ _ _) p_IdLess rfl trivial ?_
        simp -implicitDefEqProofs only [go_sem]
        refine BrA_i (fun h4 => ?_) (fun h4 => ?_) <;> simp -implicitDefEqProofs only [go_sem]
        · exact bad (by simp [okAt, h4])
        refine .one (s_keyOk _) p_keyOk rfl trivial ?_
        simp -implicitDefEqProofs only [go_sem]
        refine BrA_i (fun h5 => ?_) (fun h5 => ?_) <;> simp -implicitDefEqProofs only [go_sem]
        · refine .one (s_within _ _ _) p_within rfl trivial ?_
          simp -implicitDefEqProofs only [go_sem]
          refine BrA_i (fun h6 => ?_) (fun h6 => ?_) <;> simp -implicitDefEqProofs only [go_sem]
          · refine .one (s_within _ _ _) p_within rfl trivial ?_
            simp -implicitDefEqProofs only [go_sem]
            refine BrA_i (fun h7 => ?_) (fun h7 => ?_) <;> simp -implicitDefEqProofs only [go_sem]
            · refine .to [32] (i + 1) rfl ?_ ?_ (by omega) ⟨h, good (by simp [okAt, h1, h4, h5, h6, h7, hprev])⟩ <;> simp -implicitDefEqProofs only [go_sem, LeTs_undef, LeTs_same, LeTs_nil, hw1]
            · exact bad (by simp [okAt, h7])
          · exact bad (by simp [okAt, h6])
        · exact bad (by simp [okAt, h5])
    · exact bad (by simp [okAt, h1])
  · simp -implicitDefEqProofs only [go_sem]
    refine .one (s_keyOk _) p_keyOk rfl trivial ?_
    simp -implicitDefEqProofs only [go_sem]
    have hz' : ∀ i (h : i < ws.length), okAt lt ln ws i ws[i] = true := fun j hj => hz j hj (by simp at h; omega)
    refine BrA_i (fun h1 => ?_) (fun h1 => ?_) <;> simp -implicitDefEqProofs only [go_sem]
    · refine .one (s_idOk _ _) p_idOk rfl trivial ?_
      simp -implicitDefEqProofs only [go_sem]
      refine BrA_i (fun h2 => ?_) (fun h2 => ?_) <;> simp -implicitDefEqProofs only [go_sem]
      · refine ⟨_, rfl, ?_⟩
        simp [h1, h2, hz']
        omega
      · refine ⟨_, rfl, ?_⟩
        simp [h1, h2, hz']
    · refine ⟨_, rfl, ?_⟩
      simp [h1]
end Go.Proofs.Ytaajnbfnaoecnaa.Am
namespace Go.Proofs.Ytaajnbfnaoecnaa.Am
open Go
set_option maxRecDepth 100000
set_option linter.unusedSimpArgs false
set_option linter.unusedVariables false
theorem p_l1In : Plain Try.prog 74 := ⟨_, Try.func74, rfl, by decide⟩
theorem s_l1In (n lo hi : Int) : Spec Try.prog 74 [I n, I lo, I hi] (fun r => r = Bo (withinM n lo hi)) := by
  refine Spec.of tysOk mixed Try.func74 rfl (by decide) ?_
  simp -implicitDefEqProofs only [go_sem, Try.f74]
  refine BrA_i (fun h => ?_) (fun h => ?_) <;> simp -implicitDefEqProofs only [go_sem] <;> simp_all [withinM] <;> omega
theorem p_l4Key : Plain Try.prog 75 := ⟨_, Try.func75, rfl, by decide⟩
theorem s_l4Key (b : ByteArray) : Spec Try.prog 75 [.t (.str b)] (fun r => r = Bo (keyOkM b)) := by
  refine Spec.of tysOk mixed Try.func75 rfl (by decide) ?_
  simp -implicitDefEqProofs only [go_sem, Try.f75]
  refine .one (s_l1In _ _ _) p_l1In rfl trivial ?_
  simp -implicitDefEqProofs only [go_sem]
  rfl
theorem p_l9Id : Plain Try.prog 36 := ⟨_, Try.func36, rfl, by decide⟩
theorem s_l9Id (a b : Int) : Spec Try.prog 36 [.agg [I a, I b]] (fun r => r = Bo (idOkM a b)) := by
  refine Spec.of tysOk mixed Try.func36 rfl (by decide) ?_
  simp -implicitDefEqProofs only [go_sem, Try.f36]
  refine .one (s_l1In _ _ _) p_l1In rfl trivial ?_
  simp -implicitDefEqProofs only [go_sem]
  refine BrA_i (fun h => ?_) (fun h => ?_) <;> simp -implicitDefEqProofs only [go_sem]
  · refine .one (s_l1In _ _ _) p_l1In rfl trivial ?_
    simp -implicitDefEqProofs only [go_sem]
    simp [idOkM, h]
  · simp [idOkM, h]
theorem ordM_lt (a b c d : Int) : ordM a b c d < 0 ↔ a < c ∨ (a = c ∧ b < d) := by
  unfold ordM cmpM
  split <;> split <;> (try split) <;> (try split) <;> omega
theorem p_sIdLess : Plain Try.prog 37 := ⟨_, Try.func37, rfl, by decide⟩
theorem s_sIdLess (a b c d : Int) : Spec Try.prog 37 [.agg [I a, I b], .agg [I c, I d]] (fun r => r = Bo (decide (ordM a b c d < 0))) := by
  refine Spec.of tysOk mixed Try.func37 rfl (by decide) ?_
  have e := ordM_lt a b c d
  simp -implicitDefEqProofs only [go_sem, Try.f37]
  refine BrA_i (fun h => ?_) (fun h => ?_) <;> simp -implicitDefEqProofs only [go_sem]
  · simp at h; simp [e, h]
  refine BrA_i (fun h1 => ?_) (fun h1 => ?_) <;> simp -implicitDefEqProofs only [go_sem]
  · simp at h h1; subst h1; simp [e]
  · simp at h h1
    have : ¬ a < c := by omega
    simp [e, h1, this]
end Go.Proofs.Ytaajnbfnaoecnaa.Am
namespace Go.Proofs.Ytaajnbfnaoecnaa.Am
open Go
set_option maxRecDepth 100000
set_option linter.unusedSimpArgs false
set_option linter.unusedVariables false
def allAt {α : Type} (good : α → Bool) (link : α → α → Bool) (xs : List α) : Bool := xs.all good && (xs.zip xs.tail).all fun p => link p.1 p.2
def goodAt {α : Type} (good : α → Bool) (link : α → α → Bool) (xs : List α) (i : Nat) : Bool :=
  match xs[i]? with
  | none => true
  | some x => good x && match i with
    | 0 => true
    | j + 1 => match xs[j]? with
      | none => true
      | some y => link y x
theorem allAt_iff {α : Type} (good : α → Bool) (link : α → α → Bool) (xs : List α) : allAt good link xs = true ↔ ∀ i, i < xs.length → goodAt good link xs i = true := by
  unfold allAt
  rw [Bool.and_eq_true, List.all_eq_true, List.all_eq_true]
  constructor
  · rintro ⟨h1, h2⟩ i hi
    unfold goodAt
    rw [List.getElem?_eq_getElem hi]
    simp only [Bool.and_eq_true]
    refine ⟨h1 _ (List.getElem_mem _), ?_⟩
    cases i with
    | zero => rfl
    | succ j =>
      have hj : j < xs.length := by omega
      simp only [List.getElem?_eq_getElem hj]
      refine h2 (xs[j], xs[j + 1]) ?_
      rw [List.mem_iff_getElem]
      refine ⟨j, by simp; omega, ?_⟩
      simp
  · intro h
    refine ⟨fun x hx => ?_, fun p hp => ?_⟩
    · obtain ⟨i, hi, rfl⟩ := List.mem_iff_getElem.1 hx
      have := h i hi
      unfold goodAt at this
      rw [List.getElem?_eq_getElem hi] at this
      simp only [Bool.and_eq_true] at this
      exact this.1
    · obtain ⟨j, hj, rfl⟩ := List.mem_iff_getElem.1 hp
      simp at hj
      have := h (j + 1) (by omega)
      unfold goodAt at this
      rw [List.getElem?_eq_getElem (show j + 1 < xs.length by omega)] at this
      simp only [Bool.and_eq_true, List.getElem?_eq_getElem (show j < xs.length by omega)] at this
      simpa using this.2
theorem goodAt_0 {α : Type} (good : α → Bool) (link : α → α → Bool) (xs : List α) {i : Nat} (h : i < xs.length) (h0 : i = 0) : goodAt good link xs i = good xs[i] := by
  subst h0
  simp [goodAt, h]
theorem goodAt_s {α : Type} (good : α → Bool) (link : α → α → Bool) (xs : List α) {i : Nat} (h : i < xs.length) (h0 : 0 < i) : goodAt good link xs i = (good xs[i] && link (xs[i - 1]'(by omega)) xs[i]) := by
  obtain ⟨j, rfl⟩ : ∃ j, i = j + 1 := ⟨i - 1, by omega⟩
  have hj : j < xs.length := by omega
  simp [goodAt, h, hj]
theorem goodAt_no {α : Type} (good : α → Bool) (link : α → α → Bool) (xs : List α) {i : Nat} (h : i < xs.length) (hg : good xs[i] = false) : goodAt good link xs i = false := by
  simp [goodAt, h, hg]
theorem p_FieldsOk : Plain Try.prog 78 := ⟨_, Try.func78, rfl, by decide⟩
def prGood (x : Pr) : Bool := decide (x.k.size ≤ 40) && decide (x.v.size ≤ 40)
def prLink (x y : Pr) : Bool := bytesLt x.k y.k
def fieldsOkM (xs : List Pr) : Bool := allAt prGood prLink xs && decide (xs.length ≤ 16)
theorem s_FieldsOk (xs : List Pr) (hx : xs.length < 4611686018427387904) : Spec Try.prog 78 [.t (.list false 2 (xs.map Pr.row))] (fun r => r = Bo (fieldsOkM xs)) := by
  refine Spec.of tysOk mixed Try.func78 rfl (by decide) ?_
  simp -implicitDefEqProofs only [go_sem, Try.f78]
  refine LoopW.slots (α := Nat) (fun i => [(7, I i)]) (fun _ => []) (fun i => xs.length - i) (fun i => i ≤ xs.length ∧ ∀ j, j < i → goodAt prGood prLink xs j = true) 0 rfl rfl (by simp) ?_
  rintro i ⟨hi, hz⟩
  simp -implicitDefEqProofs only [go_sem]
  refine BrA_i (fun h => ?_) (fun h => ?_)
  · have h : i < xs.length := by simp at h; omega
    have hw1 : IntKind.i64.wrap ((i : Int) + 1) = ((i + 1 : Nat) : Int) := by rw [wrap64 (by omega) (by omega)]; omega
    have hp : 0 < i → IntKind.i64.wrap ((i : Int) - 1) = ((i - 1 : Nat) : Int) := fun h0 => by rw [wrap64 (by omega) (by omega)]; omega
    have bad : goodAt prGood prLink xs i = false → AV.t (T.bool false) = Bo (fieldsOkM xs) := fun hg => by
      have : allAt prGood prLink xs = false := by
        cases ha : allAt prGood prLink xs
        · rfl
        · rw [(allAt_iff _ _ _).1 ha i h] at hg; cases hg
      simp [fieldsOkM, this]
    simp -implicitDefEqProofs only [go_sem, row_getD _ _ h, Pr.row]
    refine ⟨⟨by omega, by omega⟩, ?_⟩
    refine RegD_of sch_78_4 tysOk (by kernel_rfl) ?_
    simp -implicitDefEqProofs only [go_sem]
    refine BrA_i (fun h1 => ?_) (fun h1 => ?_) <;> simp -implicitDefEqProofs only [go_sem]
    · exact bad (goodAt_no _ _ _ h (by simp at h1; simp [prGood]; omega))
    refine BrA_i (fun h2 => ?_) (fun h2 => ?_) <;> simp -implicitDefEqProofs only [go_sem]
    · exact bad (goodAt_no _ _ _ h (by simp at h2; simp [prGood]; omega))
    have hg : prGood xs[i] = true := by simp at h1 h2; simp [prGood]; omega
    refine BrA_i (fun h3 => ?_) (fun h3 => ?_) <;> simp -implicitDefEqProofs only [go_sem]
    · have h3 : 0 < i := by simpa using h3
      have hq : i - 1 < xs.length := by omega
      simp -implicitDefEqProofs only [go_sem, hp h3, row_getD _ _ hq, Pr.row]
      refine ⟨⟨by omega, by omega⟩, ?_⟩
      refine BrA_i (fun h4 => ?_) (fun h4 => ?_) <;> simp -implicitDefEqProofs only [go_sem]
      · refine .to [32] (i + 1) rfl ?_ ?_ (by omega) ⟨h, fun j hj => ?_⟩ <;> (try simp -implicitDefEqProofs only [go_sem, LeTs_undef, LeTs_same, LeTs_nil, hw1])
        rcases Nat.lt_succ_iff_lt_or_eq.1 hj with hl | rfl
        · exact hz j hl
        · rw [goodAt_s _ _ _ h h3, hg]; simpa [prLink] using h4
      · exact bad (by rw [goodAt_s _ _ _ h h3]; simp [prLink, h4])
    · have h3 : i = 0 := by simp at h3; omega
      refine .to [32] (i + 1) rfl ?_ ?_ (by omega) ⟨h, fun j hj => ?_⟩ <;> (try simp -implicitDefEqProofs only [go_sem, LeTs_undef, LeTs_same, LeTs_nil, hw1])
      rcases Nat.lt_succ_iff_lt_or_eq.1 hj with hl | rfl
      · exact hz j hl
      · rw [goodAt_0 _ _ _ h h3, hg]
  · simp -implicitDefEqProofs only [go_sem]
    have h : i = xs.length := by simp at h; omega
    subst h
    have : allAt prGood prLink xs = true := (allAt_iff _ _ _).2 hz
    simp [fieldsOkM, this]
    omega
theorem p_sFieldsOk : Plain Try.prog 38 := ⟨_, Try.func38, rfl, by decide⟩
theorem s_sFieldsOk (xs : List Pr) (hx : xs.length < 4611686018427387904) : Spec Try.prog 38 [.t (.list false 2 (xs.map Pr.row))] (fun r => r = Bo (fieldsOkM xs)) := by
  refine Spec.of tysOk mixed Try.func38 rfl (by decide) ?_
  simp -implicitDefEqProofs only [go_sem, Try.f38]
  refine LoopW.slots (α := Nat) (fun i => [(3, I i)]) (fun _ => []) (fun i => xs.length - i) (fun i => i ≤ xs.length ∧ ∀ j, j < i → goodAt prGood prLink xs j = true) 0 rfl rfl (by simp) ?_
  rintro i ⟨hi, hz⟩
  simp -implicitDefEqProofs only [go_sem]
  refine BrA_i (fun h => ?_) (fun h => ?_)
  · have h : i < xs.length := by simp at h; omega
    have hw1 : IntKind.i64.wrap ((i : Int) + 1) = ((i + 1 : Nat) : Int) := by rw [wrap64 (by omega) (by omega)]; omega
    have hp : 0 < i → IntKind.i64.wrap ((i : Int) - 1) = ((i - 1 : Nat) : Int) := fun h0 => by rw [wrap64 (by omega) (by omega)]; omega
    have bad : goodAt prGood prLink xs i = false → AV.t (T.bool false) = Bo (fieldsOkM xs) := fun hg => by
      have : allAt prGood prLink xs = false := by
        cases ha : allAt prGood prLink xs
        · rfl
        · rw [(allAt_iff _ _ _).1 ha i h] at hg; cases hg
      simp [fieldsOkM, this]
    simp -implicitDefEqProofs only [go_sem]
    refine RegD_of sch_38_4 tysOk (by kernel_rfl) ?_
    simp -implicitDefEqProofs only [go_sem, row_getD _ _ h, Pr.row]
    refine ⟨⟨by omega, by omega⟩, ?_⟩
    refine BrA_i (fun h1 => ?_) (fun h1 => ?_) <;> simp -implicitDefEqProofs only [go_sem]
    · exact bad (goodAt_no _ _ _ h (by simp at h1; simp [prGood]; omega))
    simp -implicitDefEqProofs only [go_sem, row_getD _ _ h, Pr.row]
    refine ⟨⟨by omega, by omega⟩, ?_⟩
    refine BrA_i (fun h2 => ?_) (fun h2 => ?_) <;> simp -implicitDefEqProofs only [go_sem]
    · exact bad (goodAt_no _ _ _ h (by simp at h2; simp [prGood]; omega))
    have hg : prGood xs[i] = true := by simp at h1 h2; simp [prGood]; omega
    refine BrA_i (fun h3 => ?_) (fun h3 => ?_) <;> simp -implicitDefEqProofs only [go_sem]
    · have h3 : 0 < i := by simpa using h3
      have hq : i - 1 < xs.length := by omega
      simp -implicitDefEqProofs only [go_sem, hp h3, row_getD _ _ hq, Pr.row]
      refine ⟨⟨by omega, by omega⟩, ?_⟩
      simp -implicitDefEqProofs only [go_sem, row_getD _ _ h, Pr.row]
      refine ⟨⟨by omega, by omega⟩, ?_⟩
      refine BrA_i (fun h4 => ?_) (fun h4 => ?_) <;> simp -implicitDefEqProofs only [go_sem]
      · refine .to [] (i + 1) rfl ?_ ?_ (by omega) ⟨h, fun j hj => ?_⟩ <;> (try simp -implicitDefEqProofs only [go_sem, LeTs_undef, LeTs_same, LeTs_nil, hw1])
        rcases Nat.lt_succ_iff_lt_or_eq.1 hj with hl | rfl
        · exact hz j hl
        · rw [goodAt_s _ _ _ h h3, hg]; simpa [prLink] using h4
      · exact bad (by rw [goodAt_s _ _ _ h h3]; simp [prLink, h4])
    · have h3 : i = 0 := by simp at h3; omega
      refine .to [] (i + 1) rfl ?_ ?_ (by omega) ⟨h, fun j hj => ?_⟩ <;> (try simp -implicitDefEqProofs only [go_sem, LeTs_undef, LeTs_same, LeTs_nil, hw1])
      rcases Nat.lt_succ_iff_lt_or_eq.1 hj with hl | rfl
      · exact hz j hl
      · rw [goodAt_0 _ _ _ h h3, hg]
  · simp -implicitDefEqProofs only [go_sem]
    have h : i = xs.length := by simp at h; omega
    subst h
    have : allAt prGood prLink xs = true := (allAt_iff _ _ _).2 hz
    simp [fieldsOkM, this]
    omega
end Go.Proofs.Ytaajnbfnaoecnaa.Am
namespace Go.Proofs.Ytaajnbfnaoecnaa.Am
open Go
set_option maxRecDepth 100000
set_option linter.unusedSimpArgs false
set_option linter.unusedVariables false
theorem p_fieldsFull : Plain Try.prog 42 := ⟨_, Try.func42, rfl, by decide⟩
def fieldsFullM (xs : List Pr) : Bool := decide (0 < xs.length) && fieldsOkM xs
theorem s_fieldsFull (xs : List Pr) (hx : xs.length < 4611686018427387904) : Spec Try.prog 42 [.t (.list false 2 (xs.map Pr.row))] (fun r => r = Bo (fieldsFullM xs)) := by
  refine Spec.of tysOk mixed Try.func42 rfl (by decide) ?_
  simp -implicitDefEqProofs only [go_sem, Try.f42]
  refine BrA_i (fun h => ?_) (fun h => ?_) <;> simp -implicitDefEqProofs only [go_sem]
  · refine .one (s_FieldsOk xs hx) p_FieldsOk (by simp -implicitDefEqProofs only [go_sem]) trivial ?_
    simp -implicitDefEqProofs only [go_sem]
    have : 0 < xs.length := by simpa using h
    simp [fieldsFullM, this]
  · have : ¬ 0 < xs.length := by simpa using h
    simp [fieldsFullM, this]
def ltM (a b : Idt) : Bool := decide (ordM a.t a.n b.t b.n < 0)
def idM (a : Idt) : Bool := idOkM a.t a.n
def wtGood (last : Idt) (x : Wt) : Bool := idM x.id && !ltM last x.id && keyOkM x.who && withinM x.at' 0 1000000 && withinM x.tm 1 1000000000
def wtLink (x y : Wt) : Bool := ltM x.id y.id
def grOkM (g : Gr) : Bool := keyOkM g.name && idM g.last && decide (g.waits.length ≤ 16) && allAt (wtGood g.last) wtLink g.waits
def itGood (last : Idt) (x : It) : Bool := idM x.id && !ltM last x.id && fieldsFullM x.fields
def itLink (x y : It) : Bool := ltM x.id y.id
def grGood (last : Idt) (g : Gr) : Bool := grOkM g && !ltM last g.last
def grLink (x y : Gr) : Bool := bytesLt x.name y.name
def streamOkM (s : Stm) : Bool := idM s.last && decide (s.items.length ≤ 16) && decide (s.groups.length ≤ 3) && allAt (itGood s.last) itLink s.items && allAt (grGood s.last) grLink s.groups
theorem okAt_good (last : Idt) (ws : List Wt) (i : Nat) (h : i < ws.length) : okAt last.t last.n ws i ws[i] = goodAt (wtGood last) wtLink ws i := by
  rcases Nat.eq_zero_or_pos i with h0 | h0
  · rw [goodAt_0 _ _ _ h h0]
    subst h0
    simp [okAt, wtGood, idM, ltM]
  · rw [goodAt_s _ _ _ h h0]
    obtain ⟨j, rfl⟩ : ∃ j, i = j + 1 := ⟨i - 1, by omega⟩
    have hj : j < ws.length := by omega
    simp only [okAt, List.getElem?_eq_getElem hj, wtGood, wtLink, idM, ltM, Nat.add_sub_cancel]
    generalize idOkM _ _ = a
    generalize decide (ordM ws[j].id.t _ _ _ < 0) = b
    generalize decide (ordM last.t last.n _ _ < 0) = c
    generalize keyOkM _ = d
    generalize withinM _ 0 _ = e
    generalize withinM _ 1 _ = f
    cases a <;> cases b <;> cases c <;> cases d <;> cases e <;> cases f <;> rfl
theorem s_grOk (g : Gr) (h : g.waits.length < 2000000) : Spec Try.prog 43 [g.av] (fun r => r = Bo (grOkM g)) :=
  (s_groupOk g.name g.last.t g.last.n g.waits h).weaken fun r ⟨b, hr, hb⟩ => by
    rw [hr, hb]
    have : decide (∀ i (h : i < g.waits.length), okAt g.last.t g.last.n g.waits i g.waits[i] = true) = allAt (wtGood g.last) wtLink g.waits := by
      rw [Bool.eq_iff_iff, decide_eq_true_eq, allAt_iff]
      exact forall_congr' fun i => forall_congr' fun hi => by rw [okAt_good _ _ _ hi]
    rw [this]
    unfold grOkM idM
    cases allAt (wtGood g.last) wtLink g.waits <;> cases keyOkM g.name <;> cases idOkM g.last.t g.last.n <;> cases decide (g.waits.length ≤ 16) <;> rfl
end Go.Proofs.Ytaajnbfnaoecnaa.Am
namespace Go.Proofs.Ytaajnbfnaoecnaa.Am
open Go
set_option maxRecDepth 100000
set_option linter.unusedSimpArgs false
set_option linter.unusedVariables false
theorem p_grOk : Plain Try.prog 43 := ⟨_, Try.func43, rfl, by decide⟩
theorem p_StreamOk : Plain Try.prog 12 := ⟨_, Try.func12, rfl, by decide⟩
theorem s_StreamOk (s : Stm) (hs : s.sm) (hw : ∀ g ∈ s.groups, g.waits.length < 2000000) : Spec Try.prog 12 [s.av] (fun r => r = Bo (streamOkM s)) := by
  obtain ⟨hs1, hs2, hs3, hs4⟩ := hs
  refine Spec.of tysOk mixed Try.func12 rfl (by decide) ?_
  simp -implicitDefEqProofs only [go_sem, Try.f12]
  refine .one (s_idOk s.last.t s.last.n) p_idOk (by simp -implicitDefEqProofs only [go_sem]) trivial ?_
  simp -implicitDefEqProofs only [go_sem]
  refine BrA_i (fun h1 => ?_) (fun h1 => ?_) <;> simp -implicitDefEqProofs only [go_sem]
  · refine BrA_i (fun h2 => ?_) (fun h2 => ?_) <;> simp -implicitDefEqProofs only [go_sem]
    · have : ¬ s.items.length ≤ 16 := by simp at h2; omega
      simp [streamOkM, this]
    refine BrA_i (fun h3 => ?_) (fun h3 => ?_) <;> simp -implicitDefEqProofs only [go_sem]
    · have : ¬ s.groups.length ≤ 3 := by simp at h3; omega
      simp [streamOkM, this]
    have bad1 : allAt (itGood s.last) itLink s.items = false → AV.t (T.bool false) = Bo (streamOkM s) := fun h => by simp [streamOkM, h]
    have bad2 : allAt (grGood s.last) grLink s.groups = false → AV.t (T.bool false) = Bo (streamOkM s) := fun h => by simp [streamOkM, h]
    refine LoopW.slots (α := Nat) (fun i => [(26, I i)]) (fun _ => []) (fun i => s.items.length - i) (fun i => i ≤ s.items.length ∧ ∀ j, j < i → goodAt (itGood s.last) itLink s.items j = true) 0 rfl rfl (by simp) ?_
    rintro i ⟨hi, hz⟩
    simp -implicitDefEqProofs only [go_sem]
    refine BrA_i (fun h => ?_) (fun h => ?_)
    · have h : i < s.items.length := by simp at h; omega
      have hw1 : IntKind.i64.wrap ((i : Int) + 1) = ((i + 1 : Nat) : Int) := by rw [wrap64 (by omega) (by omega)]; omega
      have hp : 0 < i → IntKind.i64.wrap ((i : Int) - 1) = ((i - 1 : Nat) : Int) := fun h0 => by rw [wrap64 (by omega) (by omega)]; omega
      have bad : goodAt (itGood s.last) itLink s.items i = false → AV.t (T.bool false) = Bo (streamOkM s) := fun hg => bad1 (by
        cases ha : allAt (itGood s.last) itLink s.items
        · rfl
        · rw [(allAt_iff _ _ _).1 ha i h] at hg; cases hg)
      simp -implicitDefEqProofs only [go_sem, row_getD _ _ h, It.row]
      refine ⟨⟨by omega, by omega⟩, ?_⟩
      refine RegD_of sch_12_6 tysOk (by kernel_rfl) ?_
      simp -implicitDefEqProofs only [go_sem]
      refine .one (s_idOk s.items[i].id.t s.items[i].id.n) p_idOk (by simp -implicitDefEqProofs only [go_sem]) trivial ?_
      simp -implicitDefEqProofs only [go_sem]
      refine BrA_i (fun g1 => ?_) (fun g1 => ?_) <;> simp -implicitDefEqProofs only [go_sem]
      · refine BrA_i (fun g2 => ?_) (fun g2 => ?_) <;> simp -implicitDefEqProofs only [go_sem]
        · have g2 : 0 < i := by simpa using g2
          have hq : i - 1 < s.items.length := by omega
          simp -implicitDefEqProofs only [go_sem, hp g2, row_getD _ _ hq, It.row]
          refine ⟨⟨by omega, by omega⟩, ?_⟩
          refine .one (s_idOrder (s.items[i - 1]'hq).id.t (s.items[i - 1]'hq).id.n s.items[i].id.t s.items[i].id.n) p_idOrder (by simp -implicitDefEqProofs only [go_sem]) trivial ?_
          simp -implicitDefEqProofs only [go_sem]
          refine BrA_i (fun g3 => ?_) (fun g3 => ?_) <;> simp -implicitDefEqProofs only [go_sem]
          · exact bad (by
              rw [goodAt_s _ _ _ h g2]
              have : itLink (s.items[i - 1]'hq) s.items[i] = false := by simp [itLink, ltM]; simpa using g3
              simp [this])
          have hl : itLink (s.items[i - 1]'hq) s.items[i] = true := by simp [itLink, ltM]; simpa using g3
          refine .one (s_IdLess s.last.t s.last.n s.items[i].id.t s.items[i].id.n) p_IdLess (by simp -implicitDefEqProofs only [go_sem]) trivial ?_
          simp -implicitDefEqProofs only [go_sem]
          refine BrA_i (fun g4 => ?_) (fun g4 => ?_) <;> simp -implicitDefEqProofs only [go_sem]
          · exact bad (goodAt_no _ _ _ h (by simp [itGood, ltM, g4]))
          refine .one (s_fieldsFull s.items[i].fields (hs3 _ (List.getElem_mem _))) p_fieldsFull (by simp -implicitDefEqProofs only [go_sem]) trivial ?_
          simp -implicitDefEqProofs only [go_sem]
          refine BrA_i (fun g5 => ?_) (fun g5 => ?_) <;> simp -implicitDefEqProofs only [go_sem]
          · have hgood : itGood s.last s.items[i] = true := by simp [itGood, idM, ltM, g1, g4, g5]
            refine .to [32] (i + 1) rfl ?_ ?_ (by omega) ⟨h, fun j hj => ?_⟩ <;> (try simp -implicitDefEqProofs only [go_sem, LeTs_undef, LeTs_same, LeTs_nil, hw1])
            rcases Nat.lt_succ_iff_lt_or_eq.1 hj with hlt | rfl
            · exact hz j hlt
            · rw [goodAt_s _ _ _ h g2, hgood, hl]; rfl
          · exact bad (goodAt_no _ _ _ h (by simp [itGood, g5]))
        · have g2 : i = 0 := by simp at g2; omega
          refine .one (s_IdLess s.last.t s.last.n s.items[i].id.t s.items[i].id.n) p_IdLess (by simp -implicitDefEqProofs only [go_sem]) trivial ?_
          simp -implicitDefEqProofs only [go_sem]
          refine BrA_i (fun g4 => ?_) (fun g4 => ?_) <;> simp -implicitDefEqProofs only [go_sem]
          · exact bad (goodAt_no _ _ _ h (by simp [itGood, ltM, g4]))
          refine .one (s_fieldsFull s.items[i].fields (hs3 _ (List.getElem_mem _))) p_fieldsFull (by simp -implicitDefEqProofs only [go_sem]) trivial ?_
          simp -implicitDefEqProofs only [go_sem]
          refine BrA_i (fun g5 => ?_) (fun g5 => ?_) <;> simp -implicitDefEqProofs only [go_sem]
          · have hgood : itGood s.last s.items[i] = true := by simp [itGood, idM, ltM, g1, g4, g5]
            refine .to [32] (i + 1) rfl ?_ ?_ (by omega) ⟨h, fun j hj => ?_⟩ <;> (try simp -implicitDefEqProofs only [go_sem, LeTs_undef, LeTs_same, LeTs_nil, hw1])
            rcases Nat.lt_succ_iff_lt_or_eq.1 hj with hlt | rfl
            · exact hz j hlt
            · rw [goodAt_0 _ _ _ h g2, hgood]
          · exact bad (goodAt_no _ _ _ h (by simp [itGood, g5]))
      · exact bad (goodAt_no _ _ _ h (by simp [itGood, idM, g1]))
    · simp -implicitDefEqProofs only [go_sem]
      have hall : allAt (itGood s.last) itLink s.items = true := (allAt_iff _ _ _).2 fun j hj => hz j (by simp at h; omega)
      clear hz hi h
      refine LoopW.slots (α := Nat) (fun i => [(69, I i)]) (fun _ => []) (fun i => s.groups.length - i) (fun i => i ≤ s.groups.length ∧ ∀ j, j < i → goodAt (grGood s.last) grLink s.groups j = true) 0 rfl rfl (by simp) ?_
      rintro i ⟨hi, hz⟩
      simp -implicitDefEqProofs only [go_sem]
      refine BrA_i (fun h => ?_) (fun h => ?_)
      · have h : i < s.groups.length := by simp at h; omega
        have hw1 : IntKind.i64.wrap ((i : Int) + 1) = ((i + 1 : Nat) : Int) := by rw [wrap64 (by omega) (by omega)]; omega
        have hp : 0 < i → IntKind.i64.wrap ((i : Int) - 1) = ((i - 1 : Nat) : Int) := fun h0 => by rw [wrap64 (by omega) (by omega)]; omega
        have bad : goodAt (grGood s.last) grLink s.groups i = false → AV.t (T.bool false) = Bo (streamOkM s) := fun hg => bad2 (by
          cases ha : allAt (grGood s.last) grLink s.groups
          · rfl
          · rw [(allAt_iff _ _ _).1 ha i h] at hg; cases hg)
        simp -implicitDefEqProofs only [go_sem, row_getD _ _ h, Gr.row]
        refine ⟨⟨by omega, by omega⟩, ?_⟩
        refine RegD_of sch_12_12 tysOk (by kernel_rfl) ?_
        simp -implicitDefEqProofs only [go_sem]
        refine .one (s_grOk s.groups[i] (hw _ (List.getElem_mem _))) p_grOk (by simp -implicitDefEqProofs only [go_sem]) trivial ?_
        simp -implicitDefEqProofs only [go_sem]
        refine BrA_i (fun g1 => ?_) (fun g1 => ?_) <;> simp -implicitDefEqProofs only [go_sem]
        · refine BrA_i (fun g2 => ?_) (fun g2 => ?_) <;> simp -implicitDefEqProofs only [go_sem]
          · have g2 : 0 < i := by simpa using g2
            have hq : i - 1 < s.groups.length := by omega
            simp -implicitDefEqProofs only [go_sem, hp g2, row_getD _ _ hq, Gr.row]
            refine ⟨⟨by omega, by omega⟩, ?_⟩
            refine BrA_i (fun g3 => ?_) (fun g3 => ?_) <;> simp -implicitDefEqProofs only [go_sem]
            · have hl : grLink (s.groups[i - 1]'hq) s.groups[i] = true := g3
              refine .one (s_IdLess s.last.t s.last.n s.groups[i].last.t s.groups[i].last.n) p_IdLess (by simp -implicitDefEqProofs only [go_sem]) trivial ?_
              simp -implicitDefEqProofs only [go_sem]
              refine BrA_i (fun g4 => ?_) (fun g4 => ?_) <;> simp -implicitDefEqProofs only [go_sem]
              · exact bad (goodAt_no _ _ _ h (by simp [grGood, ltM, g4]))
              · have hgood : grGood s.last s.groups[i] = true := by simp [grGood, ltM, g1, g4]
                refine .to [48] (i + 1) rfl ?_ ?_ (by omega) ⟨h, fun j hj => ?_⟩ <;> (try simp -implicitDefEqProofs only [go_sem, LeTs_undef, LeTs_same, LeTs_nil, hw1])
                rcases Nat.lt_succ_iff_lt_or_eq.1 hj with hlt | rfl
                · exact hz j hlt
                · rw [goodAt_s _ _ _ h g2, hgood, hl]; rfl
            · exact bad (by
                rw [goodAt_s _ _ _ h g2]
                have : grLink (s.groups[i - 1]'hq) s.groups[i] = false := g3
                simp [this])
          · have g2 : i = 0 := by simp at g2; omega
            refine .one (s_IdLess s.last.t s.last.n s.groups[i].last.t s.groups[i].last.n) p_IdLess (by simp -implicitDefEqProofs only [go_sem]) trivial ?_
            simp -implicitDefEqProofs only [go_sem]
            refine BrA_i (fun g4 => ?_) (fun g4 => ?_) <;> simp -implicitDefEqProofs only [go_sem]
            · exact bad (goodAt_no _ _ _ h (by simp [grGood, ltM, g4]))
            · have hgood : grGood s.last s.groups[i] = true := by simp [grGood, ltM, g1, g4]
              refine .to [48] (i + 1) rfl ?_ ?_ (by omega) ⟨h, fun j hj => ?_⟩ <;> (try simp -implicitDefEqProofs only [go_sem, LeTs_undef, LeTs_same, LeTs_nil, hw1])
              rcases Nat.lt_succ_iff_lt_or_eq.1 hj with hlt | rfl
              · exact hz j hlt
              · rw [goodAt_0 _ _ _ h g2, hgood]
        · exact bad (goodAt_no _ _ _ h (by simp [grGood, g1]))
      · simp -implicitDefEqProofs only [go_sem]
        have hall2 : allAt (grGood s.last) grLink s.groups = true := (allAt_iff _ _ _).2 fun j hj => hz j (by simp at h; omega)
        simp at h2 h3
        have e2 : s.items.length ≤ 16 := by omega
        have e3 : s.groups.length ≤ 3 := by omega
        simp [streamOkM, idM, h1, e2, e3, hall, hall2]
  · simp [streamOkM, idM, h1]
end Go.Proofs.Ytaajnbfnaoecnaa.Am
namespace Go.Proofs.Ytaajnbfnaoecnaa.Am
open Go
set_option maxRecDepth 100000
set_option linter.unusedSimpArgs false
set_option linter.unusedVariables false
abbrev Idt.z : Idt := ⟨0, 0⟩
abbrev Stm.z : Stm := ⟨⟨0, 0⟩, [], []⟩
def nextM (last : Idt) (now : Int) : Idt := if last.t < now then ⟨now, 0⟩ else ⟨last.t, last.n + 1⟩
def addM (s : Stm) (now : Int) (fs : List Pr) : Stm × Idt × Bool :=
  if streamOkM s = true then
    if withinM now 0 1000000 && fieldsFullM fs && !decide ((s.items.length : Int) = 16) && idM (nextM s.last now) then (⟨nextM s.last now, s.items ++ [⟨nextM s.last now, fs⟩], s.groups⟩, nextM s.last now, true)
    else (s, .z, false)
  else (.z, .z, false)
abbrev addR (x : Stm × Idt × Bool) : AV := .tup [x.1.avO, x.2.1.av, Bo x.2.2]
theorem Stm.md.sm {s : Stm} (h : s.md) : s.sm ∧ ∀ g ∈ s.groups, g.waits.length < 2000000 → True := ⟨⟨by have := h.1; omega, by have := h.2.1; omega, fun i hi => by have := h.2.2.1 i hi; unfold It.sm; omega, fun g hg => by have := h.2.2.2 g hg; unfold Gr.sm; omega⟩, fun _ _ _ => trivial⟩
theorem streamOkM_id {s : Stm} (h : streamOkM s = true) : 0 ≤ s.last.t ∧ s.last.t ≤ 1000000 ∧ 0 ≤ s.last.n ∧ s.last.n ≤ 1000000000 := by
  simp only [streamOkM, idM, idOkM, withinM, Bool.and_eq_true, decide_eq_true_eq] at h
  omega
theorem streamOkM_len {s : Stm} (h : streamOkM s = true) : s.items.length ≤ 16 ∧ s.groups.length ≤ 3 := by
  simp only [streamOkM, Bool.and_eq_true, decide_eq_true_eq] at h
  omega
end Go.Proofs.Ytaajnbfnaoecnaa.Am
namespace Go.Proofs.Ytaajnbfnaoecnaa.Am
open Go
set_option maxRecDepth 100000
set_option maxHeartbeats 400000
set_option linter.unusedSimpArgs false
set_option linter.unusedVariables false
theorem allAt_no {α : Type} {good : α → Bool} {link : α → α → Bool} {xs : List α} {i : Nat} (h : i < xs.length) (hg : goodAt good link xs i = false) : allAt good link xs = false := by
  cases ha : allAt good link xs
  · rfl
  · rw [(allAt_iff _ _ _).1 ha i h] at hg; cases hg
theorem good_step {α : Type} {good : α → Bool} {link : α → α → Bool} {xs : List α} {i : Nat} (hz : ∀ j, j < i → goodAt good link xs j = true) (hg : goodAt good link xs i = true) : ∀ j, j < i + 1 → goodAt good link xs j = true := fun j hj => by
  rcases Nat.lt_succ_iff_lt_or_eq.1 hj with hl | rfl
  · exact hz j hl
  · exact hg
theorem p_l9Group : Plain Try.prog 39 := ⟨_, Try.func39, rfl, by decide⟩
theorem s_l9Group (s : Stm) (g : Gr) (hw : g.waits.length < 2000000) : Spec Try.prog 39 [s.av, g.av] (fun r => r = Bo (grGood s.last g)) := by
  refine Spec.of tysOk mixed Try.func39 rfl (by decide) ?_
  simp -implicitDefEqProofs only [go_sem, Try.f39]
  refine LoopW.slotsM [false, false, true, true, false, true, false, false, false, false, false, false, false, false, false, false, false, false, false, false, false, false, false, false, false, false, false, false, false, false, false, false, false, false, false, false, false, false, false, false, false, false, false, false, false, false, false, false, false, false, false, false, false, false, false, false, false, false, false, false, false, false, false, false, false, false, false, false, false, false, false, false, false, false, false, false, false, false, false, false, false, false, false, false, false, false, false] (α := Nat) (fun i => [(5, I i)]) (fun _ => []) (fun i => g.waits.length - i) (fun i => i ≤ g.waits.length ∧ ∀ j, j < i → goodAt (wtGood g.last) wtLink g.waits j = true) 0 (by simp -implicitDefEqProofs only [go_sem, LeTs_undef, LeTs_same, LeTs_nil]; try simp [LeTs]) rfl (by simp) ?_
  rintro i ⟨hi, hz⟩
  simp -implicitDefEqProofs only [go_sem]
  refine BrA_i (fun h => ?_) (fun h => ?_) <;> simp -implicitDefEqProofs only [go_sem]
  · have bad : ∀ (hl : i < g.waits.length), goodAt (wtGood g.last) wtLink g.waits i = false → AV.t (T.bool false) = Bo (grGood s.last g) := fun hl hg => by
      have := allAt_no hl hg
      simp [grGood, grOkM, this]
    have h : i < g.waits.length := by simp at h; omega
    have h0i : (0 : Int) ≤ i := by omega
    have h1i : (i : Int) < g.waits.length := by omega
    have wi : IntKind.i64.wrap ((i : Int) + 1) = ((i + 1 : Nat) : Int) := by rw [wrap64 (by omega) (by omega)]; omega
    rcases Nat.eq_zero_or_pos i with h0 | h0
    · have hp : ((i : Int) > 0) = False := by simp; omega
      have hG := goodAt_0 (wtGood g.last) wtLink g.waits h h0
      simp -implicitDefEqProofs only [go_sem, h, h0i, h1i, row_getD _ _ h, Wt.row]
      refine RegD_of sch_39_5 tysOk (by kernel_rfl) ?_
      simp -implicitDefEqProofs only [go_sem, hp]
      (repeat' (first   | (refine CallW.one (s_l9Id _ _) p_l9Id (by first | (simp -implicitDefEqProofs only [go_sem]; done) | ((conv => lhs; simp -implicitDefEqProofs only [go_sem]); done) | (simp -implicitDefEqProofs only [go_sem]; rfl) | rfl) (by first | trivial | (simp [DeepR, DeepV, DeepVs, DeepC, DeepCs, T.scal]; done)) ?_; try simp -implicitDefEqProofs only [go_sem, hp])   | (refine CallW.one (s_sIdLess _ _ _ _) p_sIdLess (by first | (simp -implicitDefEqProofs only [go_sem]; done) | ((conv => lhs; simp -implicitDefEqProofs only [go_sem]); done) | (simp -implicitDefEqProofs only [go_sem]; rfl) | rfl) (by first | trivial | (simp [DeepR, DeepV, DeepVs, DeepC, DeepCs, T.scal]; done)) ?_; try simp -implicitDefEqProofs only [go_sem, hp])   | (refine CallW.one (s_l4Key _) p_l4Key (by first | (simp -implicitDefEqProofs only [go_sem]; done) | ((conv => lhs; simp -implicitDefEqProofs only [go_sem]); done) | (simp -implicitDefEqProofs only [go_sem]; rfl) | rfl) (by first | trivial | (simp [DeepR, DeepV, DeepVs, DeepC, DeepCs, T.scal]; done)) ?_; try simp -implicitDefEqProofs only [go_sem, hp])   | (refine CallW.one (s_l1In _ _ _) p_l1In (by first | (simp -implicitDefEqProofs only [go_sem]; done) | ((conv => lhs; simp -implicitDefEqProofs only [go_sem]); done) | (simp -implicitDefEqProofs only [go_sem]; rfl) | rfl) (by first | trivial | (simp [DeepR, DeepV, DeepVs, DeepC, DeepCs, T.scal]; done)) ?_; try simp -implicitDefEqProofs only [go_sem, hp])   | (refine BrA_i (fun h => ?_) (fun h => ?_) <;> (try simp only [decide_eq_true_eq, decide_eq_false_iff_not, Bool.not_eq_true', Bool.not_eq_false', gt_iff_lt, ge_iff_le] at h) <;> try simp -implicitDefEqProofs only [go_sem, hp])   | (refine And.intro (a := roomy _ _) (by (unfold roomy; (try simp only [List.length_take, List.length_append, List.length_map, List.length_cons, List.length_nil]); omega)) ?_; try simp -implicitDefEqProofs only [go_sem, hp])))
      all_goals first
        | (refine bad (by assumption) ?_; rw [hG]; clear bad hz hG h0 hp hi hw wi; simp_all [-Int.not_lt, -Int.not_le, -Nat.not_lt, -Nat.not_le, wtGood, ltM, idM]; done)
        | (refine .to [48, 169, 170, 171, 225, 226, 227, 265, 266, 267, 313, 314, 315, 361, 362, 363, 489, 490, 491] (i + 1) rfl (by simp -implicitDefEqProofs only [go_sem, LeTs_undef, LeTs_same, LeTs_nil, wi]) (by simp -implicitDefEqProofs only [go_sem]) (by omega) ⟨by assumption, good_step hz ?_⟩; rw [hG]; clear bad hz hG h0 hp hi hw wi; simp_all [-Int.not_lt, -Int.not_le, -Nat.not_lt, -Nat.not_le, wtGood, ltM, idM])
    · have hp : ((i : Int) > 0) = True := by simp; omega
      have hG := goodAt_s (wtGood g.last) wtLink g.waits h h0
      have hq : i - 1 < g.waits.length := by omega
      have wj : IntKind.i64.wrap ((i : Int) - 1) = ((i - 1 : Nat) : Int) := by rw [wrap64 (by omega) (by omega)]; omega
      have h0j : (0 : Int) ≤ ((i - 1 : Nat) : Int) := by omega
      have h1j : ((i - 1 : Nat) : Int) < g.waits.length := by omega
      simp -implicitDefEqProofs only [go_sem, h, h0i, h1i, row_getD _ _ h, Wt.row]
      refine RegD_of sch_39_5 tysOk (by kernel_rfl) ?_
      simp -implicitDefEqProofs only [go_sem, hp]
      (repeat' (first   | (refine CallW.one (s_l9Id _ _) p_l9Id (by first | (simp -implicitDefEqProofs only [go_sem]; done) | ((conv => lhs; simp -implicitDefEqProofs only [go_sem]); done) | (simp -implicitDefEqProofs only [go_sem]; rfl) | rfl) (by first | trivial | (simp [DeepR, DeepV, DeepVs, DeepC, DeepCs, T.scal]; done)) ?_; try simp -implicitDefEqProofs only [go_sem, hp, wj, h0j, h1j, hq, row_getD _ _ hq, Wt.row])   | (refine CallW.one (s_sIdLess _ _ _ _) p_sIdLess (by first | (simp -implicitDefEqProofs only [go_sem]; done) | ((conv => lhs; simp -implicitDefEqProofs only [go_sem]); done) | (simp -implicitDefEqProofs only [go_sem]; rfl) | rfl) (by first | trivial | (simp [DeepR, DeepV, DeepVs, DeepC, DeepCs, T.scal]; done)) ?_; try simp -implicitDefEqProofs only [go_sem, hp, wj, h0j, h1j, hq, row_getD _ _ hq, Wt.row])   | (refine CallW.one (s_l4Key _) p_l4Key (by first | (simp -implicitDefEqProofs only [go_sem]; done) | ((conv => lhs; simp -implicitDefEqProofs only [go_sem]); done) | (simp -implicitDefEqProofs only [go_sem]; rfl) | rfl) (by first | trivial | (simp [DeepR, DeepV, DeepVs, DeepC, DeepCs, T.scal]; done)) ?_; try simp -implicitDefEqProofs only [go_sem, hp, wj, h0j, h1j, hq, row_getD _ _ hq, Wt.row])   | (refine CallW.one (s_l1In _ _ _) p_l1In (by first | (simp -implicitDefEqProofs only [go_sem]; done) | ((conv => lhs; simp -implicitDefEqProofs only [go_sem]); done) | (simp -implicitDefEqProofs only [go_sem]; rfl) | rfl) (by first | trivial | (simp [DeepR, DeepV, DeepVs, DeepC, DeepCs, T.scal]; done)) ?_; try simp -implicitDefEqProofs only [go_sem, hp, wj, h0j, h1j, hq, row_getD _ _ hq, Wt.row])   | (refine BrA_i (fun h => ?_) (fun h => ?_) <;> (try simp only [decide_eq_true_eq, decide_eq_false_iff_not, Bool.not_eq_true', Bool.not_eq_false', gt_iff_lt, ge_iff_le] at h) <;> try simp -implicitDefEqProofs only [go_sem, hp, wj, h0j, h1j, hq, row_getD _ _ hq, Wt.row])   | (refine And.intro (a := roomy _ _) (by (unfold roomy; (try simp only [List.length_take, List.length_append, List.length_map, List.length_cons, List.length_nil]); omega)) ?_; try simp -implicitDefEqProofs only [go_sem, hp, wj, h0j, h1j, hq, row_getD _ _ hq, Wt.row])))
      all_goals first
        | (refine bad (by assumption) ?_; rw [hG]; clear bad hz hG hp hi hw wi wj h0j h1j; simp_all [-Int.not_lt, -Int.not_le, -Nat.not_lt, -Nat.not_le, wtGood, wtLink, ltM, idM]; done)
        | (refine .to [48, 169, 170, 171, 225, 226, 227, 265, 266, 267, 313, 314, 315, 361, 362, 363, 489, 490, 491] (i + 1) rfl (by simp -implicitDefEqProofs only [go_sem, LeTs_undef, LeTs_same, LeTs_nil, wi]) (by simp -implicitDefEqProofs only [go_sem]) (by omega) ⟨by assumption, good_step hz ?_⟩; rw [hG]; clear bad hz hG hp hi hw wi wj h0j h1j; simp_all [-Int.not_lt, -Int.not_le, -Nat.not_lt, -Nat.not_le, wtGood, wtLink, ltM, idM])
  · have h : i = g.waits.length := by simp at h; omega
    subst h
    have hall : allAt (wtGood g.last) wtLink g.waits = true := (allAt_iff _ _ _).2 hz
    (repeat' (first   | (refine CallW.one (s_l4Key _) p_l4Key (by first | (simp -implicitDefEqProofs only [go_sem]; done) | ((conv => lhs; simp -implicitDefEqProofs only [go_sem]); done) | (simp -implicitDefEqProofs only [go_sem]; rfl) | rfl) (by first | trivial | (simp [DeepR, DeepV, DeepVs, DeepC, DeepCs, T.scal]; done)) ?_; try simp -implicitDefEqProofs only [go_sem])   | (refine CallW.one (s_l9Id _ _) p_l9Id (by first | (simp -implicitDefEqProofs only [go_sem]; done) | ((conv => lhs; simp -implicitDefEqProofs only [go_sem]); done) | (simp -implicitDefEqProofs only [go_sem]; rfl) | rfl) (by first | trivial | (simp [DeepR, DeepV, DeepVs, DeepC, DeepCs, T.scal]; done)) ?_; try simp -implicitDefEqProofs only [go_sem])   | (refine CallW.one (s_sIdLess _ _ _ _) p_sIdLess (by first | (simp -implicitDefEqProofs only [go_sem]; done) | ((conv => lhs; simp -implicitDefEqProofs only [go_sem]); done) | (simp -implicitDefEqProofs only [go_sem]; rfl) | rfl) (by first | trivial | (simp [DeepR, DeepV, DeepVs, DeepC, DeepCs, T.scal]; done)) ?_; try simp -implicitDefEqProofs only [go_sem])   | (refine BrA_i (fun h => ?_) (fun h => ?_) <;> (try simp only [decide_eq_true_eq, decide_eq_false_iff_not, Bool.not_eq_true', Bool.not_eq_false', gt_iff_lt, ge_iff_le] at h) <;> try simp -implicitDefEqProofs only [go_sem])   | (refine And.intro (a := roomy _ _) (by (unfold roomy; (try simp only [List.length_take, List.length_append, List.length_map, List.length_cons, List.length_nil]); omega)) ?_; try simp -implicitDefEqProofs only [go_sem])))
    all_goals (clear hz hi; simp_all [-Int.not_lt, -Int.not_le, -Nat.not_lt, -Nat.not_le, grGood, grOkM, idM, ltM])
    all_goals omega
theorem p_sStreamOk : Plain Try.prog 10 := ⟨_, Try.func10, rfl, by decide⟩
theorem s_sStreamOk (s : Stm) (hs : s.sm) (hw : ∀ g ∈ s.groups, g.waits.length < 2000000) : Spec Try.prog 10 [s.av] (fun r => r = Bo (streamOkM s)) := by
  obtain ⟨hs1, hs2, hs3, hs4⟩ := hs
  refine Spec.of tysOk mixed Try.func10 rfl (by decide) ?_
  simp -implicitDefEqProofs only [go_sem, Try.f10]
  refine LoopW.slotsM [false, true, false, true, false, false, false, false, false, false, false, false, false, false, false, false, false, false, false, false, false, false, false, false, false, false, false, false, false, false, false, false, false, false, false, false, false, false, false, false, false, false, false, false, false, false, false, false, false, false, false, false, false, false, false, false, false, false, false, false, false, false, false, false, false, false, false, false, false, false, false, false, false, false, false, false, false, false, false, false, false, false, false, false, false, false, false, false, false, false, false, false, false, false, false, false, false, false, false, false, false, false, false, false, false, false, false, false] (α := Nat) (fun i => [(3, I i)]) (fun _ => []) (fun i => s.items.length - i) (fun i => i ≤ s.items.length ∧ ∀ j, j < i → goodAt (itGood s.last) itLink s.items j = true) 0 (by simp -implicitDefEqProofs only [go_sem, LeTs_undef, LeTs_same, LeTs_nil]; try simp [LeTs]) rfl (by simp) ?_
  rintro i ⟨hi, hz⟩
  simp -implicitDefEqProofs only [go_sem]
  refine BrA_i (fun h => ?_) (fun h => ?_) <;> simp -implicitDefEqProofs only [go_sem]
  · have bad : ∀ (hl : i < s.items.length), goodAt (itGood s.last) itLink s.items i = false → AV.t (T.bool false) = Bo (streamOkM s) := fun hl hg => by
      have := allAt_no hl hg
      simp [streamOkM, this]
    have hfl : ∀ (hl : i < s.items.length), s.items[i].fields.length < 4611686018427387904 := fun hl => hs3 _ (List.getElem_mem hl)
    have h : i < s.items.length := by simp at h; omega
    have h0i : (0 : Int) ≤ i := by omega
    have h1i : (i : Int) < s.items.length := by omega
    have wi : IntKind.i64.wrap ((i : Int) + 1) = ((i + 1 : Nat) : Int) := by rw [wrap64 (by omega) (by omega)]; omega
    have hlt := h
    rcases Nat.eq_zero_or_pos i with h0 | h0
    · have hp : ((i : Int) > 0) = False := by simp; omega
      have hG := goodAt_0 (itGood s.last) itLink s.items h h0
      simp -implicitDefEqProofs only [go_sem, hp, hlt, h0i, h1i, row_getD _ _ hlt, It.row]
      refine RegD_of sch_10_5 tysOk (by kernel_rfl) ?_
      simp -implicitDefEqProofs only [go_sem, hp, hlt, h0i, h1i, row_getD _ _ hlt, It.row]
      (repeat' (first   | (refine CallW.one (s_l9Id _ _) p_l9Id (by first | (simp -implicitDefEqProofs only [go_sem]; done) | ((conv => lhs; simp -implicitDefEqProofs only [go_sem]); done) | (simp -implicitDefEqProofs only [go_sem]; rfl) | rfl) (by first | trivial | (simp [DeepR, DeepV, DeepVs, DeepC, DeepCs, T.scal]; done)) ?_; try simp -implicitDefEqProofs only [go_sem, hp, hlt, h0i, h1i, row_getD _ _ hlt, It.row])   | (refine CallW.one (s_sIdLess _ _ _ _) p_sIdLess (by first | (simp -implicitDefEqProofs only [go_sem]; done) | ((conv => lhs; simp -implicitDefEqProofs only [go_sem]); done) | (simp -implicitDefEqProofs only [go_sem]; rfl) | rfl) (by first | trivial | (simp [DeepR, DeepV, DeepVs, DeepC, DeepCs, T.scal]; done)) ?_; try simp -implicitDefEqProofs only [go_sem, hp, hlt, h0i, h1i, row_getD _ _ hlt, It.row])   | (refine CallW.one (s_sFieldsOk s.items[i].fields (hfl (by assumption))) p_sFieldsOk (by first | (simp -implicitDefEqProofs only [go_sem]; done) | ((conv => lhs; simp -implicitDefEqProofs only [go_sem]); done) | (simp -implicitDefEqProofs only [go_sem]; rfl) | rfl) (by first | trivial | (simp [DeepR, DeepV, DeepVs, DeepC, DeepCs, T.scal]; done)) ?_; try simp -implicitDefEqProofs only [go_sem, hp, hlt, h0i, h1i, row_getD _ _ hlt, It.row])   | (refine BrA_i (fun h => ?_) (fun h => ?_) <;> (try simp only [decide_eq_true_eq, decide_eq_false_iff_not, Bool.not_eq_true', Bool.not_eq_false', gt_iff_lt, ge_iff_le] at h) <;> try simp -implicitDefEqProofs only [go_sem, hp, hlt, h0i, h1i, row_getD _ _ hlt, It.row])   | (refine And.intro (a := roomy _ _) (by (unfold roomy; (try simp only [List.length_take, List.length_append, List.length_map, List.length_cons, List.length_nil]); omega)) ?_; try simp -implicitDefEqProofs only [go_sem, hp, hlt, h0i, h1i, row_getD _ _ hlt, It.row])))
      all_goals first
        | (refine bad (by assumption) ?_; rw [hG]; clear bad hz hG hp hi wi h0 hfl hs1 hs2 hs3 hs4 hw; simp_all [-Int.not_lt, -Int.not_le, -Nat.not_lt, -Nat.not_le, itGood, ltM, idM, fieldsFullM]; done)
        | (refine .to [32, 161, 162, 163, 217, 218, 219, 257, 258, 259, 433, 434, 435] (i + 1) rfl (by simp -implicitDefEqProofs only [go_sem, LeTs_undef, LeTs_same, LeTs_nil, wi]) (by simp -implicitDefEqProofs only [go_sem]) (by omega) ⟨by assumption, good_step hz ?_⟩; rw [hG]; clear bad hz hG hp hi wi h0 hfl hs1 hs2 hs3 hs4 hw; simp_all [-Int.not_lt, -Int.not_le, -Nat.not_lt, -Nat.not_le, itGood, ltM, idM, fieldsFullM] <;> exact List.length_pos_iff.2 (by assumption))
    · have hp : ((i : Int) > 0) = True := by simp; omega
      have hG := goodAt_s (itGood s.last) itLink s.items h h0
      have hq : i - 1 < s.items.length := by omega
      have wj : IntKind.i64.wrap ((i : Int) - 1) = ((i - 1 : Nat) : Int) := by rw [wrap64 (by omega) (by omega)]; omega
      have h0j : (0 : Int) ≤ ((i - 1 : Nat) : Int) := by omega
      have h1j : ((i - 1 : Nat) : Int) < s.items.length := by omega
      simp -implicitDefEqProofs only [go_sem, hp, hlt, h0i, h1i, row_getD _ _ hlt, It.row, wj, h0j, h1j, hq, row_getD _ _ hq]
      refine RegD_of sch_10_5 tysOk (by kernel_rfl) ?_
      simp -implicitDefEqProofs only [go_sem, hp, hlt, h0i, h1i, row_getD _ _ hlt, It.row, wj, h0j, h1j, hq, row_getD _ _ hq]
      (repeat' (first   | (refine CallW.one (s_l9Id _ _) p_l9Id (by first | (simp -implicitDefEqProofs only [go_sem]; done) | ((conv => lhs; simp -implicitDefEqProofs only [go_sem]); done) | (simp -implicitDefEqProofs only [go_sem]; rfl) | rfl) (by first | trivial | (simp [DeepR, DeepV, DeepVs, DeepC, DeepCs, T.scal]; done)) ?_; try simp -implicitDefEqProofs only [go_sem, hp, hlt, h0i, h1i, row_getD _ _ hlt, It.row, wj, h0j, h1j, hq, row_getD _ _ hq])   | (refine CallW.one (s_sIdLess _ _ _ _) p_sIdLess (by first | (simp -implicitDefEqProofs only [go_sem]; done) | ((conv => lhs; simp -implicitDefEqProofs only [go_sem]); done) | (simp -implicitDefEqProofs only [go_sem]; rfl) | rfl) (by first | trivial | (simp [DeepR, DeepV, DeepVs, DeepC, DeepCs, T.scal]; done)) ?_; try simp -implicitDefEqProofs only [go_sem, hp, hlt, h0i, h1i, row_getD _ _ hlt, It.row, wj, h0j, h1j, hq, row_getD _ _ hq])   | (refine CallW.one (s_sFieldsOk s.items[i].fields (hfl (by assumption))) p_sFieldsOk (by first | (simp -implicitDefEqProofs only [go_sem]; done) | ((conv => lhs; simp -implicitDefEqProofs only [go_sem]); done) | (simp -implicitDefEqProofs only [go_sem]; rfl) | rfl) (by first | trivial | (simp [DeepR, DeepV, DeepVs, DeepC, DeepCs, T.scal]; done)) ?_; try simp -implicitDefEqProofs only [go_sem, hp, hlt, h0i, h1i, row_getD _ _ hlt, It.row, wj, h0j, h1j, hq, row_getD _ _ hq])   | (refine BrA_i (fun h => ?_) (fun h => ?_) <;> (try simp only [decide_eq_true_eq, decide_eq_false_iff_not, Bool.not_eq_true', Bool.not_eq_false', gt_iff_lt, ge_iff_le] at h) <;> try simp -implicitDefEqProofs only [go_sem, hp, hlt, h0i, h1i, row_getD _ _ hlt, It.row, wj, h0j, h1j, hq, row_getD _ _ hq])   | (refine And.intro (a := roomy _ _) (by (unfold roomy; (try simp only [List.length_take, List.length_append, List.length_map, List.length_cons, List.length_nil]); omega)) ?_; try simp -implicitDefEqProofs only [go_sem, hp, hlt, h0i, h1i, row_getD _ _ hlt, It.row, wj, h0j, h1j, hq, row_getD _ _ hq])))
      all_goals first
        | (refine bad (by assumption) ?_; rw [hG]; clear bad hz hG hp hi wi wj h0j h1j hfl hs1 hs2 hs3 hs4 hw; simp_all [-Int.not_lt, -Int.not_le, -Nat.not_lt, -Nat.not_le, itGood, ltM, idM, fieldsFullM, itLink]; done)
        | (refine .to [32, 161, 162, 163, 217, 218, 219, 257, 258, 259, 433, 434, 435] (i + 1) rfl (by simp -implicitDefEqProofs only [go_sem, LeTs_undef, LeTs_same, LeTs_nil, wi]) (by simp -implicitDefEqProofs only [go_sem]) (by omega) ⟨by assumption, good_step hz ?_⟩; rw [hG]; clear bad hz hG hp hi wi wj h0j h1j hfl hs1 hs2 hs3 hs4 hw; simp_all [-Int.not_lt, -Int.not_le, -Nat.not_lt, -Nat.not_le, itGood, ltM, idM, fieldsFullM, itLink] <;> exact List.length_pos_iff.2 (by assumption))
  · have h : i = s.items.length := by simp at h; omega
    subst h
    have hall : allAt (itGood s.last) itLink s.items = true := (allAt_iff _ _ _).2 hz
    clear hz hi
    refine LoopW.slotsM [false, true, false, false, false, true, false, false, false, false, false, false, false, false, false, false, false, false, false, false, false, false, false, false, false, false, false, false, false, false, false, false, false, false, false, false, false, false, false, false, false, false, false, false, false, false, false, false, false, false, false, false, false, false, false, false, false, false, false, false, false, false, false, false, false, false, false, false, false, false, false, false, false, false, false, false, false, false, false, false, false, false, false, false, false, false, false, false, false, false, false, false, false, false, false, false, false, false, false, false, false, false, false, false, false, false, false, false] (α := Nat) (fun i => [(5, I i)]) (fun _ => []) (fun i => s.groups.length - i) (fun i => i ≤ s.groups.length ∧ ∀ j, j < i → goodAt (grGood s.last) grLink s.groups j = true) 0 (by simp -implicitDefEqProofs only [go_sem, LeTs_undef, LeTs_same, LeTs_nil]; try simp [LeTs]) rfl (by simp) ?_
    rintro i ⟨hi, hz⟩
    simp -implicitDefEqProofs only [go_sem]
    refine BrA_i (fun h => ?_) (fun h => ?_) <;> simp -implicitDefEqProofs only [go_sem]
    · have bad : ∀ (hl : i < s.groups.length), goodAt (grGood s.last) grLink s.groups i = false → AV.t (T.bool false) = Bo (streamOkM s) := fun hl hg => by
        have := allAt_no hl hg
        simp [streamOkM, this]
      have hfl : ∀ (hl : i < s.groups.length), s.groups[i].waits.length < 2000000 := fun hl => hw _ (List.getElem_mem hl)
      have h : i < s.groups.length := by simp at h; omega
      have h0i : (0 : Int) ≤ i := by omega
      have h1i : (i : Int) < s.groups.length := by omega
      have wi : IntKind.i64.wrap ((i : Int) + 1) = ((i + 1 : Nat) : Int) := by rw [wrap64 (by omega) (by omega)]; omega
      have hlt := h
      rcases Nat.eq_zero_or_pos i with h0 | h0
      · have hp : ((i : Int) > 0) = False := by simp; omega
        have hG := goodAt_0 (grGood s.last) grLink s.groups h h0
        simp -implicitDefEqProofs only [go_sem, hp, hlt, h0i, h1i, row_getD _ _ hlt, Gr.row]
        refine RegD_of sch_10_10 tysOk (by kernel_rfl) ?_
        simp -implicitDefEqProofs only [go_sem, hp, hlt, h0i, h1i, row_getD _ _ hlt, Gr.row]
        (repeat' (first   | (refine CallW.one (s_l9Group s s.groups[i] (hfl (by assumption))) p_l9Group (by first | (simp -implicitDefEqProofs only [go_sem]; done) | ((conv => lhs; simp -implicitDefEqProofs only [go_sem]); done) | (simp -implicitDefEqProofs only [go_sem]; rfl) | rfl) (by first | trivial | (simp [DeepR, DeepV, DeepVs, DeepC, DeepCs, T.scal]; done)) ?_; try simp -implicitDefEqProofs only [go_sem, hp, hlt, h0i, h1i, row_getD _ _ hlt, Gr.row])   | (refine BrA_i (fun h => ?_) (fun h => ?_) <;> (try simp only [decide_eq_true_eq, decide_eq_false_iff_not, Bool.not_eq_true', Bool.not_eq_false', gt_iff_lt, ge_iff_le] at h) <;> try simp -implicitDefEqProofs only [go_sem, hp, hlt, h0i, h1i, row_getD _ _ hlt, Gr.row])   | (refine And.intro (a := roomy _ _) (by (unfold roomy; (try simp only [List.length_take, List.length_append, List.length_map, List.length_cons, List.length_nil]); omega)) ?_; try simp -implicitDefEqProofs only [go_sem, hp, hlt, h0i, h1i, row_getD _ _ hlt, Gr.row])))
        all_goals first
          | (refine bad (by assumption) ?_; rw [hG]; clear bad hz hG hp hi wi h0 hfl hs1 hs2 hs3 hs4 hw hall; simp_all [-Int.not_lt, -Int.not_le, -Nat.not_lt, -Nat.not_le, id]; done)
          | (refine .to [569, 570, 571] (i + 1) rfl (by simp -implicitDefEqProofs only [go_sem, LeTs_undef, LeTs_same, LeTs_nil, wi]) (by simp -implicitDefEqProofs only [go_sem]) (by omega) ⟨by assumption, good_step hz ?_⟩; rw [hG]; clear bad hz hG hp hi wi h0 hfl hs1 hs2 hs3 hs4 hw hall; simp_all [-Int.not_lt, -Int.not_le, -Nat.not_lt, -Nat.not_le, id])
      · have hp : ((i : Int) > 0) = True := by simp; omega
        have hG := goodAt_s (grGood s.last) grLink s.groups h h0
        have hq : i - 1 < s.groups.length := by omega
        have wj : IntKind.i64.wrap ((i : Int) - 1) = ((i - 1 : Nat) : Int) := by rw [wrap64 (by omega) (by omega)]; omega
        have h0j : (0 : Int) ≤ ((i - 1 : Nat) : Int) := by omega
        have h1j : ((i - 1 : Nat) : Int) < s.groups.length := by omega
        simp -implicitDefEqProofs only [go_sem, hp, hlt, h0i, h1i, row_getD _ _ hlt, Gr.row, wj, h0j, h1j, hq, row_getD _ _ hq]
        refine RegD_of sch_10_10 tysOk (by kernel_rfl) ?_
        simp -implicitDefEqProofs only [go_sem, hp, hlt, h0i, h1i, row_getD _ _ hlt, Gr.row, wj, h0j, h1j, hq, row_getD _ _ hq]
        (repeat' (first   | (refine CallW.one (s_l9Group s s.groups[i] (hfl (by assumption))) p_l9Group (by first | (simp -implicitDefEqProofs only [go_sem]; done) | ((conv => lhs; simp -implicitDefEqProofs only [go_sem]); done) | (simp -implicitDefEqProofs only [go_sem]; rfl) | rfl) (by first | trivial | (simp [DeepR, DeepV, DeepVs, DeepC, DeepCs, T.scal]; done)) ?_; try simp -implicitDefEqProofs only [go_sem, hp, hlt, h0i, h1i, row_getD _ _ hlt, Gr.row, wj, h0j, h1j, hq, row_getD _ _ hq])   | (refine BrA_i (fun h => ?_) (fun h => ?_) <;> (try simp only [decide_eq_true_eq, decide_eq_false_iff_not, Bool.not_eq_true', Bool.not_eq_false', gt_iff_lt, ge_iff_le] at h) <;> try simp -implicitDefEqProofs only [go_sem, hp, hlt, h0i, h1i, row_getD _ _ hlt, Gr.row, wj, h0j, h1j, hq, row_getD _ _ hq])   | (refine And.intro (a := roomy _ _) (by (unfold roomy; (try simp only [List.length_take, List.length_append, List.length_map, List.length_cons, List.length_nil]); omega)) ?_; try simp -implicitDefEqProofs only [go_sem, hp, hlt, h0i, h1i, row_getD _ _ hlt, Gr.row, wj, h0j, h1j, hq, row_getD _ _ hq])))
        all_goals first
          | (refine bad (by assumption) ?_; rw [hG]; clear bad hz hG hp hi wi wj h0j h1j hfl hs1 hs2 hs3 hs4 hw hall; simp_all [-Int.not_lt, -Int.not_le, -Nat.not_lt, -Nat.not_le, grLink]; done)
          | (refine .to [569, 570, 571] (i + 1) rfl (by simp -implicitDefEqProofs only [go_sem, LeTs_undef, LeTs_same, LeTs_nil, wi]) (by simp -implicitDefEqProofs only [go_sem]) (by omega) ⟨by assumption, good_step hz ?_⟩; rw [hG]; clear bad hz hG hp hi wi wj h0j h1j hfl hs1 hs2 hs3 hs4 hw hall; simp_all [-Int.not_lt, -Int.not_le, -Nat.not_lt, -Nat.not_le, grLink])
    · have h : i = s.groups.length := by simp at h; omega
      subst h
      have hall2 : allAt (grGood s.last) grLink s.groups = true := (allAt_iff _ _ _).2 hz
      (repeat' (first   | (refine CallW.one (s_l9Id _ _) p_l9Id (by first | (simp -implicitDefEqProofs only [go_sem]; done) | ((conv => lhs; simp -implicitDefEqProofs only [go_sem]); done) | (simp -implicitDefEqProofs only [go_sem]; rfl) | rfl) (by first | trivial | (simp [DeepR, DeepV, DeepVs, DeepC, DeepCs, T.scal]; done)) ?_; try simp -implicitDefEqProofs only [go_sem])   | (refine BrA_i (fun h => ?_) (fun h => ?_) <;> (try simp only [decide_eq_true_eq, decide_eq_false_iff_not, Bool.not_eq_true', Bool.not_eq_false', gt_iff_lt, ge_iff_le] at h) <;> try simp -implicitDefEqProofs only [go_sem])   | (refine And.intro (a := roomy _ _) (by (unfold roomy; (try simp only [List.length_take, List.length_append, List.length_map, List.length_cons, List.length_nil]); omega)) ?_; try simp -implicitDefEqProofs only [go_sem])))
      all_goals (clear hz hi hs1 hs2 hs3 hs4 hw; simp_all [-Int.not_lt, -Int.not_le, -Nat.not_lt, -Nat.not_le, streamOkM, idM])
      all_goals first
        | omega
        | (have e1 : s.items.length ≤ 16 := by omega
           simp [e1] <;> omega)
end Go.Proofs.Ytaajnbfnaoecnaa.Am
namespace Go.Proofs.Ytaajnbfnaoecnaa.Am
open Go
set_option maxRecDepth 100000
set_option maxHeartbeats 400000
set_option linter.unusedSimpArgs false
set_option linter.unusedVariables false
theorem p_l9Next : Plain Try.prog 100 := ⟨_, Try.func100, rfl, by decide⟩
theorem s_l9Next (a : Idt) (now : Int) (hb : 0 ≤ a.n ∧ a.n ≤ 1000000000) : Spec Try.prog 100 [.agg [I a.t, I a.n], I now] (fun r => r = .agg [I (nextM a now).t, I (nextM a now).n]) := by
  refine Spec.of tysOk mixed Try.func100 rfl (by decide) ?_
  have w : IntKind.i64.wrap (a.n + 1) = a.n + 1 := wrap64 (by omega) (by omega)
  simp -implicitDefEqProofs only [go_sem, Try.f100, w]
  (repeat' (first   | (refine BrA_i (fun h => ?_) (fun h => ?_) <;> (try simp only [decide_eq_true_eq, decide_eq_false_iff_not, Bool.not_eq_true', Bool.not_eq_false', gt_iff_lt, ge_iff_le] at h) <;> try simp -implicitDefEqProofs only [go_sem, w])   | (refine And.intro (a := roomy _ _) (by (unfold roomy; (try simp only [List.length_take, List.length_append, List.length_map, List.length_cons, List.length_nil]); omega)) ?_; try simp -implicitDefEqProofs only [go_sem, w])))
  all_goals simp_all [-Int.not_lt, -Int.not_le, -Nat.not_lt, -Nat.not_le, nextM]
theorem p_sStreamAdd : Plain Try.prog 68 := ⟨_, Try.func68, rfl, by decide⟩
theorem s_sStreamAdd (s : Stm) (now : Int) (fs : List Pr) (hs : s.md) (hw : ∀ g ∈ s.groups, g.waits.length < 2000000) (hf : fs.length ≤ 1048576) : Spec Try.prog 68 [s.av, I now, .t (.list false 2 (fs.map Pr.row))] (fun r => r = addR (addM s now fs)) := by
  have hsm := hs.sm.1
  have hs1 : s.items.length ≤ 1048576 := hs.1
  refine Spec.of tysOk mixed Try.func68 rfl (by decide) ?_
  simp -implicitDefEqProofs only [go_sem, Try.f68]
  refine CallW.one (s_sStreamOk s hsm hw) p_sStreamOk (by first | (simp -implicitDefEqProofs only [go_sem]; done) | ((conv => lhs; simp -implicitDefEqProofs only [go_sem]); done) | (simp -implicitDefEqProofs only [go_sem]; rfl) | rfl) (by first | trivial | (simp [DeepR, DeepV, DeepVs, DeepC, DeepCs, T.scal]; done)) ?_
  by_cases hok : streamOkM s = true
  · have hi := streamOkM_id hok
    have hi2 := streamOkM_len hok
    have hr : roomy fs.length 32 := by unfold roomy; omega
    have c1 : ((fs.length : Int) = 0) = (¬ 0 < fs.length) := by apply propext; omega
    have c2 : (16 ≤ (s.items.length : Int)) = ((s.items.length : Int) = 16) := by apply propext; omega
    have c3 : ((s.items.length : Int) ≥ 16) = ((s.items.length : Int) = 16) := c2
    simp -implicitDefEqProofs only [go_sem, hok]
    (repeat' (first   | (refine CallW.onep (s_l9Copy s hs) p_l9Copy (by first | (simp -implicitDefEqProofs only [go_sem]; done) | ((conv => lhs; simp -implicitDefEqProofs only [go_sem]); done) | (simp -implicitDefEqProofs only [go_sem]; rfl) | rfl) rfl ?_; try simp -implicitDefEqProofs only [go_sem, shared_Pr, hr, c1, c3])   | (refine CallW.one (s_l9Next s.last now (by omega)) p_l9Next (by first | (simp -implicitDefEqProofs only [go_sem]; done) | ((conv => lhs; simp -implicitDefEqProofs only [go_sem]); done) | (simp -implicitDefEqProofs only [go_sem]; rfl) | rfl) (by first | trivial | (simp [DeepR, DeepV, DeepVs, DeepC, DeepCs, T.scal]; done)) ?_; try simp -implicitDefEqProofs only [go_sem, shared_Pr, hr, c1, c3])   | (refine CallW.one (s_l1In now 0 1000000) p_l1In (by first | (simp -implicitDefEqProofs only [go_sem]; done) | ((conv => lhs; simp -implicitDefEqProofs only [go_sem]); done) | (simp -implicitDefEqProofs only [go_sem]; rfl) | rfl) (by first | trivial | (simp [DeepR, DeepV, DeepVs, DeepC, DeepCs, T.scal]; done)) ?_; try simp -implicitDefEqProofs only [go_sem, shared_Pr, hr, c1, c3])   | (refine CallW.one (s_sFieldsOk fs (by omega)) p_sFieldsOk (by first | (simp -implicitDefEqProofs only [go_sem]; done) | ((conv => lhs; simp -implicitDefEqProofs only [go_sem]); done) | (simp -implicitDefEqProofs only [go_sem]; rfl) | rfl) (by first | trivial | (simp [DeepR, DeepV, DeepVs, DeepC, DeepCs, T.scal]; done)) ?_; try simp -implicitDefEqProofs only [go_sem, shared_Pr, hr, c1, c3])   | (refine CallW.one (s_l9Id _ _) p_l9Id (by first | (simp -implicitDefEqProofs only [go_sem]; done) | ((conv => lhs; simp -implicitDefEqProofs only [go_sem]); done) | (simp -implicitDefEqProofs only [go_sem]; rfl) | rfl) (by first | trivial | (simp [DeepR, DeepV, DeepVs, DeepC, DeepCs, T.scal]; done)) ?_; try simp -implicitDefEqProofs only [go_sem, shared_Pr, hr, c1, c3])   | ((first | refine RegD_of sch_68_7 tysOk (by decide +kernel) ?_ | refine RegD_of sch_68_9 tysOk (by decide +kernel) ?_); try simp -implicitDefEqProofs only [go_sem, shared_Pr, hr, c1, c3])   | (refine BrA_i (fun h => ?_) (fun h => ?_) <;> (try simp only [decide_eq_true_eq, decide_eq_false_iff_not, Bool.not_eq_true', Bool.not_eq_false', gt_iff_lt, ge_iff_le] at h) <;> try simp -implicitDefEqProofs only [go_sem, shared_Pr, hr, c1, c3])   | (refine And.intro (a := roomy _ _) (by (unfold roomy; (try simp only [List.length_take, List.length_append, List.length_map, List.length_cons, List.length_nil]); omega)) ?_; try simp -implicitDefEqProofs only [go_sem, shared_Pr, hr, c1, c3])))
    all_goals (clear hw hs hsm hr c1 c2 c3; simp_all [-Int.not_lt, -Int.not_le, -Nat.not_lt, -Nat.not_le, addM, idM, It.rowO, fieldsFullM])
  · have hok : streamOkM s = false := by simpa using hok
    simp -implicitDefEqProofs only [go_sem, hok]
    simp [addM, hok]
end Go.Proofs.Ytaajnbfnaoecnaa.Am
namespace Go.Proofs.Ytaajnbfnaoecnaa.Am
open Go
set_option maxRecDepth 100000
set_option linter.unusedSimpArgs false
set_option linter.unusedVariables false
def Idt.row (x : Idt) : List T := [.int .i64 x.t, .int .i64 x.n]
def lG {α : Type} (G : α → Prop) (xs : List α) : Prop := xs.length ≤ 140737488351232 ∧ ∀ x ∈ xs, G x
def Pr.G (x : Pr) : Prop := x.k.size ≤ 140737488351232 ∧ x.v.size ≤ 140737488351232
def It.G (x : It) : Prop := lG Pr.G x.fields
def Wt.G (x : Wt) : Prop := x.who.size ≤ 140737488351232
def Gr.G (x : Gr) : Prop := x.name.size ≤ 140737488351232 ∧ lG Wt.G x.waits
def Stm.G (x : Stm) : Prop := lG It.G x.items ∧ lG Gr.G x.groups
end Go.Proofs.Ytaajnbfnaoecnaa.Am
namespace Go.Proofs.Ytaajnbfnaoecnaa.Am
open Go
set_option maxRecDepth 100000
set_option linter.unusedSimpArgs false
set_option linter.unusedVariables false
def Stm.mw (s : Stm) : Nat := wSum It.mw s.items + wSum Gr.mw s.groups
def Stm.m (s : Stm) (k : Int) : Stm := ⟨s.last, mkAll It.m It.mw s.items k, mkAll Gr.m Gr.mw s.groups (k + (wSum It.mw s.items : Nat))⟩
theorem Stm.m_last (s : Stm) (k : Int) : (s.m k).last = s.last := rfl
attribute [go_sem] Stm.m_last
theorem It.mk_rowsO (l : List It) : (l.map It.rowO).map (List.map (T.mk false)) = l.map It.row := by
  rw [List.map_map]; exact List.map_congr_left fun x _ => by simp only [Function.comp, It.rowO, It.row, List.map_cons, List.map_nil, T.mk_list, T.mk_int, Pr.mk_rows]
theorem Gr.mk_rowsO (l : List Gr) : (l.map Gr.rowO).map (List.map (T.mk false)) = l.map Gr.row := by
  rw [List.map_map]; exact List.map_congr_left fun x _ => by simp only [Function.comp, Gr.rowO, Gr.row, List.map_cons, List.map_nil, T.mk_list, T.mk_int, T.mk_str, Wt.mk_rows]
attribute [go_sem] It.mk_rowsO Gr.mk_rowsO
theorem deep_rows {α : Type} (row : α → List T) (h : ∀ x, ∀ t ∈ row x, Deep t) (n : Nat) (l : List α) : Deep (.list true n (l.map row)) :=
  .list _ _ fun r hr x hx => by
    obtain ⟨y, _, rfl⟩ := List.mem_map.1 hr
    exact h y x hx
theorem deep_prs (l : List Pr) : Deep (.list true 2 (l.map Pr.row)) := deep_rows _ (fun x t ht => by simp only [Pr.row, List.mem_cons, List.not_mem_nil, or_false] at ht; rcases ht with rfl | rfl <;> exact .sc _ trivial) _ _
theorem deep_wts (l : List Wt) : Deep (.list true 5 (l.map Wt.row)) := deep_rows _ (fun x t ht => by simp only [Wt.row, List.mem_cons, List.not_mem_nil, or_false] at ht; rcases ht with rfl | rfl | rfl | rfl | rfl <;> exact .sc _ trivial) _ _
theorem deep_its (l : List It) : Deep (.list true 3 (l.map It.rowO)) := deep_rows _ (fun x t ht => by simp only [It.rowO, List.mem_cons, List.not_mem_nil, or_false] at ht; rcases ht with rfl | rfl | rfl <;> first | exact .sc _ trivial | exact deep_prs _) _ _
theorem deep_grs (l : List Gr) : Deep (.list true 4 (l.map Gr.rowO)) := deep_rows _ (fun x t ht => by simp only [Gr.rowO, List.mem_cons, List.not_mem_nil, or_false] at ht; rcases ht with rfl | rfl | rfl | rfl <;> first | exact .sc _ trivial | exact deep_wts _) _ _
theorem deep_avO (s : Stm) : DeepR s.avO := ⟨trivial, trivial, deep_its _, deep_grs _, trivial⟩
theorem deep_addR (x : Stm × Idt × Bool) : DeepR (addR x) := ⟨deep_avO x.1, ⟨trivial, trivial, trivial⟩, trivial, trivial⟩
end Go.Proofs.Ytaajnbfnaoecnaa.Am
namespace Go.Proofs.Ytaajnbfnaoecnaa.Am
open Go
set_option linter.unusedSimpArgs false
set_option linter.unusedVariables false
theorem bl_irrefl : ∀ x : List UInt8, Op.bytesLess x x = false
  | [] => rfl
  | a :: x => by simp [Op.bytesLess, bl_irrefl x]
theorem bl_trans : ∀ {x y z : List UInt8}, Op.bytesLess x y = true → Op.bytesLess y z = true → Op.bytesLess x z = true
  | _, [], _, h, _ => by simp [Op.bytesLess] at h
  | _, _ :: _, [], _, h => by simp [Op.bytesLess] at h
  | [], _ :: _, _ :: _, _, _ => rfl
  | a :: x, b :: y, c :: z, h, h' => by
    simp only [Op.bytesLess, Bool.or_eq_true, Bool.and_eq_true, decide_eq_true_eq, beq_iff_eq] at h h' ⊢
    rcases h with h | ⟨rfl, h⟩
    · rcases h' with h' | ⟨rfl, h'⟩
      · exact .inl (UInt8.lt_trans h h')
      · exact .inl h
    · rcases h' with h' | ⟨rfl, h'⟩
      · exact .inl h'
      · exact .inr ⟨rfl, bl_trans h h'⟩
theorem bl_total : ∀ {x y : List UInt8}, x ≠ y → Op.bytesLess x y = false → Op.bytesLess y x = true
  | [], [], h, _ => absurd rfl h
  | [], _ :: _, _, h => by simp [Op.bytesLess] at h
  | _ :: _, [], _, _ => rfl
  | a :: x, b :: y, h, h' => by
    simp only [Op.bytesLess, Bool.or_eq_false_iff, Bool.and_eq_false_iff, decide_eq_false_iff_not, beq_eq_false_iff_ne, ne_eq] at h'
    simp only [Op.bytesLess, Bool.or_eq_true, Bool.and_eq_true, decide_eq_true_eq, beq_iff_eq]
    obtain ⟨h1, h2⟩ := h'
    by_cases e : a = b
    · subst e
      refine .inr ⟨rfl, bl_total (fun e => h (by rw [e])) (by simpa using h2)⟩
    · have hne : a.toNat ≠ b.toNat := fun h => e (UInt8.toNat_inj.1 h)
      have h3 : a.toNat < b.toNat ∨ b.toNat < a.toNat := by omega
      rcases h3 with h3 | h3
      · exact absurd (UInt8.lt_iff_toNat_lt.2 h3) h1
      · exact .inl (UInt8.lt_iff_toNat_lt.2 h3)
theorem bytesLt_irrefl (a : ByteArray) : bytesLt a a = false := bl_irrefl _
theorem bytesLt_trans {a b c : ByteArray} (h : bytesLt a b = true) (h' : bytesLt b c = true) : bytesLt a c = true := bl_trans h h'
theorem bytesLt_total {a b : ByteArray} (h : a ≠ b) (h' : bytesLt a b = false) : bytesLt b a = true := by
  refine bl_total (fun e => h ?_) h'
  have := bytesEq_iff a b
  unfold bytesEq at this
  rw [e] at this
  simpa using this
theorem allAt_nil {α : Type} (good : α → Bool) (link : α → α → Bool) : allAt good link [] = true := rfl
theorem allAt_one {α : Type} (good : α → Bool) (link : α → α → Bool) (x : α) : allAt good link [x] = good x := by simp [allAt]
theorem allAt_cons {α : Type} (good : α → Bool) (link : α → α → Bool) (x y : α) (l : List α) : allAt good link (x :: y :: l) = (good x && link x y && allAt good link (y :: l)) := by
  simp only [allAt, List.all_cons, List.tail_cons, List.zip_cons_cons]
  cases good x <;> cases link x y <;> simp
def insM : List Pr → Pr → List Pr
  | [], p => [p]
  | x :: l, p => if bytesLt x.k p.k = true then x :: insM l p else p :: x :: l
theorem insM_len (l : List Pr) (p : Pr) : (insM l p).length = l.length + 1 := by
  induction l with
  | nil => rfl
  | cons x l ih => simp only [insM]; split <;> simp [ih]
theorem insM_mem (l : List Pr) (p x : Pr) : x ∈ insM l p → x = p ∨ x ∈ l := by
  induction l with
  | nil => intro h; simpa [insM] using h
  | cons y l ih =>
    simp only [insM]
    split
    · intro h
      rcases List.mem_cons.1 h with rfl | h
      · exact .inr (by simp)
      · exact (ih h).imp id (fun h => List.mem_cons_of_mem _ h)
    · intro h
      exact List.mem_cons.1 h
theorem insM_head (l : List Pr) (p x : Pr) (hx : bytesLt x.k p.k = true) (h : ∀ y ∈ l.head?, bytesLt x.k y.k = true) : ∀ y ∈ (insM l p).head?, bytesLt x.k y.k = true := by
  cases l with
  | nil => intro y hy; simp [insM] at hy; subst hy; exact hx
  | cons z l =>
    intro y hy
    simp only [insM] at hy
    split at hy
    · simp at hy; subst hy; exact h z (by simp)
    · simp at hy; subst hy; exact hx
theorem allAt_consM (x : Pr) (l : List Pr) : allAt prGood prLink (x :: l) = true ↔ prGood x = true ∧ (∀ y ∈ l.head?, bytesLt x.k y.k = true) ∧ allAt prGood prLink l = true := by
  cases l with
  | nil => rw [allAt_one, allAt_nil]; simp
  | cons y l => rw [allAt_cons]; simp [prLink, Bool.and_eq_true, and_assoc]
theorem insM_ok (l : List Pr) (p : Pr) (hp : prGood p = true) (hl : allAt prGood prLink l = true) (hn : ∀ x ∈ l, x.k ≠ p.k) : allAt prGood prLink (insM l p) = true := by
  induction l with
  | nil => simpa [insM, allAt_one] using hp
  | cons x l ih =>
    obtain ⟨h1, h2, h3⟩ := (allAt_consM x l).1 hl
    simp only [insM]
    split
    · rename_i hx
      exact (allAt_consM _ _).2 ⟨h1, insM_head l p x hx h2, ih h3 (fun y hy => hn y (List.mem_cons_of_mem _ hy))⟩
    · rename_i hx
      refine (allAt_consM _ _).2 ⟨hp, fun y hy => ?_, hl⟩
      simp at hy
      subst hy
      exact bytesLt_total (hn x (by simp)) (by simpa using hx)
end Go.Proofs.Ytaajnbfnaoecnaa.Am
namespace Go.Proofs.Ytaajnbfnaoecnaa.Am
open Go
set_option maxRecDepth 100000
set_option maxHeartbeats 1000000
set_option linter.unusedSimpArgs false
set_option linter.unusedVariables false
def atM : List Pr → ByteArray → Nat
  | [], _ => 0
  | x :: l, f => if bytesLt x.k f = true then atM l f + 1 else 0
theorem atM_le : ∀ (l : List Pr) (f : ByteArray), atM l f ≤ l.length
  | [], _ => Nat.le_refl _
  | x :: l, f => by
    have := atM_le l f
    simp only [atM, List.length_cons]; split <;> omega
theorem atM_of {l : List Pr} {f : ByteArray} : ∀ {i : Nat}, i ≤ l.length → (∀ j (h : j < l.length), j < i → bytesLt l[j].k f = true) → (∀ h : i < l.length, bytesLt l[i].k f = false) → atM l f = i := by
  induction l with
  | nil => intro i hi _ _; simp at hi; simp [atM, hi]
  | cons x l ih =>
    intro i hi hj hs
    cases i with
    | zero =>
      have := hs (by simp)
      simp only [List.getElem_cons_zero] at this
      simp [atM, this]
    | succ i =>
      have h0 := hj 0 (by simp) (by omega)
      simp only [List.getElem_cons_zero] at h0
      simp only [atM, h0, if_true]
      rw [ih (i := i) (by simpa using hi) (fun j h hji => by have := hj (j + 1) (by simpa using h) (by omega); rwa [List.getElem_cons_succ] at this) (fun h => by have := hs (by simpa using h); rwa [List.getElem_cons_succ] at this)]
def thereM (l : List Pr) (f : ByteArray) : Bool := match l[atM l f]? with
  | some x => decide (x.k = f)
  | none => false
theorem p_l3At : Plain Try.prog 114 := ⟨_, Try.func114, rfl, by decide⟩
theorem s_l3At (l : List Pr) (f : ByteArray) (hl : l.length ≤ 1048576) : Spec Try.prog 114 [.t (.list false 2 (l.map Pr.row)), .t (.str f)] (fun r => r = .tup [I (atM l f), Bo (thereM l f)]) := by
  refine Spec.of tysOk mixed Try.func114 rfl (by decide) ?_
  simp -implicitDefEqProofs only [go_sem, Try.f114]
  have fin : ∀ i, i ≤ l.length → (∀ j (h : j < l.length), j < i → bytesLt l[j].k f = true) → (∀ h : i < l.length, bytesLt l[i].k f = false) → atM l f = i ∧ thereM l f = (if h : i < l.length then decide (l[i].k = f) else false) := by
    intro i hi hj hs
    have e := atM_of hi hj hs
    refine ⟨e, ?_⟩
    unfold thereM
    rw [e]
    by_cases h : i < l.length
    · rw [List.getElem?_eq_getElem h, dif_pos h]
    · rw [List.getElem?_eq_none (by omega), dif_neg h]
  refine LoopW.slotsM [true, true, false, false, false, false, true, false, false, false, false, false, false, false, false, false, false, false, false, false, false, false, false, false, false, false, false, false, false, false, false, false, false, false, false, false] (α := Nat) (fun i => [(6, I i)]) (fun i => []) (fun i => l.length - i) (fun i => i ≤ l.length ∧ ∀ j (h : j < l.length), j < i → bytesLt l[j].k f = true) 0 (by simp -implicitDefEqProofs only [go_sem, LeTs_undef, LeTs_same, LeTs_nil]; try simp [LeTs]) rfl ⟨by omega, fun _ _ h => by omega⟩ ?_
  rintro i ⟨hi, hj⟩
  simp -implicitDefEqProofs only [go_sem]
  refine BrA_i (fun h => ?_) (fun h => ?_) <;> simp -implicitDefEqProofs only [go_sem]
  · skip
    have h : i < l.length := by simp at h; omega
    have h0i : (0 : Int) ≤ i := by omega
    have h1i : (i : Int) < l.length := by omega
    have wi : IntKind.i64.wrap ((i : Int) + 1) = ((i + 1 : Nat) : Int) := by rw [wrap64 (by omega) (by omega)]; omega
    have hr := row_getD Pr.row l h
    simp only [Pr.row] at hr
    simp -implicitDefEqProofs only [go_sem, h, h0i, h1i, hr, wi]
    refine BrA_i (fun h2 => ?_) (fun h2 => ?_) <;> simp -implicitDefEqProofs only [go_sem, h, h0i, h1i, hr, wi]
    · refine .to [] (i + 1) rfl ?_ ?_ (by omega) ⟨by omega, fun j hj2 hj3 => by
        by_cases hji : j < i
        · exact hj j hj2 hji
        · obtain rfl : j = i := by omega
          exact h2⟩ <;> simp -implicitDefEqProofs only [go_sem, LeTs_undef, LeTs_same, LeTs_nil, wi]
    · obtain ⟨e1, e2⟩ := fin i hi hj (fun _ => h2)
      rw [dif_pos h] at e2
      refine RegD_of sch_114_4 tysOk (by kernel_rfl) ?_
      simp -implicitDefEqProofs only [go_sem, h, h0i, h1i, hr, wi, e1, e2]
  · have h : i = l.length := by simp at h; omega
    subst h
    obtain ⟨e1, e2⟩ := fin l.length hi hj (fun h => by omega)
    rw [dif_neg (by omega)] at e2
    refine RegD_of sch_114_4 tysOk (by kernel_rfl) ?_
    simp -implicitDefEqProofs only [go_sem, e1, e2, Int.lt_irrefl, decide_false]
def putOut (l : List Pr) (p : Pr) : List Pr := if thereM l p.k = true then l.set (atM l p.k) p else l.take (atM l p.k) ++ p :: l.drop (atM l p.k)
def putM (l : List Pr) (p : Pr) : List Pr × Bool × Bool :=
  if fieldsOkM l = true then (if fieldsOkM (putOut l p) = true then (putOut l p, !(thereM l p.k), true) else (l, false, false)) else ([], false, false)
abbrev putR (x : List Pr × Bool × Bool) : AV := .tup [.own (.list true 2 (x.1.map Pr.row)), Bo x.2.1, Bo x.2.2]
theorem deep_putR (x : List Pr × Bool × Bool) : DeepR (putR x) := ⟨deep_prs _, trivial, trivial, trivial⟩
theorem fieldsOkM_len {l : List Pr} (h : fieldsOkM l = true) : l.length ≤ 16 := by
  unfold fieldsOkM at h
  simp only [Bool.and_eq_true, decide_eq_true_eq] at h
  exact h.2
theorem thereM_lt {l : List Pr} {f : ByteArray} (h : thereM l f = true) : atM l f < l.length := by
  unfold thereM at h
  by_cases hh : atM l f < l.length
  · exact hh
  · rw [List.getElem?_eq_none (by omega)] at h; cases h
theorem putOut_len (l : List Pr) (p : Pr) : (putOut l p).length ≤ l.length + 1 := by
  unfold putOut
  split
  · rw [List.length_set]; omega
  · simp only [List.length_append, List.length_take, List.length_cons, List.length_drop]; omega
theorem p_sFieldsPut : Plain Try.prog 98 := ⟨_, Try.func98, rfl, by decide⟩
theorem s_sFieldsPut (l : List Pr) (p : Pr) (hl : l.length ≤ 1048576) : Spec Try.prog 98 [.t (.list false 2 (l.map Pr.row)), p.av] (fun r => r = putR (putM l p)) := by
  refine Spec.of tysOk mixed Try.func98 rfl (by decide) ?_
  simp -implicitDefEqProofs only [go_sem, Try.f98]
  refine CallW.one (s_sFieldsOk l (by omega)) p_sFieldsOk (by first | (simp -implicitDefEqProofs only [go_sem]; done) | ((conv => lhs; simp -implicitDefEqProofs only [go_sem]); done) | (simp -implicitDefEqProofs only [go_sem]; rfl) | rfl) (by first | trivial | (simp [DeepR, DeepV, DeepVs, DeepC, DeepCs, T.scal]; done)) ?_
  simp -implicitDefEqProofs only [go_sem]
  cases hok : fieldsOkM l
  · simp -implicitDefEqProofs only [go_sem]
    simp [putM, hok]
  have h16 := fieldsOkM_len hok
  have hal := atM_le l p.k
  have ho := putOut_len l p
  have a0 : (0 : Int) ≤ (atM l p.k : Nat) := by omega
  have a1 : ((atM l p.k : Nat) : Int) ≤ l.length := by omega
  simp -implicitDefEqProofs only [go_sem]
  refine CallW.one (s_l3At l p.k hl) p_l3At (by first | (simp -implicitDefEqProofs only [go_sem]; done) | ((conv => lhs; simp -implicitDefEqProofs only [go_sem]); done) | (simp -implicitDefEqProofs only [go_sem]; rfl) | rfl) (by first | trivial | (simp [DeepR, DeepV, DeepVs, DeepC, DeepCs, T.scal]; done)) ?_
  simp -implicitDefEqProofs only [go_sem, shared_Pr]
  refine ⟨by unfold roomy; omega, ?_⟩
  cases ht : thereM l p.k
  · have hpo : putOut l p = l.take (atM l p.k) ++ p :: l.drop (atM l p.k) := by simp [putOut, ht]
    simp -implicitDefEqProofs only [go_sem, a0, a1]
    refine RegD_of sch_98_7 tysOk (by kernel_rfl) ?_
    simp -implicitDefEqProofs only [go_sem, a0, a1]
    have e1 : sharedRows (List.take (atM l p.k - Int.toNat 0) (List.drop (Int.toNat 0) (List.map Pr.row l))) = (l.take (atM l p.k)).map Pr.row := by
      rw [show Int.toNat 0 = 0 from rfl, Nat.sub_zero, List.drop_zero, ← List.map_take, shared_Pr]
    have e2 : sharedRows (List.take (l.length - atM l p.k) (List.drop (atM l p.k) (List.map Pr.row l))) = (l.drop (atM l p.k)).map Pr.row := by
      rw [← List.map_drop, List.take_of_length_le (by simp), shared_Pr]
    have e3 : (l.take (atM l p.k)).map Pr.row ++ [[T.str p.k, T.str p.v]] ++ (l.drop (atM l p.k)).map Pr.row = (putOut l p).map Pr.row := by
      rw [hpo, List.map_append, List.map_cons, List.append_assoc]; rfl
    simp only [e1, e2, e3]
    refine ⟨by omega, by unfold roomy; simp; omega, by unfold roomy; simp; omega, by unfold roomy; simp; omega, ?_⟩
    refine CallW.one (s_sFieldsOk (putOut l p) (by omega)) p_sFieldsOk (by first | (simp -implicitDefEqProofs only [go_sem]; done) | ((conv => lhs; simp -implicitDefEqProofs only [go_sem]); done) | (simp -implicitDefEqProofs only [go_sem]; rfl) | rfl) (by first | trivial | (simp [DeepR, DeepV, DeepVs, DeepC, DeepCs, T.scal]; done)) ?_
    simp -implicitDefEqProofs only [go_sem]
    cases hok2 : fieldsOkM (putOut l p)
    · simp -implicitDefEqProofs only [go_sem, shared_Pr]
      exact ⟨by unfold roomy; omega, by simp [putM, hok, hok2]⟩
    · simp -implicitDefEqProofs only [go_sem]
      simp [putM, hok, hok2, ht]
  · have hlt := thereM_lt ht
    have hpo : putOut l p = l.set (atM l p.k) p := by simp [putOut, ht]
    have a2 : ((atM l p.k : Nat) : Int) < l.length := by omega
    have e3 : (List.map Pr.row l).set (atM l p.k) [T.str p.k, T.str p.v] = (putOut l p).map Pr.row := by rw [hpo, List.map_set]; rfl
    have e4 := row_getD Pr.row l hlt
    simp only [Pr.row] at e4
    simp -implicitDefEqProofs only [go_sem, a0, a2, e4, e3]
    refine ⟨hlt, ?_⟩
    refine CallW.one (s_sFieldsOk (putOut l p) (by omega)) p_sFieldsOk (by first | (simp -implicitDefEqProofs only [go_sem]; done) | ((conv => lhs; simp -implicitDefEqProofs only [go_sem]); done) | (simp -implicitDefEqProofs only [go_sem]; rfl) | rfl) (by first | trivial | (simp [DeepR, DeepV, DeepVs, DeepC, DeepCs, T.scal]; done)) ?_
    simp -implicitDefEqProofs only [go_sem]
    cases hok2 : fieldsOkM (putOut l p)
    · simp -implicitDefEqProofs only [go_sem, shared_Pr]
      exact ⟨by unfold roomy; omega, by simp [putM, hok, hok2]⟩
    · simp -implicitDefEqProofs only [go_sem]
      simp [putM, hok, hok2, ht]
theorem ins_eq (l : List Pr) (p : Pr) : l.take (atM l p.k) ++ p :: l.drop (atM l p.k) = insM l p := by
  induction l with
  | nil => rfl
  | cons x l ih =>
    simp only [atM, insM]
    split
    · simp [ih]
    · rfl
theorem thereM_no {l : List Pr} {f : ByteArray} (h : ∀ x ∈ l, x.k ≠ f) : thereM l f = false := by
  unfold thereM
  cases e : l[atM l f]? with
  | none => rfl
  | some x => simp [h x (List.mem_of_getElem? e)]
theorem putM_new {l : List Pr} {p : Pr} (hl : fieldsOkM l = true) (hp : prGood p = true) (hn : ∀ x ∈ l, x.k ≠ p.k) (h16 : l.length < 16) : (putM l p).1 = insM l p ∧ (putM l p).1.length = l.length + 1 := by
  have ht := thereM_no hn
  have hpo : putOut l p = insM l p := by
    unfold putOut
    rw [if_neg (by simp [ht]), ins_eq]
  have hok : fieldsOkM (insM l p) = true := by
    have hl' := hl
    unfold fieldsOkM at hl' ⊢
    simp only [Bool.and_eq_true, decide_eq_true_eq] at hl' ⊢
    exact ⟨insM_ok l p hp hl'.1 hn, by rw [insM_len]; omega⟩
  have e : (putM l p).1 = insM l p := by
    unfold putM
    rw [if_pos hl, hpo, if_pos hok]
  exact ⟨e, by rw [e, insM_len]⟩
theorem putM_mem {l : List Pr} {p x : Pr} (h : x ∈ (putM l p).1) : x = p ∨ x ∈ l := by
  unfold putM at h
  split at h
  · split at h
    · unfold putOut at h
      split at h
      · rcases List.mem_or_eq_of_mem_set h with h | h
        · exact .inr h
        · exact .inl h
      · rw [ins_eq] at h; exact insM_mem l p x h
    · exact .inr h
  · cases h
end Go.Proofs.Ytaajnbfnaoecnaa.Am
namespace Go.Proofs.Ytaajnbfnaoecnaa.Am
open Go
set_option maxRecDepth 100000
set_option linter.unusedSimpArgs false
set_option linter.unusedVariables false
def decM (n : Nat) : ByteArray := if h : n < 10 then dig n else decM (n / 10) ++ dig (n % 10)
termination_by n
decreasing_by omega
theorem decM_lt {n : Nat} (h : n < 10) : decM n = dig n := by rw [decM, dif_pos h]
theorem decM_ge {n : Nat} (h : ¬ n < 10) : decM n = decM (n / 10) ++ dig (n % 10) := by rw [decM, dif_neg h]
def bval (l : List UInt8) : Nat := l.foldl (fun a b => 10 * a + (b.toNat - 48)) 0
theorem bval_snoc (l : List UInt8) (b : UInt8) : bval (l ++ [b]) = 10 * bval l + (b.toNat - 48) := by simp [bval, List.foldl_append]
theorem dig_list (n : Nat) (h : n < 10) : ∃ b : UInt8, (dig n).data.toList = [b] ∧ b.toNat = 48 + n := by
  refine ⟨UInt8.ofNat (IntKind.u8.wrap (48 + (n : Int))).toNat, rfl, ?_⟩
  have : IntKind.u8.wrap (48 + (n : Int)) = 48 + (n : Int) := by
    simp [IntKind.wrap, IntKind.signed, IntKind.bits]; omega
  rw [this]
  have h2 : (48 + (n : Int)).toNat = 48 + n := by omega
  rw [h2]
  simp [UInt8.toNat_ofNat']
  omega
theorem bval_decM (n : Nat) : bval (decM n).data.toList = n := by
  induction n using Nat.strongRecOn with
  | _ n ih =>
    by_cases h : n < 10
    · obtain ⟨b, h1, h2⟩ := dig_list n h
      rw [decM_lt h, h1]
      simp [bval, h2]
    · obtain ⟨b, h1, h2⟩ := dig_list (n % 10) (by omega)
      rw [decM_ge h, ByteArray.data_append, Array.toList_append, h1, bval_snoc, ih _ (by omega), h2]
      omega
theorem decM_inj {m n : Nat} (h : decM m = decM n) : m = n := by
  have := congrArg (fun b : ByteArray => bval b.data.toList) h
  simpa [bval_decM] using this
theorem decM_size (n : Nat) (h : n < 10000000000000000000) : (decM n).size ≤ 19 := by
  have : ∀ k n, n < 10 ^ (k + 1) → (decM n).size ≤ k + 1 := by
    intro k
    induction k with
    | zero => intro n hn; rw [decM_lt (by simpa using hn)]; show 1 ≤ 1; omega
    | succ k ih =>
      intro n hn
      by_cases h : n < 10
      · rw [decM_lt h]; show 1 ≤ _; omega
      · rw [decM_ge h, ByteArray.size_append]
        have := ih (n / 10) (by rw [Nat.pow_succ] at hn; omega)
        have h1 : (dig (n % 10)).size = 1 := rfl
        omega
  exact this 18 n (by simpa using h)
theorem app_inj {a b c : ByteArray} (h : a ++ b = a ++ c) : b = c := by
  have := congrArg (fun x : ByteArray => x.data.toList) h
  simp only [ByteArray.data_append, Array.toList_append, List.append_cancel_left_eq] at this
  obtain ⟨⟨x⟩⟩ := b
  obtain ⟨⟨y⟩⟩ := c
  simp at this
  rw [this]
theorem p_l1Dec : Plain Try.prog 99 := ⟨_, Try.func99, rfl, by decide⟩
theorem s_l1Dec (n : Nat) (hn : n < 1000000000000000000) : Spec Try.prog 99 [I n] (fun r => r = .t (.str (decM n))) := by
  induction n using Nat.strongRecOn with
  | _ n ih =>
    refine Spec.of tysOk mixed Try.func99 rfl (by decide) ?_
    have h1 : ¬ (n : Int) < -9223372036854775807 := by omega
    have h2 : ¬ (n : Int) < 0 := by omega
    simp -implicitDefEqProofs only [go_sem, Try.f99, h1, h2, decide_false]
    refine BrA_i (fun h => ?_) (fun h => ?_)
    · have h : n < 10 := by have := of_decide_eq_true h; omega
      have w : IntKind.i64.wrap (48 + (n : Int)) = 48 + (n : Int) := wrap64 (by omega) (by omega)
      simp -implicitDefEqProofs only [go_sem, w]
      rw [decM_lt h]; rfl
    · have h : ¬ n < 10 := by have := of_decide_eq_false h; omega
      have e1 : (n : Int).tmod 10 = ((n % 10 : Nat) : Int) := rfl
      have e2 : IntKind.i64.wrap ((n : Int).tdiv 10) = ((n / 10 : Nat) : Int) := by
        have h0 : (n : Int).tdiv 10 = ((n / 10 : Nat) : Int) := rfl
        rw [h0, wrap64 (by omega) (by omega)]
      have w : IntKind.i64.wrap (48 + ((n % 10 : Nat) : Int)) = 48 + ((n % 10 : Nat) : Int) := wrap64 (by omega) (by omega)
      have ed : (⟨#[UInt8.ofNat (IntKind.u8.wrap (48 + ((n % 10 : Nat) : Int))).toNat]⟩ : ByteArray) = dig (n % 10) := rfl
      have hsz := decM_size (n / 10) (by omega)
      have hs2 : ((decM (n / 10)).size : Int) + (dig (n % 10)).size ≤ strMax := by
        have : (dig (n % 10)).size = 1 := rfl
        unfold strMax; omega
      simp -implicitDefEqProofs only [go_sem]
      refine RegD_of sch_99_7 tysOk (by kernel_rfl) ?_
      simp -implicitDefEqProofs only [go_sem, e1, e2, w]
      refine ⟨?_, ?_⟩
      all_goals (first | (refine CallW.one (ih (n / 10) (by omega) (by omega)) p_l1Dec rfl trivial ?_) | skip)
      all_goals simp -implicitDefEqProofs only [go_sem, e1, e2, w, ed, hs2, decM_ge h]
end Go.Proofs.Ytaajnbfnaoecnaa.Am
namespace Go.Proofs.Ytaajnbfnaoecnaa.Am
open Go
set_option maxRecDepth 100000
set_option maxHeartbeats 1000000
set_option linter.unusedSimpArgs false
set_option linter.unusedVariables false
theorem Drw.to {bs : List Int} {p q : Int} (h : Drw bs p) (h0 : p ≤ q) (h1 : q ≤ 1000000000) : Drw bs q := ⟨h.b, h.l, by have := h.p0; omega, h1⟩
def Idt.dr (i : Idt) : Prop := -1 ≤ i.t ∧ i.t ≤ 1000001 ∧ -1 ≤ i.n ∧ i.n ≤ 1000000001
theorem p_l11Id : Plain Try.prog 90 := ⟨_, Try.func90, rfl, by decide⟩
theorem s_l11Id (bs : List Int) (p : Int) (h : Drw bs p) (hp : p ≤ 900000000) : SpecO Try.prog 90 [.ptr 9000 0 0] (dwH bs p)
    (fun r h' => (∃ i : Idt, r = i.av ∧ i.dr) ∧ h' = dwH bs (p + 2)) := by
  refine SpecO.of tysOk mixed Try.func90 rfl (by decide) ?_
  have e : p + 1 + 1 = p + 2 := by omega
  simp -implicitDefEqProofs only [go_sem, Try.f90]
  refine CallW.o [(9000, 9000), (9001, 32)] (s_oneI bs p [0, 1, 3, 5, 9, 1000000] h (by simp)) p_oneI o91 rfl (by (conv => lhs; simp -implicitDefEqProofs only [go_sem]) <;> rfl) (by (simp -implicitDefEqProofs only [go_sem]) <;> rfl) ?_
  rintro _ _ ⟨⟨a, rfl, ha⟩, rfl⟩
  simp -implicitDefEqProofs only [go_sem]
  refine CallW.o [(9000, 9000), (9001, 56)] (s_oneI bs (p + 1) [0, 0, 1, 2, 1000000000] (h.to (by omega) (by omega)) (by simp)) p_oneI o91 rfl (by (conv => lhs; simp -implicitDefEqProofs only [go_sem]) <;> rfl) (by (simp -implicitDefEqProofs only [go_sem]) <;> rfl) ?_
  rintro _ _ ⟨⟨b, rfl, hb⟩, rfl⟩
  simp -implicitDefEqProofs only [go_sem, e]
  refine ⟨⟨a, b⟩, rfl, ?_⟩
  simp only [List.mem_cons, List.not_mem_nil, or_false] at ha hb
  unfold Idt.dr
  simp only
  omega
theorem p_l11AnyId : Plain Try.prog 56 := ⟨_, Try.func56, rfl, by decide⟩
theorem s_l11AnyId (bs : List Int) (p : Int) (h : Drw bs p) (hp : p ≤ 900000000) : SpecO Try.prog 56 [.ptr 9000 0 0] (dwH bs p)
    (fun r h' => (∃ i : Idt, r = i.av ∧ i.dr) ∧ ∃ q, h' = dwH bs q ∧ p ≤ q ∧ q ≤ p + 10) := by
  refine SpecO.of tysOk mixed Try.func56 rfl (by decide) ?_
  simp -implicitDefEqProofs only [go_sem, Try.f56]
  refine CallW.o [(9000, 9000)] (s_l11Id bs p h hp) p_l11Id o90 rfl (by (conv => lhs; simp -implicitDefEqProofs only [go_sem]) <;> rfl) (by (simp -implicitDefEqProofs only [go_sem]) <;> rfl) ?_
  rintro _ _ ⟨⟨i, rfl, hi⟩, rfl⟩
  simp -implicitDefEqProofs only [go_sem]
  refine CallW.o [(9000, 9000)] (s_pick bs (p + 2) 12 (h.to (by omega) (by omega)) (by omega)) p_pick o55 rfl (by (conv => lhs; simp -implicitDefEqProofs only [go_sem]) <;> rfl) (by (simp -implicitDefEqProofs only [go_sem]) <;> rfl) ?_
  rintro _ _ ⟨⟨v, rfl, h0, h1⟩, rfl⟩
  simp -implicitDefEqProofs only [go_sem]
  refine BrA_i (fun h2 => ?_) (fun h2 => ?_) <;> simp -implicitDefEqProofs only [go_sem]
  · refine CallW.o [(9000, 9000), (9001, 88)] (s_oneI bs (p + 2 + 1) [-1, 1000001] (h.to (by omega) (by omega)) (by simp)) p_oneI o91 rfl (by (conv => lhs; simp -implicitDefEqProofs only [go_sem]) <;> rfl) (by (simp -implicitDefEqProofs only [go_sem]) <;> rfl) ?_
    rintro _ _ ⟨⟨a, rfl, ha⟩, rfl⟩
    simp -implicitDefEqProofs only [go_sem]
    simp only [List.mem_cons, List.not_mem_nil, or_false] at ha
    refine ⟨⟨⟨a, i.n⟩, rfl, ?_⟩, _, rfl, by omega, by omega⟩
    unfold Idt.dr at hi ⊢
    simp only at hi ⊢
    omega
  refine BrA_i (fun h2 => ?_) (fun h2 => ?_) <;> simp -implicitDefEqProofs only [go_sem]
  · refine CallW.o [(9000, 9000), (9001, 136)] (s_oneI bs (p + 2 + 1) [-1, 1000000001] (h.to (by omega) (by omega)) (by simp)) p_oneI o91 rfl (by (conv => lhs; simp -implicitDefEqProofs only [go_sem]) <;> rfl) (by (simp -implicitDefEqProofs only [go_sem]) <;> rfl) ?_
    rintro _ _ ⟨⟨a, rfl, ha⟩, rfl⟩
    simp -implicitDefEqProofs only [go_sem]
    simp only [List.mem_cons, List.not_mem_nil, or_false] at ha
    refine ⟨⟨⟨i.t, a⟩, rfl, ?_⟩, _, rfl, by omega, by omega⟩
    unfold Idt.dr at hi ⊢
    simp only at hi ⊢
    omega
  · exact ⟨⟨i, rfl, hi⟩, _, rfl, by omega, by omega⟩
theorem p_has : Plain Try.prog 29 := ⟨_, Try.func29, rfl, by decide⟩
theorem s_has (bs : List Int) (p : Int) (s : Stm) (h : Drw bs p) (hp : p ≤ 900000000) (hs : s.items.length ≤ 1000) : SpecO Try.prog 29 [.ptr 9000 0 0, s.av] (dwH bs p)
    (fun r h' => (∃ i : Idt, r = i.av ∧ ((∃ x ∈ s.items, x.id = i) ∨ i = ⟨0, 0⟩)) ∧ ∃ q, h' = dwH bs q ∧ p ≤ q ∧ q ≤ p + 10) := by
  refine SpecO.of tysOk mixed Try.func29 rfl (by decide) ?_
  simp -implicitDefEqProofs only [go_sem, Try.f29]
  refine BrA_i (fun h1 => ?_) (fun h1 => ?_) <;> simp -implicitDefEqProofs only [go_sem]
  · have hl : 0 < s.items.length := by have := of_decide_eq_true h1; omega
    refine CallW.o [(9000, 9000)] (s_pick bs p 2 h (by omega)) p_pick o55 rfl (by (conv => lhs; simp -implicitDefEqProofs only [go_sem]) <;> rfl) (by (simp -implicitDefEqProofs only [go_sem]) <;> rfl) ?_
    rintro _ _ ⟨⟨v, rfl, h0, h2⟩, rfl⟩
    simp -implicitDefEqProofs only [go_sem]
    refine BrA_i (fun h3 => ?_) (fun h3 => ?_) <;> simp -implicitDefEqProofs only [go_sem]
    · refine RegD_of sch_29_2 tysOk (by kernel_rfl) ?_
      simp -implicitDefEqProofs only [go_sem]
      refine ⟨?_, ?_⟩
      all_goals
        refine CallW.o [(9000, 9000)] (s_pick bs (p + 1) s.items.length (h.to (by omega) (by omega)) (by omega)) p_pick o55 rfl (by (conv => lhs; simp -implicitDefEqProofs only [go_sem]) <;> rfl) (by (simp -implicitDefEqProofs only [go_sem]) <;> rfl) ?_
        rintro _ _ ⟨⟨v, rfl, h0, h2⟩, rfl⟩
        obtain ⟨k, rfl⟩ := Int.eq_ofNat_of_zero_le h0
        have hk : k < s.items.length := by omega
        have h1i : (k : Int) < s.items.length := by omega
        simp -implicitDefEqProofs only [go_sem, h0, h1i, row_getD _ _ hk, It.row]
        first | exact ⟨hk, ⟨s.items[k].id, rfl, .inl ⟨_, List.getElem_mem hk, rfl⟩⟩, _, rfl, by omega, by omega⟩ | exact ⟨⟨s.items[k].id, rfl, .inl ⟨_, List.getElem_mem hk, rfl⟩⟩, _, rfl, by omega, by omega⟩
    · exact ⟨⟨⟨0, 0⟩, rfl, .inr rfl⟩, _, rfl, by omega, by omega⟩
  · exact ⟨⟨⟨0, 0⟩, rfl, .inr rfl⟩, _, rfl, by omega, by omega⟩
def nof (l : List Pr) : Prop := ∀ x ∈ l, ∀ c ∈ x.k.data.toList, c ≠ 102
abbrev prsO (l : List Pr) : AV := .own (.list true 2 (l.map Pr.row))
theorem putM_ok (l : List Pr) (p : Pr) : fieldsOkM (putM l p).1 = true := by
  unfold putM
  split
  · split
    · assumption
    · assumption
  · rfl
theorem p_l11Fields : Plain Try.prog 96 := ⟨_, Try.func96, rfl, by decide⟩
theorem s_l11Fields (bs : List Int) (p : Int) (h : Drw bs p) (hp : p ≤ 900000000) : SpecO Try.prog 96 [.ptr 9000 0 0] (dwH bs p)
    (fun r h' => (∃ l : List Pr, r = prsO l ∧ fieldsOkM l = true ∧ nof l) ∧ ∃ q, h' = dwH bs q ∧ p ≤ q ∧ q ≤ p + 20) := by
  refine SpecO.of tysOk mixed Try.func96 rfl (by decide) ?_
  simp -implicitDefEqProofs only [go_sem, Try.f96]
  refine CallW.o [(9000, 9000)] (s_pick bs p 5 h (by omega)) p_pick o55 rfl (by (conv => lhs; simp -implicitDefEqProofs only [go_sem]) <;> rfl) (by (simp -implicitDefEqProofs only [go_sem]) <;> rfl) ?_
  rintro _ _ ⟨⟨v, rfl, h0, h2⟩, rfl⟩
  obtain ⟨k, rfl⟩ := Int.eq_ofNat_of_zero_le h0
  simp -implicitDefEqProofs only [go_sem]
  refine LoopW.slotsM [true, false, false, true, true, false, false, false, false, false, false, false, false, false, false, false, false, false, false, false, false, false, false, false] (α := Nat × List Pr × Int) (fun x => [(4, I x.1)]) (fun x => [(40, .rows 2 (x.2.1.map Pr.row)), (9000, .box [by8 bs, I x.2.2])]) (fun x => x.1) (fun x => x.1 ≤ k ∧ fieldsOkM x.2.1 = true ∧ p ≤ x.2.2 ∧ x.2.2 ≤ p + 1 + 2 * (k - x.1) ∧ nof x.2.1) (k, [], p + 1) (by simp -implicitDefEqProofs only [go_sem, LeTs_undef, LeTs_same, LeTs_nil]; try simp [LeTs]) (by simp -implicitDefEqProofs only [go_sem, List.map_nil]) ⟨by simp, rfl, by simp only; omega, by simp only; omega, fun _ h => by cases h⟩ ?_
  rintro ⟨n, l, q⟩ ⟨g1, g2, g3, g4, g5⟩
  simp only at g1 g2 g3 g4 g5
  have hl := fieldsOkM_len g2
  simp -implicitDefEqProofs only [go_sem]
  refine BrA_i (fun h => ?_) (fun h => ?_) <;> simp -implicitDefEqProofs only [go_sem]
  · have h' : 0 < n := by have := of_decide_eq_true h; omega
    refine CallW.o [(9000, 9000)] (s_l11Text bs q (by exact Drw.to (by assumption) (by omega) (by omega))) p_l11Text o97 rfl (by (conv => lhs; simp -implicitDefEqProofs only [go_sem]) <;> rfl) (by (simp -implicitDefEqProofs only [go_sem]) <;> rfl) ?_
    rintro _ _ ⟨⟨a, rfl, ha, ha2⟩, rfl⟩
    simp -implicitDefEqProofs only [go_sem]
    refine CallW.o [(9000, 9000)] (s_l11Text bs (q + 1) (by exact Drw.to (by assumption) (by omega) (by omega))) p_l11Text o97 rfl (by (conv => lhs; simp -implicitDefEqProofs only [go_sem]) <;> rfl) (by (simp -implicitDefEqProofs only [go_sem]) <;> rfl) ?_
    rintro _ _ ⟨⟨b, rfl, hb, hb2⟩, rfl⟩
    simp -implicitDefEqProofs only [go_sem]
    refine CallW.one (s_sFieldsPut l ⟨a, b⟩ (by omega)) p_sFieldsPut (by first | (simp -implicitDefEqProofs only [go_sem]; done) | ((conv => lhs; simp -implicitDefEqProofs only [go_sem]); done) | (simp -implicitDefEqProofs only [go_sem]; rfl) | rfl) (deep_putR _) ?_
    have wn : IntKind.i64.wrap ((n : Int) - 1) = ((n - 1 : Nat) : Int) := by rw [wrap64 (by omega) (by omega)]; omega
    simp -implicitDefEqProofs only [go_sem, wn]
    refine .toR [40] [(153, 40)] (n - 1, (putM l ⟨a, b⟩).1, q + 1 + 1) rfl rfl ?_ ?_ (by show n - 1 < n; omega) ⟨by simp only; omega, putM_ok _ _, by simp only; omega, by simp only; omega, fun x hx => (putM_mem hx).elim (fun e => by subst e; exact ha2) (g5 x)⟩
    · simp -implicitDefEqProofs only [go_sem, LeTs_undef, LeTs_same, LeTs_nil]
    · simp -implicitDefEqProofs only [go_sem]
  · refine ⟨⟨l, rfl, g2, g5⟩, q, rfl, by omega, by omega⟩
theorem p_l11Pairs : Plain Try.prog 69 := ⟨_, Try.func69, rfl, by decide⟩
theorem s_l11Pairs (bs : List Int) (p : Int) (h : Drw bs p) (hp : p ≤ 900000000) : SpecO Try.prog 69 [.ptr 9000 0 0] (dwH bs p)
    (fun r h' => (∃ l : List Pr, r = prsO l ∧ fieldsOkM l = true) ∧ ∃ q, h' = dwH bs q ∧ p ≤ q ∧ q ≤ p + 20) := by
  refine SpecO.of tysOk mixed Try.func69 rfl (by decide) ?_
  simp -implicitDefEqProofs only [go_sem, Try.f69]
  refine CallW.o [(9000, 9000)] (s_l11Fields bs p h hp) p_l11Fields o96 rfl (by (conv => lhs; simp -implicitDefEqProofs only [go_sem]) <;> rfl) (by (simp -implicitDefEqProofs only [go_sem]) <;> rfl) ?_
  rintro _ _ ⟨⟨l, rfl, hl, hnof⟩, q, rfl, h0, h1⟩
  simp -implicitDefEqProofs only [go_sem]
  refine BrA_i (fun h => ?_) (fun h => ?_) <;> simp -implicitDefEqProofs only [go_sem]
  · exact ⟨⟨[⟨⟨#[102]⟩, ⟨#[118]⟩⟩], rfl, by decide +kernel⟩, q, rfl, h0, h1⟩
  · exact ⟨⟨l, rfl, hl⟩, q, rfl, h0, h1⟩
def fresh (n : Nat) (l : List Pr) : Prop := ∀ x ∈ l, ∀ m, n ≤ m → x.k ≠ ⟨#[102]⟩ ++ decM m
theorem p_l11AnyFields : Plain Try.prog 67 := ⟨_, Try.func67, rfl, by decide⟩
theorem s_l11AnyFields (bs : List Int) (p : Int) (h : Drw bs p) (hp : p ≤ 900000000) : SpecO Try.prog 67 [.ptr 9000 0 0] (dwH bs p)
    (fun r h' => (∃ l : List Pr, r = prsO l ∧ l.length ≤ 17) ∧ ∃ q, h' = dwH bs q ∧ p ≤ q ∧ q ≤ p + 30) := by
  refine SpecO.of tysOk mixed Try.func67 rfl (by decide) ?_
  simp -implicitDefEqProofs only [go_sem, Try.f67]
  refine CallW.o [(9000, 9000)] (s_l11Fields bs p h hp) p_l11Fields o96 rfl (by (conv => lhs; simp -implicitDefEqProofs only [go_sem]) <;> rfl) (by (simp -implicitDefEqProofs only [go_sem]) <;> rfl) ?_
  rintro _ _ ⟨⟨l, rfl, hl, hnof⟩, q, rfl, h0, h1⟩
  have hlen := fieldsOkM_len hl
  simp -implicitDefEqProofs only [go_sem]
  refine CallW.o [(9000, 9000)] (s_pick bs q 12 (h.to (by omega) (by omega)) (by omega)) p_pick o55 rfl (by (conv => lhs; simp -implicitDefEqProofs only [go_sem]) <;> rfl) (by (simp -implicitDefEqProofs only [go_sem]) <;> rfl) ?_
  rintro _ _ ⟨⟨v, rfl, v0, v1⟩, rfl⟩
  simp -implicitDefEqProofs only [go_sem]
  refine BrA_i (fun h2 => ?_) (fun h2 => ?_) <;> simp -implicitDefEqProofs only [go_sem]
  · refine CallW.o [(9000, 9000)] (s_l11Text bs (q + 1) (h.to (by omega) (by omega))) p_l11Text o97 rfl (by (conv => lhs; simp -implicitDefEqProofs only [go_sem]) <;> rfl) (by (simp -implicitDefEqProofs only [go_sem]) <;> rfl) ?_
    rintro _ _ ⟨⟨a, rfl, ha⟩, rfl⟩
    simp -implicitDefEqProofs only [go_sem]
    refine ⟨by unfold roomy; omega, ⟨l ++ [⟨a, ⟨#[]⟩⟩], by simp [Pr.row], by simp; omega⟩, _, rfl, by omega, by omega⟩
  refine BrA_i (fun h2 => ?_) (fun h2 => ?_) <;> simp -implicitDefEqProofs only [go_sem]
  · have hfr : fresh 10 l := fun x hx m _ e => by
      have := hnof x hx 102 (by rw [e, ByteArray.data_append, Array.toList_append]; simp)
      exact this rfl
    refine LoopW.slotsM [false, false, false, true, true, false, false, false, false, false, false, false, false, false, false, false, false, false, false, false, false, false, false, false, false, false, false, false, false, false, false, false, false, false, false] (α := Nat × List Pr) (fun x => [(4, I x.1)]) (fun x => [(49, .rows 2 (x.2.map Pr.row)), (9000, .box [by8 bs, I (q + 1)])]) (fun x => 16 - x.2.length) (fun x => fieldsOkM x.2 = true ∧ fresh x.1 x.2 ∧ x.1 ≤ 10 + x.2.length) (10, l) (by simp -implicitDefEqProofs only [go_sem, LeTs_undef, LeTs_same, LeTs_nil]; try simp [LeTs]) rfl ⟨hl, hfr, by simp⟩ ?_
    clear hfr hnof hl hlen
    rintro ⟨n, l⟩ ⟨g1, g2, g3⟩
    simp only at g1 g2 g3
    have hl := fieldsOkM_len g1
    simp -implicitDefEqProofs only [go_sem]
    refine BrA_i (fun h => ?_) (fun h => ?_) <;> simp -implicitDefEqProofs only [go_sem]
    · have h' : l.length < 16 := by have := of_decide_eq_true h; omega
      have hsz := decM_size n (by omega)
      have hs1 : ((⟨#[102]⟩ : ByteArray).size : Int) + (decM n).size ≤ strMax := by
        have : (⟨#[102]⟩ : ByteArray).size = 1 := rfl
        unfold strMax; omega
      refine CallW.one (s_l1Dec n (by omega)) p_l1Dec (by first | (simp -implicitDefEqProofs only [go_sem]; done) | ((conv => lhs; simp -implicitDefEqProofs only [go_sem]); done) | (simp -implicitDefEqProofs only [go_sem]; rfl) | rfl) (by first | trivial | (simp [DeepR, DeepV, DeepVs, DeepC, DeepCs, T.scal]; done)) ?_
      simp -implicitDefEqProofs only [go_sem, hs1]
      refine ⟨hs1, ?_⟩
      have hgood : prGood ⟨⟨#[102]⟩ ++ decM n, ⟨#[]⟩⟩ = true := by
        have h1 : ((⟨#[102]⟩ : ByteArray) ++ decM n).size = 1 + (decM n).size := by rw [ByteArray.size_append]; rfl
        have h2 : (⟨#[]⟩ : ByteArray).size = 0 := rfl
        simp only [prGood, h1, h2, Bool.and_eq_true, decide_eq_true_eq]
        omega
      obtain ⟨e1, e2⟩ := putM_new (p := ⟨⟨#[102]⟩ ++ decM n, ⟨#[]⟩⟩) g1 hgood (fun x hx => g2 x hx n (Nat.le_refl _)) h'
      refine CallW.one (s_sFieldsPut l ⟨⟨#[102]⟩ ++ decM n, ⟨#[]⟩⟩ (by omega)) p_sFieldsPut (by first | (simp -implicitDefEqProofs only [go_sem]; done) | ((conv => lhs; simp -implicitDefEqProofs only [go_sem]); done) | (simp -implicitDefEqProofs only [go_sem]; rfl) | rfl) (deep_putR _) ?_
      have wn : IntKind.i64.wrap ((n : Int) + 1) = ((n + 1 : Nat) : Int) := by rw [wrap64 (by omega) (by omega)]; omega
      simp -implicitDefEqProofs only [go_sem, wn]
      refine .toR [49] [(241, 49)] (n + 1, (putM l ⟨⟨#[102]⟩ ++ decM n, ⟨#[]⟩⟩).1) rfl rfl ?_ ?_ (by show 16 - (putM l _).1.length < 16 - l.length; rw [e2]; omega) ⟨putM_ok _ _, fun x hx m hm => ?_, by show n + 1 ≤ 10 + (putM l _).1.length; rw [e2]; omega⟩
      · simp -implicitDefEqProofs only [go_sem, LeTs_undef, LeTs_same, LeTs_nil]
      · simp -implicitDefEqProofs only [go_sem]
      · rcases putM_mem hx with e | hx
        · subst e
          intro e
          have := decM_inj (app_inj e)
          simp only at hm
          omega
        · exact g2 x hx m (by simp only at hm; omega)
    · exact ⟨⟨l, rfl, by omega⟩, _, rfl, by omega, by omega⟩
  · exact ⟨⟨l, rfl, by omega⟩, _, rfl, by omega, by omega⟩
end Go.Proofs.Ytaajnbfnaoecnaa.Am
namespace Go.Proofs.Ytaajnbfnaoecnaa.Am
open Go
set_option maxRecDepth 100000
set_option maxHeartbeats 400000
set_option linter.unusedSimpArgs false
set_option linter.unusedVariables false
def gIx (gs : List Gr) (name : ByteArray) : Option Nat := gs.findIdx? fun g => decide (g.name = name)
theorem gIx_some {gs : List Gr} {name : ByteArray} {i : Nat} (h : i < gs.length) (hn : gs[i].name = name) (hj : ∀ j (h : j < gs.length), j < i → gs[j].name ≠ name) : gIx gs name = some i :=
  List.findIdx?_eq_some_iff_getElem.2 ⟨h, by simp [hn], fun j hji => by simpa using hj j (by omega) hji⟩
theorem gIx_none {gs : List Gr} {name : ByteArray} (hj : ∀ j (h : j < gs.length), gs[j].name ≠ name) : gIx gs name = none :=
  List.findIdx?_eq_none_iff.2 fun x hx => by
    obtain ⟨j, h, rfl⟩ := List.mem_iff_getElem.1 hx
    simpa using hj j h
theorem gIx_lt {gs : List Gr} {name : ByteArray} {i : Nat} (h : gIx gs name = some i) : i < gs.length := (List.findIdx?_eq_some_iff_getElem.1 h).1
def ixI : Option Nat → Int
  | none => -1
  | some i => i
def grpR (gs : List Gr) : Option Nat → AV
  | none => .t .nilp
  | some i => .rop false ((gs.map Gr.row).getD i []) 0
theorem p_group : Plain Try.prog 61 := ⟨_, Try.func61, rfl, by decide⟩
theorem s_group (s : Stm) (name : ByteArray) (hs : s.groups.length ≤ 1048576) : Spec Try.prog 61 [s.av, .t (.str name)] (fun r => r = grpR s.groups (gIx s.groups name)) := by
  refine Spec.of tysOk mixed Try.func61 rfl (by decide) ?_
  simp -implicitDefEqProofs only [go_sem, Try.f61]
  refine LoopW.slotsM [false, true, true, false, false, false, false, false, true, true, false, false, false, false, false, false, false, false, false, false, false, false, false, false, false] (α := Nat) (fun i => [(9, I i)]) (fun i => []) (fun i => s.groups.length - i) (fun i => i ≤ s.groups.length ∧ ∀ j (h : j < s.groups.length), j < i → s.groups[j].name ≠ name) 0 (by simp -implicitDefEqProofs only [go_sem, LeTs_undef, LeTs_same, LeTs_nil]; try simp [LeTs]) rfl ⟨by omega, fun _ _ h => by omega⟩ ?_
  rintro i ⟨hi, hj⟩
  simp -implicitDefEqProofs only [go_sem]
  refine BrA_i (fun h => ?_) (fun h => ?_) <;> simp -implicitDefEqProofs only [go_sem]
  · skip
    have h : i < s.groups.length := by simp at h; omega
    have h0i : (0 : Int) ≤ i := by omega
    have h1i : (i : Int) < s.groups.length := by omega
    have wi : IntKind.i64.wrap ((i : Int) + 1) = ((i + 1 : Nat) : Int) := by rw [wrap64 (by omega) (by omega)]; omega
    simp -implicitDefEqProofs only [go_sem, h, h0i, h1i, row_getD _ _ h, Gr.row, wi]
    refine BrA_i (fun h2 => ?_) (fun h2 => ?_) <;> (try simp only [decide_eq_true_eq, decide_eq_false_iff_not] at h2) <;> simp -implicitDefEqProofs only [go_sem, h, h0i, h1i, wi]
    · rw [gIx_some h h2 (fun j hj2 => hj j hj2)]; rfl
    · refine .to [] (i + 1) rfl ?_ ?_ (by omega) ⟨by omega, fun j hj2 hj3 => by
        by_cases hji : j < i
        · exact hj j hj2 hji
        · obtain rfl : j = i := by omega
          exact h2⟩ <;> simp -implicitDefEqProofs only [go_sem, LeTs_undef, LeTs_same, LeTs_nil]
  · have h : i = s.groups.length := by simp at h; omega
    subst h
    rw [gIx_none (fun j h => hj j h h)]
    rfl
theorem p_l9Of : Plain Try.prog 110 := ⟨_, Try.func110, rfl, by decide⟩
theorem s_l9Of (s : Stm) (name : ByteArray) (hs : s.groups.length ≤ 1048576) : Spec Try.prog 110 [s.av, .t (.str name)] (fun r => r = I (ixI (gIx s.groups name))) := by
  refine Spec.of tysOk mixed Try.func110 rfl (by decide) ?_
  simp -implicitDefEqProofs only [go_sem, Try.f110]
  refine LoopW.slotsM [false, true, true, false, false, true, false, false, false, false, false, false, false, false, false, false, false, false, false, false, false, false] (α := Nat) (fun i => [(5, I i)]) (fun i => []) (fun i => s.groups.length - i) (fun i => i ≤ s.groups.length ∧ ∀ j (h : j < s.groups.length), j < i → s.groups[j].name ≠ name) 0 (by simp -implicitDefEqProofs only [go_sem, LeTs_undef, LeTs_same, LeTs_nil]; try simp [LeTs]) rfl ⟨by omega, fun _ _ h => by omega⟩ ?_
  rintro i ⟨hi, hj⟩
  simp -implicitDefEqProofs only [go_sem]
  refine BrA_i (fun h => ?_) (fun h => ?_) <;> simp -implicitDefEqProofs only [go_sem]
  · skip
    have h : i < s.groups.length := by simp at h; omega
    have h0i : (0 : Int) ≤ i := by omega
    have h1i : (i : Int) < s.groups.length := by omega
    have wi : IntKind.i64.wrap ((i : Int) + 1) = ((i + 1 : Nat) : Int) := by rw [wrap64 (by omega) (by omega)]; omega
    simp -implicitDefEqProofs only [go_sem, h, h0i, h1i, row_getD _ _ h, Gr.row, wi]
    refine BrA_i (fun h2 => ?_) (fun h2 => ?_) <;> (try simp only [decide_eq_true_eq, decide_eq_false_iff_not] at h2) <;> simp -implicitDefEqProofs only [go_sem, h, h0i, h1i, wi]
    · rw [gIx_some h h2 (fun j hj2 => hj j hj2)]; rfl
    · refine .to [] (i + 1) rfl ?_ ?_ (by omega) ⟨by omega, fun j hj2 hj3 => by
        by_cases hji : j < i
        · exact hj j hj2 hji
        · obtain rfl : j = i := by omega
          exact h2⟩ <;> simp -implicitDefEqProofs only [go_sem, LeTs_undef, LeTs_same, LeTs_nil, wi]
  · have h : i = s.groups.length := by simp at h; omega
    subst h
    rw [gIx_none (fun j h => hj j h h)]
    rfl
end Go.Proofs.Ytaajnbfnaoecnaa.Am
namespace Go.Proofs.Ytaajnbfnaoecnaa.Am
open Go
set_option maxRecDepth 100000
set_option maxHeartbeats 400000
set_option linter.unusedSimpArgs false
set_option linter.unusedVariables false
def grpP : Option Nat → AV
  | none => .t .nilp
  | some i => .ptr 9001 i 0
theorem s_groupO (lt ln : Int) (rs : List (List T)) (gs : List Gr) (name : ByteArray) (hs : gs.length ≤ 1048576) : SpecO Try.prog 61 [.agg [I lt, I ln, .refw 9000, .refw 9001], .t (.str name)] [(9000, .rows 3 rs), (9001, .rows 4 (gs.map Gr.rowO))]
    (fun r h => r = grpP (gIx gs name) ∧ h = [(9000, .rows 3 rs), (9001, .rows 4 (gs.map Gr.rowO))]) := by
  refine SpecO.of tysOk mixed Try.func61 rfl (by decide) ?_
  simp -implicitDefEqProofs only [go_sem, Try.f61]
  refine LoopW.slotsM [false, true, true, false, false, false, false, false, true, true, false, false, false, false, false, false, false, false, false, false, false, false, false, false, false] (α := Nat) (fun i => [(9, I i)]) (fun i => [(9000, .rows 3 rs), (9001, .rows 4 (gs.map Gr.rowO))]) (fun i => gs.length - i) (fun i => i ≤ gs.length ∧ ∀ j (h : j < gs.length), j < i → gs[j].name ≠ name) 0 (by simp -implicitDefEqProofs only [go_sem, LeTs_undef, LeTs_same, LeTs_nil]; try simp [LeTs]) (by simp -implicitDefEqProofs only [go_sem]) ⟨by omega, fun _ _ h => by omega⟩ ?_
  rintro i ⟨hi, hj⟩
  simp -implicitDefEqProofs only [go_sem]
  refine BrA_i (fun h => ?_) (fun h => ?_) <;> simp -implicitDefEqProofs only [go_sem]
  · skip
    have h : i < gs.length := by simp at h; omega
    have h0i : (0 : Int) ≤ i := by omega
    have h1i : (i : Int) < gs.length := by omega
    have wi : IntKind.i64.wrap ((i : Int) + 1) = ((i + 1 : Nat) : Int) := by rw [wrap64 (by omega) (by omega)]; omega
    simp -implicitDefEqProofs only [go_sem, h, h0i, h1i, row_getD _ _ h, Gr.rowO, wi]
    refine BrA_i (fun h2 => ?_) (fun h2 => ?_) <;> (try simp only [decide_eq_true_eq, decide_eq_false_iff_not] at h2) <;> simp -implicitDefEqProofs only [go_sem, h, h0i, h1i, wi]
    · rw [gIx_some h h2 (fun j hj2 => hj j hj2)]; rfl
    · refine .to [] (i + 1) rfl ?_ ?_ (by omega) ⟨by omega, fun j hj2 hj3 => by
        by_cases hji : j < i
        · exact hj j hj2 hji
        · obtain rfl : j = i := by omega
          exact h2⟩ <;> simp -implicitDefEqProofs only [go_sem, LeTs_undef, LeTs_same, LeTs_nil]
  · have h : i = gs.length := by simp at h; omega
    subst h
    rw [gIx_none (fun j h => hj j h h)]
    rfl
end Go.Proofs.Ytaajnbfnaoecnaa.Am
namespace Go.Proofs.Ytaajnbfnaoecnaa.Am
open Go
set_option maxRecDepth 100000
set_option linter.unusedSimpArgs false
set_option linter.unusedVariables false
theorem Idt.mk_rows (l : List Idt) : (l.map Idt.row).map (List.map (T.mk false)) = l.map Idt.row := Am.mk_rows _ (fun _ => rfl) l
attribute [go_sem] Idt.mk_rows
def Idt.mw (x : Idt) : Nat := 2
def Idt.m (x : Idt) (k : Int) : Idt := ⟨k, k + 1⟩
end Go.Proofs.Ytaajnbfnaoecnaa.Am
namespace Go.Proofs.Ytaajnbfnaoecnaa.Am
open Go
set_option maxRecDepth 100000
set_option maxHeartbeats 400000
set_option linter.unusedSimpArgs false
set_option linter.unusedVariables false
abbrev trimR (x : Stm × Int) : AV := .tup [x.1.avO, I x.2]
theorem deep_trimR (x : Stm × Int) : DeepR (trimR x) := ⟨deep_avO x.1, trivial, trivial⟩
end Go.Proofs.Ytaajnbfnaoecnaa.Am
namespace Go.Proofs.Ytaajnbfnaoecnaa.Am
open Go
set_option maxRecDepth 100000
set_option maxHeartbeats 400000
set_option linter.unusedSimpArgs false
set_option linter.unusedVariables false
def idIx (l : List Idt) (x : Idt) : Option Nat := l.findIdx? fun y => decide (x = y)
theorem idIx_none {l : List Idt} {x : Idt} (hj : ∀ j (h : j < l.length), x ≠ l[j]) : idIx l x = none :=
  List.findIdx?_eq_none_iff.2 fun y hy => by
    obtain ⟨j, h, rfl⟩ := List.mem_iff_getElem.1 hy
    simpa using hj j h
def inM (l : List Idt) (x : Idt) : Bool := decide (x ∈ l)
theorem inM_ix (l : List Idt) (x : Idt) : decide (0 ≤ ixI (idIx l x)) = inM l x := by
  unfold inM
  cases h : idIx l x with
  | none =>
    have := List.findIdx?_eq_none_iff.1 h
    have h2 : ¬ x ∈ l := fun hm => by simpa using this x hm
    simp [ixI, h2]
  | some i =>
    obtain ⟨hi, hx, _⟩ := List.findIdx?_eq_some_iff_getElem.1 h
    have h2 : x ∈ l := by simp only [decide_eq_true_eq] at hx; rw [hx]; exact List.getElem_mem hi
    simp [ixI, h2]
theorem Idt.eq_iff (a b : Idt) : a = b ↔ a.t = b.t ∧ a.n = b.n := by cases a; cases b; simp
theorem p_l9In : Plain Try.prog 112 := ⟨_, Try.func112, rfl, by decide⟩
theorem s_l9In (l : List Idt) (x : Idt) (hs : l.length ≤ 1048576) : Spec Try.prog 112 [.t (.list false 2 (l.map Idt.row)), x.av] (fun r => r = Bo (inM l x)) := by
  refine Spec.of tysOk mixed Try.func112 rfl (by decide) ?_
  simp -implicitDefEqProofs only [go_sem, Try.f112]
  refine LoopW.slotsM [true, false, false, true, false, true, false, false, false, false, false, false, false, false, false, false, false, false] (α := Nat) (fun i => [(5, I i)]) (fun i => []) (fun i => l.length - i) (fun i => i ≤ l.length ∧ ∀ j (h : j < l.length), j < i → x ≠ l[j]) 0 (by simp -implicitDefEqProofs only [go_sem, LeTs_undef, LeTs_same, LeTs_nil]; try simp [LeTs]) rfl ⟨by omega, fun _ _ h => by omega⟩ ?_
  rintro i ⟨hi, hj⟩
  simp -implicitDefEqProofs only [go_sem]
  refine BrA_i (fun h => ?_) (fun h => ?_) <;> simp -implicitDefEqProofs only [go_sem]
  · skip
    have h : i < l.length := by simp at h; omega
    have h0i : (0 : Int) ≤ i := by omega
    have h1i : (i : Int) < l.length := by omega
    have wi : IntKind.i64.wrap ((i : Int) + 1) = ((i + 1 : Nat) : Int) := by rw [wrap64 (by omega) (by omega)]; omega
    have hr := row_getD Idt.row l h
    simp only [Idt.row] at hr
    refine RegD_of sch_112_4 tysOk (by kernel_rfl) ?_
    simp -implicitDefEqProofs only [go_sem, h, h0i, h1i, hr, wi]
    have he : (decide (l[i].t = x.t) && decide (l[i].n = x.n)) = decide (x = l[i]) := by
      have : x = l[i] ↔ l[i].t = x.t ∧ l[i].n = x.n := by rw [eq_comm, Idt.eq_iff]
      by_cases h1 : l[i].t = x.t <;> by_cases h2 : l[i].n = x.n <;> simp [this, h1, h2]
    rw [he]
    refine BrA_i (fun h2 => ?_) (fun h2 => ?_) <;> (try simp only [decide_eq_true_eq, decide_eq_false_iff_not] at h2) <;> simp -implicitDefEqProofs only [go_sem, h, h0i, h1i, wi]
    · have : inM l x = true := by unfold inM; rw [h2]; simp
      rw [this]
    · refine .to [] (i + 1) rfl ?_ ?_ (by omega) ⟨by omega, fun j hj2 hj3 => by
        by_cases hji : j < i
        · exact hj j hj2 hji
        · obtain rfl : j = i := by omega
          exact h2⟩ <;> simp -implicitDefEqProofs only [go_sem, LeTs_undef, LeTs_same, LeTs_nil, wi]
  · have h : i = l.length := by simp at h; omega
    subst h
    have : inM l x = false := by
      rw [← inM_ix, idIx_none (fun j h => hj j h h)]; rfl
    rw [this]
def keepM (ids : List Idt) (w : Wt) : Bool := !inM ids w.id
def putW (s : Stm) (i : Nat) (g : Gr) : Stm := ⟨s.last, s.items, s.groups.set i g⟩
def gAt (s : Stm) (i : Nat) : Gr := s.groups.getD i ⟨.empty, ⟨0, 0⟩, []⟩
theorem gAt_eq {s : Stm} {i : Nat} (h : i < s.groups.length) : gAt s i = s.groups[i] := by
  unfold gAt
  rw [List.getD_eq_getElem?_getD, List.getElem?_eq_getElem h]; rfl
def doneM (s : Stm) (name : ByteArray) (ids : List Idt) : Stm × Int :=
  if streamOkM s = true then
    match gIx s.groups name with
    | none => (s, 0)
    | some i => (putW s i ⟨(gAt s i).name, (gAt s i).last, (gAt s i).waits.filter (keepM ids)⟩, ((gAt s i).waits.length : Int) - ((gAt s i).waits.filter (keepM ids)).length)
  else (.z, 0)
theorem doneM_some {s : Stm} {name : ByteArray} {ids : List Idt} {i : Nat} (hok : streamOkM s = true) (h : gIx s.groups name = some i) :
    doneM s name ids = (putW s i ⟨(gAt s i).name, (gAt s i).last, (gAt s i).waits.filter (keepM ids)⟩, ((gAt s i).waits.length : Int) - ((gAt s i).waits.filter (keepM ids)).length) := by
  unfold doneM
  rw [if_pos hok, h]
theorem doneM_none {s : Stm} {name : ByteArray} {ids : List Idt} (hok : streamOkM s = true) (h : gIx s.groups name = none) : doneM s name ids = (s, 0) := by
  unfold doneM
  rw [if_pos hok, h]
theorem doneM_bad {s : Stm} {name : ByteArray} {ids : List Idt} (hok : streamOkM s = false) : doneM s name ids = (.z, 0) := by
  unfold doneM
  rw [if_neg (by simp [hok])]
theorem p_sGroupDone : Plain Try.prog 95 := ⟨_, Try.func95, rfl, by decide⟩
theorem s_sGroupDone (s : Stm) (name : ByteArray) (ids : List Idt) (hs : s.md) (hw : ∀ g ∈ s.groups, g.waits.length < 2000000) (hid : ids.length ≤ 1048576) : Spec Try.prog 95 [s.av, .t (.str name), .t (.list false 2 (ids.map Idt.row))] (fun r => r = trimR (doneM s name ids)) := by
  have hsm := hs.sm.1
  have hs2 := hs.2.1
  have hs4 := hs.2.2.2
  refine Spec.of tysOk mixed Try.func95 rfl (by decide) ?_
  simp -implicitDefEqProofs only [go_sem, Try.f95]
  refine CallW.one (s_sStreamOk s hsm hw) p_sStreamOk (by first | (simp -implicitDefEqProofs only [go_sem]; done) | ((conv => lhs; simp -implicitDefEqProofs only [go_sem]); done) | (simp -implicitDefEqProofs only [go_sem]; rfl) | rfl) (by first | trivial | (simp [DeepR, DeepV, DeepVs, DeepC, DeepCs, T.scal]; done)) ?_
  simp -implicitDefEqProofs only [go_sem]
  cases hok : streamOkM s
  · simp -implicitDefEqProofs only [go_sem]
    rw [doneM_bad hok]
    simp
  simp -implicitDefEqProofs only [go_sem]
  refine CallW.onep (s_l9Copy s hs) p_l9Copy (by first | (simp -implicitDefEqProofs only [go_sem]; done) | ((conv => lhs; simp -implicitDefEqProofs only [go_sem]); done) | (simp -implicitDefEqProofs only [go_sem]; rfl) | rfl) rfl ?_
  simp -implicitDefEqProofs only [go_sem]
  refine CallW.one (s_l9Of s name hs2) p_l9Of (by first | (simp -implicitDefEqProofs only [go_sem]; done) | ((conv => lhs; simp -implicitDefEqProofs only [go_sem]); done) | (simp -implicitDefEqProofs only [go_sem]; rfl) | rfl) (by first | trivial | (simp [DeepR, DeepV, DeepVs, DeepC, DeepCs, T.scal]; done)) ?_
  simp -implicitDefEqProofs only [go_sem]
  cases hg : gIx s.groups name with
  | none =>
    simp -implicitDefEqProofs only [go_sem, ixI]
    rw [doneM_none hok hg]
    try rfl
  | some n =>
    have hn := gIx_lt hg
    have hn0 : ¬ ((n : Nat) : Int) < 0 := by omega
    simp -implicitDefEqProofs only [go_sem, ixI, hn0, decide_false]
    have hn1 : (n : Int) < s.groups.length := by omega
    have hn2 : (0 : Int) ≤ n := by omega
    have hr := row_getD Gr.row s.groups hn
    have hga := gAt_eq hn
    rw [doneM_some hok hg, hga]
    obtain ⟨g, hgg⟩ : ∃ g, g = s.groups[n] := ⟨_, rfl⟩
    obtain ⟨ws, hws⟩ : ∃ ws, ws = g.waits := ⟨_, rfl⟩
    have hwl : ws.length ≤ 1048576 := by rw [hws, hgg]; exact hs4 _ (List.getElem_mem hn)
    rw [← hgg] at hr
    simp only [Gr.row] at hr
    rw [← hws] at hr
    rw [← hgg, ← hws]
    refine LoopW.slotsM [false, false, true, true, false, false, true, false, true, true, true, true, false, false, false, false, false, false, false, false, false, false, false, false, false, false, false, false, false, false, false, false, false, false, false, false, false, false, false, false, false, false, false, false, false, false, false, false, false, false, false, false, false, false, false, false, false, false, false, false, false, false, false, false, false, false, false, false, false, false, false, false, false, false, false, false, false, false, false, false] (α := Nat) (fun i => [(11, I i)]) (fun i => [(200, .rows 5 (((ws.take i).filter (keepM ids)).map Wt.row))]) (fun i => ws.length - i) (fun i => i ≤ ws.length) 0 (by simp -implicitDefEqProofs only [go_sem, LeTs_undef, LeTs_same, LeTs_nil]; try simp [LeTs]) (by simp -implicitDefEqProofs only [go_sem, List.take_zero, List.filter_nil, List.map_nil]) (by omega) ?_
    intro i hi
    simp -implicitDefEqProofs only [go_sem, hn1, hn2, hr]
    refine BrA_i (fun h => ?_) (fun h => ?_) <;> simp -implicitDefEqProofs only [go_sem]
    · skip
      have h : i < ws.length := by simp at h; omega
      have h0i : (0 : Int) ≤ i := by omega
      have h1i : (i : Int) < ws.length := by omega
      have wi : IntKind.i64.wrap ((i : Int) + 1) = ((i + 1 : Nat) : Int) := by rw [wrap64 (by omega) (by omega)]; omega
      have ef := filter_take (keepM ids) ws h
      have hl : ((ws.take i).filter (keepM ids)).length ≤ 1048576 := Nat.le_trans (List.length_filter_le _ _) (by simp; omega)
      obtain ⟨acc, hacc⟩ : ∃ acc, acc = (ws.take i).filter (keepM ids) := ⟨_, rfl⟩
      rw [← hacc] at ef hl ⊢
      have hr2 := row_getD Wt.row ws h
      simp only [Wt.row] at hr2
      simp -implicitDefEqProofs only [go_sem, h, h0i, h1i, hn1, hn2, hr, hr2, wi]
      (repeat' (first   | (refine CallW.one (s_l9In ids ws[i].id hid) p_l9In (by first | (simp -implicitDefEqProofs only [go_sem]; done) | ((conv => lhs; simp -implicitDefEqProofs only [go_sem]); done) | (simp -implicitDefEqProofs only [go_sem]; rfl) | rfl) (by first | trivial | (simp [DeepR, DeepV, DeepVs, DeepC, DeepCs, T.scal]; done)) ?_; try simp -implicitDefEqProofs only [go_sem, wi, List.length_map, h0i, h1i, hn1, hn2, hr, hr2])   | (refine BrA_i (fun h => ?_) (fun h => ?_) <;> (try simp only [decide_eq_true_eq, decide_eq_false_iff_not, Bool.not_eq_true', Bool.not_eq_false', gt_iff_lt, ge_iff_le] at h) <;> try simp -implicitDefEqProofs only [go_sem, wi, List.length_map, h0i, h1i, hn1, hn2, hr, hr2])   | (refine And.intro (a := roomy _ _) (by (unfold roomy; (try simp only [List.length_take, List.length_append, List.length_map, List.length_cons, List.length_nil]); omega)) ?_; try simp -implicitDefEqProofs only [go_sem, wi, List.length_map, h0i, h1i, hn1, hn2, hr, hr2])))
      all_goals first
        | (have he : keepM ids ws[i] = true := by simp only [keepM, Bool.not_eq_true']; assumption
           rw [if_pos he] at ef
           have e2 : (acc ++ [ws[i]]).map Wt.row = acc.map Wt.row ++ [[T.int .i64 ws[i].id.t, T.int .i64 ws[i].id.n, T.str ws[i].who, T.int .i64 ws[i].at', T.int .i64 ws[i].tm]] := by rw [List.map_append]; rfl
           refine .to [480, 488, 385, 386, 387] (i + 1) rfl ?_ ?_ (by omega) (by omega) <;> simp -implicitDefEqProofs only [go_sem, LeTs_undef, LeTs_same, LeTs_nil, ef, e2, wi])
        | (have he : ¬ keepM ids ws[i] = true := by simp only [keepM, Bool.not_eq_true', Bool.not_eq_false]; assumption
           rw [if_neg he, List.append_nil] at ef
           refine .to [480, 488, 385, 386, 387] (i + 1) rfl ?_ ?_ (by omega) (by omega) <;> simp -implicitDefEqProofs only [go_sem, LeTs_undef, LeTs_same, LeTs_nil, ef, wi])
    · have h : i = ws.length := by simp at h; omega
      subst h
      have hfl := List.length_filter_le (keepM ids) ws
      have wl : IntKind.i64.wrap ((ws.length : Int) - (ws.filter (keepM ids)).length) = (ws.length : Int) - (ws.filter (keepM ids)).length := wrap64 (by omega) (by omega)
      have hset : (s.groups.set n ⟨g.name, g.last, ws.filter (keepM ids)⟩).map Gr.rowO = (s.groups.map Gr.rowO).set n [T.str g.name, T.int .i64 g.last.t, T.int .i64 g.last.n, T.list true 5 ((ws.filter (keepM ids)).map Wt.row)] := by rw [List.map_set]; rfl
      have hro := row_getD Gr.rowO s.groups hn
      rw [← hgg] at hro
      simp only [Gr.rowO] at hro
      rw [← hws] at hro
      try simp -implicitDefEqProofs only [go_sem, List.take_length, hro, wl, hn1, hn2, hr]
      refine ⟨hn, ?_⟩
      rw [← hset]; rfl
end Go.Proofs.Ytaajnbfnaoecnaa.Am
namespace Go.Proofs.Ytaajnbfnaoecnaa.Am
open Go
set_option maxRecDepth 100000
set_option maxHeartbeats 400000
set_option linter.unusedSimpArgs false
set_option linter.unusedVariables false
def itIx (l : List It) (x : Idt) : Option Nat := l.findIdx? fun y => decide (y.id = x)
theorem itIx_some {l : List It} {x : Idt} {i : Nat} (h : i < l.length) (hn : l[i].id = x) (hj : ∀ j (h : j < l.length), j < i → l[j].id ≠ x) : itIx l x = some i :=
  List.findIdx?_eq_some_iff_getElem.2 ⟨h, by simp [hn], fun j hji => by simpa using hj j (by omega) hji⟩
theorem itIx_none {l : List It} {x : Idt} (hj : ∀ j (h : j < l.length), l[j].id ≠ x) : itIx l x = none :=
  List.findIdx?_eq_none_iff.2 fun y hy => by
    obtain ⟨j, h, rfl⟩ := List.mem_iff_getElem.1 hy
    simpa using hj j h
theorem itIx_lt {l : List It} {x : Idt} {i : Nat} (h : itIx l x = some i) : i < l.length := (List.findIdx?_eq_some_iff_getElem.1 h).1
theorem p_l9At : Plain Try.prog 35 := ⟨_, Try.func35, rfl, by decide⟩
theorem s_l9At (s : Stm) (x : Idt) (hs : s.items.length ≤ 1048576) : Spec Try.prog 35 [s.av, x.av] (fun r => r = I (ixI (itIx s.items x))) := by
  refine Spec.of tysOk mixed Try.func35 rfl (by decide) ?_
  simp -implicitDefEqProofs only [go_sem, Try.f35]
  refine LoopW.slotsM [false, false, true, true, false, true, false, false, false, false, false, false, false, false, false, false, false, false, false, false, false, false] (α := Nat) (fun i => [(5, I i)]) (fun i => []) (fun i => s.items.length - i) (fun i => i ≤ s.items.length ∧ ∀ j (h : j < s.items.length), j < i → s.items[j].id ≠ x) 0 (by simp -implicitDefEqProofs only [go_sem, LeTs_undef, LeTs_same, LeTs_nil]; try simp [LeTs]) rfl ⟨by omega, fun _ _ h => by omega⟩ ?_
  rintro i ⟨hi, hj⟩
  simp -implicitDefEqProofs only [go_sem]
  refine BrA_i (fun h => ?_) (fun h => ?_) <;> simp -implicitDefEqProofs only [go_sem]
  · skip
    have h : i < s.items.length := by simp at h; omega
    have h0i : (0 : Int) ≤ i := by omega
    have h1i : (i : Int) < s.items.length := by omega
    have wi : IntKind.i64.wrap ((i : Int) + 1) = ((i + 1 : Nat) : Int) := by rw [wrap64 (by omega) (by omega)]; omega
    have hr := row_getD It.row s.items h
    simp only [It.row] at hr
    refine RegD_of sch_35_4 tysOk (by kernel_rfl) ?_
    simp -implicitDefEqProofs only [go_sem, h, h0i, h1i, hr, wi]
    have he : (decide (s.items[i].id.t = x.t) && decide (s.items[i].id.n = x.n)) = decide (s.items[i].id = x) := by
      have := Idt.eq_iff s.items[i].id x
      by_cases h1 : s.items[i].id.t = x.t <;> by_cases h2 : s.items[i].id.n = x.n <;> simp [this, h1, h2]
    rw [he]
    refine BrA_i (fun h2 => ?_) (fun h2 => ?_) <;> (try simp only [decide_eq_true_eq, decide_eq_false_iff_not] at h2) <;> simp -implicitDefEqProofs only [go_sem, h, h0i, h1i, wi]
    · rw [itIx_some h h2 (fun j hj2 => hj j hj2)]; rfl
    · refine .to [] (i + 1) rfl ?_ ?_ (by omega) ⟨by omega, fun j hj2 hj3 => by
        by_cases hji : j < i
        · exact hj j hj2 hji
        · obtain rfl : j = i := by omega
          exact h2⟩ <;> simp -implicitDefEqProofs only [go_sem, LeTs_undef, LeTs_same, LeTs_nil, wi]
  · have h : i = s.items.length := by simp at h; omega
    subst h
    rw [itIx_none (fun j h => hj j h h)]
    rfl
theorem shared_It (l : List It) : sharedRows (l.map It.rowO) = l.map It.row := by
  unfold sharedRows
  rw [List.map_map]; exact List.map_congr_left fun x _ => rfl
def dropM (s : Stm) (x : Idt) : Stm × Bool :=
  if streamOkM s = true then
    match itIx s.items x with
    | none => (s, false)
    | some i => (⟨s.last, s.items.take i ++ s.items.drop (i + 1), s.groups⟩, true)
  else (.z, false)
theorem dropM_some {s : Stm} {x : Idt} {i : Nat} (hok : streamOkM s = true) (h : itIx s.items x = some i) : dropM s x = (⟨s.last, s.items.take i ++ s.items.drop (i + 1), s.groups⟩, true) := by
  unfold dropM
  rw [if_pos hok, h]
theorem dropM_none {s : Stm} {x : Idt} (hok : streamOkM s = true) (h : itIx s.items x = none) : dropM s x = (s, false) := by
  unfold dropM
  rw [if_pos hok, h]
theorem dropM_bad {s : Stm} {x : Idt} (hok : streamOkM s = false) : dropM s x = (.z, false) := by
  unfold dropM
  rw [if_neg (by simp [hok])]
abbrev dropR (x : Stm × Bool) : AV := .tup [x.1.avO, Bo x.2]
abbrev Stm.avS (x : Stm) : AV := .agg [I x.last.t, I x.last.n, .own (.list true 3 (x.items.map It.row)), .own (.list true 4 (x.groups.map Gr.rowO))]
theorem p_sStreamDrop : Plain Try.prog 8 := ⟨_, Try.func8, rfl, by decide⟩
theorem s_sStreamDrop (s : Stm) (x : Idt) (hs : s.md) (hw : ∀ g ∈ s.groups, g.waits.length < 2000000) : Spec Try.prog 8 [s.av, x.av] (fun r => r = dropR (dropM s x) ∨ r = .tup [(dropM s x).1.avS, Bo (dropM s x).2]) := by
  have hsm := hs.sm.1
  have hs1 := hs.1
  refine Spec.of tysOk mixed Try.func8 rfl (by decide) ?_
  simp -implicitDefEqProofs only [go_sem, Try.f8]
  refine CallW.one (s_sStreamOk s hsm hw) p_sStreamOk (by first | (simp -implicitDefEqProofs only [go_sem]; done) | ((conv => lhs; simp -implicitDefEqProofs only [go_sem]); done) | (simp -implicitDefEqProofs only [go_sem]; rfl) | rfl) (by first | trivial | (simp [DeepR, DeepV, DeepVs, DeepC, DeepCs, T.scal]; done)) ?_
  simp -implicitDefEqProofs only [go_sem]
  cases hok : streamOkM s
  · simp -implicitDefEqProofs only [go_sem]
    rw [dropM_bad hok]
    left; simp
  simp -implicitDefEqProofs only [go_sem]
  refine CallW.onep (s_l9Copy s hs) p_l9Copy (by first | (simp -implicitDefEqProofs only [go_sem]; done) | ((conv => lhs; simp -implicitDefEqProofs only [go_sem]); done) | (simp -implicitDefEqProofs only [go_sem]; rfl) | rfl) rfl ?_
  simp -implicitDefEqProofs only [go_sem]
  refine CallW.one (s_l9At s x hs1) p_l9At (by first | (simp -implicitDefEqProofs only [go_sem]; done) | ((conv => lhs; simp -implicitDefEqProofs only [go_sem]); done) | (simp -implicitDefEqProofs only [go_sem]; rfl) | rfl) (by first | trivial | (simp [DeepR, DeepV, DeepVs, DeepC, DeepCs, T.scal]; done)) ?_
  simp -implicitDefEqProofs only [go_sem]
  cases hg : itIx s.items x with
  | none =>
    simp -implicitDefEqProofs only [go_sem, ixI]
    rw [dropM_none hok hg]
    left; try rfl
  | some n =>
    have hn := itIx_lt hg
    have hn0 : ¬ ((n : Nat) : Int) < 0 := by omega
    simp -implicitDefEqProofs only [go_sem, ixI, hn0, decide_false]
    have hn1 : (n : Int) ≤ s.items.length := by omega
    have hn2 : (0 : Int) ≤ n := by omega
    have hn3 : (n : Int) + 1 ≤ s.items.length := by omega
    have hn4 : (0 : Int) ≤ (n : Int) + 1 := by omega
    have wn : IntKind.i64.wrap ((n : Int) + 1) = (n : Int) + 1 := wrap64 (by omega) (by omega)
    refine RegD_of sch_8_7 tysOk (by kernel_rfl) ?_
    simp -implicitDefEqProofs only [go_sem, hn1, hn2, hn3, hn4, wn]
    have e1 : sharedRows (List.take (n - Int.toNat 0) (List.drop (Int.toNat 0) (List.map It.rowO s.items))) = (s.items.take n).map It.row := by
      rw [show Int.toNat 0 = 0 from rfl, Nat.sub_zero, List.drop_zero, ← List.map_take, shared_It]
    have e2 : sharedRows (List.take (s.items.length - ((n : Int) + 1).toNat) (List.drop ((n : Int) + 1).toNat (List.map It.rowO s.items))) = (s.items.drop (n + 1)).map It.row := by
      rw [show ((n : Int) + 1).toNat = n + 1 by omega, ← List.map_drop, List.take_of_length_le (by simp), shared_It]
    simp only [e1, e2, Int.le_refl, true_and, and_true]
    rw [dropM_some hok hg]
    repeat' (first | (unfold roomy; simp; omega) | (apply And.intro) | (right; simp; done))
end Go.Proofs.Ytaajnbfnaoecnaa.Am
namespace Go.Proofs.Ytaajnbfnaoecnaa.Am
open Go
set_option maxRecDepth 100000
set_option maxHeartbeats 1000000
set_option linter.unusedSimpArgs false
set_option linter.unusedVariables false
abbrev takeR (x : Stm × List It) : AV := .tup [x.1.avO, .own (.list true 3 (x.2.map It.rowO))]
end Go.Proofs.Ytaajnbfnaoecnaa.Am
namespace Go.Proofs.Ytaajnbfnaoecnaa.Am
open Go
set_option linter.unusedVariables false
set_option linter.unusedSimpArgs false
theorem ltM_iff (a b : Idt) : ltM a b = true ↔ a.t < b.t ∨ (a.t = b.t ∧ a.n < b.n) := by
  unfold ltM ordM cmpM
  rw [decide_eq_true_iff]
  by_cases h1 : a.t < b.t <;> by_cases h2 : b.t < a.t <;> by_cases h3 : a.n < b.n <;> by_cases h4 : b.n < a.n <;> simp [h1, h2, h3, h4] <;> omega
theorem ltM_trans {a b c : Idt} (h : ltM a b = true) (h' : ltM b c = true) : ltM a c = true := by
  rw [ltM_iff] at *; omega
theorem ltM_le {a b c : Idt} (h : ltM b a = false) (h' : ltM b c = true) : ltM a c = true := by
  have h2 : ¬ ltM b a = true := by simp [h]
  rw [ltM_iff] at *; omega
theorem up_lt {α : Type} (f : α → Idt) (l : List α) (h : ∀ i (hi : i + 1 < l.length), ltM (f l[i]) (f l[i + 1]) = true) : ∀ j i (hj : j < l.length) (hi : i < j), ltM (f l[i]) (f l[j]) = true := by
  intro j
  induction j with
  | zero => intro i _ hi; omega
  | succ j ih =>
    intro i hj hi
    by_cases he : i = j
    · subst he; exact h i hj
    · exact ltM_trans (ih i (by omega) (by omega)) (h j hj)
end Go.Proofs.Ytaajnbfnaoecnaa.Am
namespace Go.Proofs.Ytaajnbfnaoecnaa.Am
open Go
set_option maxRecDepth 100000
set_option maxHeartbeats 1000000
set_option linter.unusedSimpArgs false
set_option linter.unusedVariables false
structure Rdg where
  last : Idt
  waits : List Wt
  items : List It
def gstep (who : ByteArray) (now count : Int) (a : Rdg) (x : It) : Rdg :=
  if (a.items.length : Int) < count ∧ a.waits.length < 16 ∧ ltM a.last x.id = true then ⟨x.id, a.waits ++ [⟨x.id, who, now, 1⟩], a.items ++ [x]⟩ else a
theorem gstep_len (who : ByteArray) (now count : Int) (xs : List It) : ∀ a : Rdg, (xs.foldl (gstep who now count) a).items.length ≤ a.items.length + xs.length ∧ (xs.foldl (gstep who now count) a).waits.length ≤ a.waits.length + xs.length := by
  induction xs with
  | nil => intro a; exact ⟨Nat.le_refl _, Nat.le_refl _⟩
  | cons x xs ih =>
    intro a
    have h := ih (gstep who now count a x)
    have h2 : (gstep who now count a x).items.length ≤ a.items.length + 1 ∧ (gstep who now count a x).waits.length ≤ a.waits.length + 1 := by
      unfold gstep
      split <;> simp
    simp only [List.foldl_cons, List.length_cons]
    omega
theorem gstep_mem (who : ByteArray) (now count : Int) (xs : List It) : ∀ (a : Rdg) (x : It), x ∈ (xs.foldl (gstep who now count) a).items → x ∈ a.items ∨ x ∈ xs := by
  induction xs with
  | nil => intro a x h; exact .inl h
  | cons y xs ih =>
    intro a x h
    rcases ih _ x h with h | h
    · unfold gstep at h
      split at h
      · rcases List.mem_append.1 h with h | h
        · exact .inl h
        · right; simp only [List.mem_singleton] at h; simp [h]
      · exact .inl h
    · right; simp [h]
def readM (s : Stm) (name who : ByteArray) (now count : Int) : Stm × List It :=
  if streamOkM s = true then
    match gIx s.groups name with
    | none => (s, [])
    | some i => if keyOkM who = true ∧ withinM now 0 1000000 = true then
        (putW s i ⟨(gAt s i).name, (s.items.foldl (gstep who now count) ⟨(gAt s i).last, (gAt s i).waits, []⟩).last, (s.items.foldl (gstep who now count) ⟨(gAt s i).last, (gAt s i).waits, []⟩).waits⟩, (s.items.foldl (gstep who now count) ⟨(gAt s i).last, (gAt s i).waits, []⟩).items)
      else (s, [])
  else (.z, [])
theorem readM_bad {s : Stm} {name who : ByteArray} {now count : Int} (hok : streamOkM s = false) : readM s name who now count = (.z, []) := by
  unfold readM
  rw [if_neg (by simp [hok])]
theorem readM_none {s : Stm} {name who : ByteArray} {now count : Int} (hok : streamOkM s = true) (h : gIx s.groups name = none) : readM s name who now count = (s, []) := by
  unfold readM
  rw [if_pos hok, h]
theorem readM_not {s : Stm} {name who : ByteArray} {now count : Int} (hok : streamOkM s = true) (h : ¬ (keyOkM who = true ∧ withinM now 0 1000000 = true)) : readM s name who now count = (s, []) := by
  unfold readM
  rw [if_pos hok]
  split
  · rfl
  · rw [if_neg h]
theorem readM_some {s : Stm} {name who : ByteArray} {now count : Int} {i : Nat} (hok : streamOkM s = true) (hg : gIx s.groups name = some i) (h : keyOkM who = true ∧ withinM now 0 1000000 = true) :
    readM s name who now count = (putW s i ⟨(gAt s i).name, (s.items.foldl (gstep who now count) ⟨(gAt s i).last, (gAt s i).waits, []⟩).last, (s.items.foldl (gstep who now count) ⟨(gAt s i).last, (gAt s i).waits, []⟩).waits⟩, (s.items.foldl (gstep who now count) ⟨(gAt s i).last, (gAt s i).waits, []⟩).items) := by
  unfold readM
  rw [if_pos hok, hg]
  simp only [if_pos h]
def gRow (g : Gr) (a : Rdg) : List T := [.str g.name, .int .i64 a.last.t, .int .i64 a.last.n, .list true 5 (a.waits.map Wt.row)]
theorem p_GroupRead : Plain Try.prog 22 := ⟨_, Try.func22, rfl, by decide⟩
theorem s_GroupRead (s : Stm) (name who : ByteArray) (now count : Int) (hs : s.md) (hw : ∀ g ∈ s.groups, g.waits.length < 2000000) : Spec Try.prog 22 [s.av, .t (.str name), .t (.str who), I now, I count] (fun r => r = takeR (readM s name who now count)) := by
  have hsm := hs.sm.1
  have hs1 := hs.1
  have hs2 := hs.2.1
  have hs3 := hs.2.2.1
  have hs4 := hs.2.2.2
  refine Spec.of tysOk mixed Try.func22 rfl (by decide) ?_
  simp -implicitDefEqProofs only [go_sem, Try.f22]
  refine CallW.one (s_StreamOk s hsm hw) p_StreamOk (by first | (simp -implicitDefEqProofs only [go_sem]; done) | ((conv => lhs; simp -implicitDefEqProofs only [go_sem]); done) | (simp -implicitDefEqProofs only [go_sem]; rfl) | rfl) (by first | trivial | (simp [DeepR, DeepV, DeepVs, DeepC, DeepCs, T.scal]; done)) ?_
  simp -implicitDefEqProofs only [go_sem]
  cases hok : streamOkM s
  · simp -implicitDefEqProofs only [go_sem]
    rw [readM_bad hok]
    simp
  simp -implicitDefEqProofs only [go_sem]
  refine CallW.onep (s_cloneStream s hs) p_cloneStream (by first | (simp -implicitDefEqProofs only [go_sem]; done) | ((conv => lhs; simp -implicitDefEqProofs only [go_sem]); done) | (simp -implicitDefEqProofs only [go_sem]; rfl) | rfl) rfl ?_
  simp -implicitDefEqProofs only [go_sem]
  refine CallW.o [(9000, 185), (9001, 186)] (s_groupO s.last.t s.last.n (s.items.map It.rowO) s.groups name hs2) p_group o61 rfl (by conv => lhs; simp -implicitDefEqProofs only [go_sem]) (by simp -implicitDefEqProofs only [go_sem]) ?_
  rintro _ _ ⟨rfl, rfl⟩
  simp -implicitDefEqProofs only [go_sem]
  cases hg : gIx s.groups name with
  | none =>
    simp -implicitDefEqProofs only [go_sem, grpP]
    rw [readM_none hok hg]
    try simp
  | some n =>
    have hn := gIx_lt hg
    simp -implicitDefEqProofs only [go_sem, grpP]
    refine CallW.one (s_keyOk who) p_keyOk (by first | (simp -implicitDefEqProofs only [go_sem]; done) | ((conv => lhs; simp -implicitDefEqProofs only [go_sem]); done) | (simp -implicitDefEqProofs only [go_sem]; rfl) | rfl) (by first | trivial | (simp [DeepR, DeepV, DeepVs, DeepC, DeepCs, T.scal]; done)) ?_
    cases hk : keyOkM who
    · simp -implicitDefEqProofs only [go_sem, hk]
      rw [readM_not hok (by simp [hk])]
      try simp
    simp -implicitDefEqProofs only [go_sem, hk]
    refine CallW.one (s_within now 0 1000000) p_within (by first | (simp -implicitDefEqProofs only [go_sem]; done) | ((conv => lhs; simp -implicitDefEqProofs only [go_sem]); done) | (simp -implicitDefEqProofs only [go_sem]; rfl) | rfl) (by first | trivial | (simp [DeepR, DeepV, DeepVs, DeepC, DeepCs, T.scal]; done)) ?_
    cases hnw : withinM now 0 1000000
    · simp -implicitDefEqProofs only [go_sem, hnw]
      rw [readM_not hok (by simp [hnw])]
      try simp
    simp -implicitDefEqProofs only [go_sem, hnw]
    have hga := gAt_eq hn
    rw [readM_some hok hg ⟨hk, hnw⟩, hga]
    have hro := row_getD Gr.rowO s.groups hn
    have hwl := hs4 _ (List.getElem_mem hn)
    obtain ⟨g, hgg⟩ : ∃ g, g = s.groups[n] := ⟨_, rfl⟩
    have e0 : (s.groups.map Gr.rowO).set n (gRow g ⟨g.last, g.waits, []⟩) = s.groups.map Gr.rowO := by
      rw [hgg]
      refine List.ext_getElem (by simp) fun j h1 h2 => ?_
      rw [List.getElem_set]
      split
      · rename_i hj; subst hj; simp [gRow, Gr.rowO]
      · rfl
    rw [← hgg] at hro hwl ⊢
    obtain ⟨st, hst⟩ : ∃ st, st = fun i : Nat => (s.items.take i).foldl (gstep who now count) ⟨g.last, g.waits, []⟩ := ⟨_, rfl⟩
    have hst0 : st 0 = ⟨g.last, g.waits, []⟩ := by rw [hst]; rfl
    refine LoopW.slotsM [false, false, true, true, true, false, false, false, false, false, true, false, true, true, true, false, false, false, false, false, false, false, false, false, false, false, false, false, false, false, false, false, false, false, false, false, false, false, false, false, false, false, false, true, true, true, false, false, false, false, false, false, false, false, false, false, false, false, false, false, false, false, false, false, false, false, false, false, false, false, false, false, false, false, false, false, false, false, false, false, false, false, false, false, false, false, false, false, false, false, false, false, false, false, false, false, false, false, false, false, false, false, false, false, false] (α := Nat) (fun i => [(45, I i)]) (fun i => [(186, .rows 4 ((s.groups.map Gr.rowO).set n (gRow g (st i)))), (216, .rows 3 ((st i).items.map It.row))]) (fun i => s.items.length - i) (fun i => i ≤ s.items.length) 0 (by simp -implicitDefEqProofs only [go_sem, LeTs_undef, LeTs_same, LeTs_nil]; try simp [LeTs]) (by simp -implicitDefEqProofs only [go_sem, hst0, e0, List.map_nil]) (by omega) ?_
    intro i hi
    simp -implicitDefEqProofs only [go_sem]
    refine BrA_i (fun h => ?_) (fun h => ?_) <;> simp -implicitDefEqProofs only [go_sem]
    · skip
      have h : i < s.items.length := by simp at h; omega
      have h0i : (0 : Int) ≤ i := by omega
      have h1i : (i : Int) < s.items.length := by omega
      have wi : IntKind.i64.wrap ((i : Int) + 1) = ((i + 1 : Nat) : Int) := by rw [wrap64 (by omega) (by omega)]; omega
      have ef : st (i + 1) = gstep who now count (st i) s.items[i] := by rw [hst]; exact foldl_take _ _ _ h
      have hl : (st i).items.length ≤ 1048576 ∧ (st i).waits.length ≤ 2097152 := by
        have := gstep_len who now count (s.items.take i) ⟨g.last, g.waits, []⟩
        rw [hst]; simp at this ⊢; omega
      obtain ⟨a, ha⟩ : ∃ a, a = st i := ⟨_, rfl⟩
      rw [← ha] at ef hl ⊢
      have hsg : ∀ r, ((s.groups.map Gr.rowO).set n r).getD n [] = r := fun r => set_getD (by simpa using hn) r
      have hr := row_getD It.row s.items h
      simp only [It.row] at hr
      simp -implicitDefEqProofs only [go_sem, h, h0i, h1i, hr, wi, gRow]
      refine RegD_of sch_22_11 tysOk (by kernel_rfl) ?_
      simp -implicitDefEqProofs only [go_sem, h, h0i, h1i, hr, wi, gRow, hsg, List.length_set, List.length_map]
      have hlt := h
      (repeat' (first   | (refine RegD_of sch_22_13 tysOk (by kernel_rfl) ?_; try simp -implicitDefEqProofs only [go_sem, hlt, h0i, h1i, hr, wi, gRow, hsg, hn, List.length_set, List.length_map, List.set_set])   | (refine CallW.one (s_IdLess _ _ _ _) p_IdLess (by first | (simp -implicitDefEqProofs only [go_sem]; done) | ((conv => lhs; simp -implicitDefEqProofs only [go_sem]); done) | (simp -implicitDefEqProofs only [go_sem]; rfl) | rfl) (by first | trivial | (simp [DeepR, DeepV, DeepVs, DeepC, DeepCs, T.scal]; done)) ?_; try simp -implicitDefEqProofs only [go_sem, hlt, h0i, h1i, hr, wi, gRow, hsg, hn, List.length_set, List.length_map, List.set_set])   | (refine BrA_i (fun h => ?_) (fun h => ?_) <;> (try simp only [decide_eq_true_eq, decide_eq_false_iff_not, Bool.not_eq_true', Bool.not_eq_false', gt_iff_lt, ge_iff_le] at h) <;> try simp -implicitDefEqProofs only [go_sem, hlt, h0i, h1i, hr, wi, gRow, hsg, hn, List.length_set, List.length_map, List.set_set])   | (refine And.intro (a := roomy _ _) (by (unfold roomy; (try simp only [List.length_take, List.length_append, List.length_map, List.length_cons, List.length_nil]); omega)) ?_; try simp -implicitDefEqProofs only [go_sem, hlt, h0i, h1i, hr, wi, gRow, hsg, hn, List.length_set, List.length_map, List.set_set])))
      all_goals first
        | (have he : gstep who now count a s.items[i] = a := if_neg (by rintro ⟨x1, x2, x3⟩; simp only [ltM, decide_eq_true_eq] at x3; omega)
           refine .to [128, 680, 688, 728, 736, 545, 546, 547] (i + 1) rfl ?_ ?_ (by omega) (by omega) <;> simp -implicitDefEqProofs only [go_sem, LeTs_undef, LeTs_same, LeTs_nil, ef, he, gRow, wi])
        | (have he : gstep who now count a s.items[i] = ⟨s.items[i].id, a.waits ++ [⟨s.items[i].id, who, now, 1⟩], a.items ++ [s.items[i]]⟩ := if_pos ⟨by omega, by omega, by simp only [ltM, decide_eq_true_eq]; omega⟩
           have e2 : (a.waits ++ [(⟨s.items[i].id, who, now, 1⟩ : Wt)]).map Wt.row = a.waits.map Wt.row ++ [[T.int .i64 s.items[i].id.t, T.int .i64 s.items[i].id.n, T.str who, T.int .i64 now, T.int .i64 1]] := by rw [List.map_append]; rfl
           have e3 : (a.items ++ [s.items[i]]).map It.row = a.items.map It.row ++ [[T.int .i64 s.items[i].id.t, T.int .i64 s.items[i].id.n, T.list false 2 (s.items[i].fields.map Pr.row)]] := by rw [List.map_append]; rfl
           refine .to [128, 680, 688, 728, 736, 545, 546, 547] (i + 1) rfl ?_ ?_ (by omega) (by omega) <;> simp -implicitDefEqProofs only [go_sem, LeTs_undef, LeTs_same, LeTs_nil, ef, he, e2, e3, gRow, wi])
    · have h : i = s.items.length := by simp at h; omega
      subst h
      have hl := gstep_len who now count s.items ⟨g.last, g.waits, []⟩
      have hmem := gstep_mem who now count s.items ⟨g.last, g.waits, []⟩
      have hste : st s.items.length = s.items.foldl (gstep who now count) ⟨g.last, g.waits, []⟩ := by rw [hst]; simp only [List.take_length]
      rw [← hste] at hl hmem ⊢
      obtain ⟨a, ha⟩ : ∃ a, a = st s.items.length := ⟨_, rfl⟩
      rw [← ha] at hl hmem ⊢
      simp only [List.length_nil, Nat.zero_add] at hl
      have hsg : ∀ r, ((s.groups.map Gr.rowO).set n r).getD n [] = r := fun r => set_getD (by simpa using hn) r
      have hset : (s.groups.set n ⟨g.name, a.last, a.waits⟩).map Gr.rowO = (s.groups.map Gr.rowO).set n [T.str g.name, T.int .i64 a.last.t, T.int .i64 a.last.n, T.list true 5 (a.waits.map Wt.row)] := by rw [List.map_set]; rfl
      simp -implicitDefEqProofs only [go_sem, hsg, hn, gRow, List.length_set, List.length_map]
      refine CallW.one (s_cloneWaits a.waits (by omega)) p_cloneWaits (by first | (simp -implicitDefEqProofs only [go_sem]; done) | ((conv => lhs; simp -implicitDefEqProofs only [go_sem]); done) | (simp -implicitDefEqProofs only [go_sem]; rfl) | rfl) (deep_wts _) ?_
      simp -implicitDefEqProofs only [go_sem, hsg, hn, List.length_set, List.length_map, List.set_set]
      (try refine ⟨hn, ?_⟩)
      refine RegD_of sch_22_17 tysOk (by kernel_rfl) ?_
      simp -implicitDefEqProofs only [go_sem]
      refine CallW.one (s_cloneItems a.items (by omega) (fun x hx => by have := hs3 x ((hmem x hx).resolve_left (by simp)); omega)) p_cloneItems (by first | (simp -implicitDefEqProofs only [go_sem]; done) | ((conv => lhs; simp -implicitDefEqProofs only [go_sem]); done) | (simp -implicitDefEqProofs only [go_sem]; rfl) | rfl) (deep_its _) ?_
      simp -implicitDefEqProofs only [go_sem]
      rw [← hset]; rfl
theorem p_l9Wait : Plain Try.prog 111 := ⟨_, Try.func111, rfl, by decide⟩
theorem s_l9Wait (ws : List Wt) (w : Wt) (hs : ws.length ≤ 1048576) (hb : ∀ x ∈ ws, ltM x.id w.id = true) : Spec Try.prog 111 [.t (.list false 5 (ws.map Wt.row)), w.av] (fun r => r = .own (.list true 5 ((ws ++ [w]).map Wt.row))) := by
  refine Spec.of tysOk mixed Try.func111 rfl (by decide) ?_
  simp -implicitDefEqProofs only [go_sem, Try.f111]
  refine LoopW.slotsM [true, false, false, true, false, true, false, false, false, false, false, false, false, false, false, false, false, false, false, false, false, false, false, false, false, false, false, false, false, false, false, false, false, false] (α := Nat) (fun i => [(5, I i)]) (fun i => []) (fun i => ws.length - i) (fun i => i ≤ ws.length) 0 (by simp -implicitDefEqProofs only [go_sem, LeTs_undef, LeTs_same, LeTs_nil]; try simp [LeTs]) rfl (by omega) ?_
  intro i hi
  simp -implicitDefEqProofs only [go_sem]
  refine RegD_of sch_111_2 tysOk (by kernel_rfl) ?_
  simp -implicitDefEqProofs only [go_sem]
  refine BrA_i (fun h => ?_) (fun h => ?_) <;> simp -implicitDefEqProofs only [go_sem]
  · skip
    have h : i < ws.length := by simp at h; omega
    have h0i : (0 : Int) ≤ i := by omega
    have h1i : (i : Int) < ws.length := by omega
    have wi : IntKind.i64.wrap ((i : Int) + 1) = ((i + 1 : Nat) : Int) := by rw [wrap64 (by omega) (by omega)]; omega
    have hr := row_getD Wt.row ws h
    simp only [Wt.row] at hr
    have hlt := hb ws[i] (List.getElem_mem h)
    have hlt2 : decide (ordM ws[i].id.t ws[i].id.n w.id.t w.id.n < 0) = true := hlt
    simp -implicitDefEqProofs only [go_sem, h, h0i, h1i, hr, wi]
    refine CallW.one (s_sIdLess ws[i].id.t ws[i].id.n w.id.t w.id.n) p_sIdLess (by first | (simp -implicitDefEqProofs only [go_sem]; done) | ((conv => lhs; simp -implicitDefEqProofs only [go_sem]); done) | (simp -implicitDefEqProofs only [go_sem]; rfl) | rfl) (by first | trivial | (simp [DeepR, DeepV, DeepVs, DeepC, DeepCs, T.scal]; done)) ?_
    simp -implicitDefEqProofs only [go_sem, hlt2, h, h0i, h1i, hr, wi]
    refine .to [145, 146, 147] (i + 1) rfl ?_ ?_ (by omega) (by omega) <;> simp -implicitDefEqProofs only [go_sem, LeTs_undef, LeTs_same, LeTs_nil, wi]
  · have h : i = ws.length := by simp at h; omega
    subst h
    have z0 : (0 : Int) ≤ ws.length := by omega
    refine RegD_of sch_111_4 tysOk (by kernel_rfl) ?_
    simp -implicitDefEqProofs only [go_sem, z0, Int.le_refl]
    have e1 : sharedRows (List.take (ws.length - Int.toNat 0) (List.drop (Int.toNat 0) (List.map Wt.row ws))) = ws.map Wt.row := by
      rw [show Int.toNat 0 = 0 from rfl, Nat.sub_zero, List.drop_zero, List.take_of_length_le (by simp), shared_Wt]
    have e2 : sharedRows (List.take (ws.length - ws.length) (List.drop ws.length (List.map Wt.row ws))) = [] := by
      rw [Nat.sub_self, List.take_zero]; rfl
    rw [e1, e2]
    refine ⟨by unfold roomy; simp; omega, by unfold roomy; simp; omega, by unfold roomy; simp; omega, ?_⟩
    rw [List.append_nil, List.map_append]; rfl
end Go.Proofs.Ytaajnbfnaoecnaa.Am
namespace Go.Proofs.Ytaajnbfnaoecnaa.Am
open Go
set_option linter.unusedVariables false
theorem gstep_full (who : ByteArray) (now count : Int) (xs : List It) (a : Rdg) (h : ¬ (a.items.length : Int) < count) : xs.foldl (gstep who now count) a = a := by
  induction xs with
  | nil => rfl
  | cons x xs ih =>
    have : gstep who now count a x = a := if_neg (fun hh => h hh.1)
    rw [List.foldl_cons, this, ih]
structure GInv (g : Gr) (l : List It) (i : Nat) (a : Rdg) : Prop where
  waits : ∀ w ∈ a.waits, ltM a.last w.id = false
  last : a.last = g.last ∨ (ltM g.last a.last = true ∧ ∃ j, ∃ h : j < l.length, j < i ∧ a.last = l[j].id)
theorem ltM_irrefl (a : Idt) : ltM a a = false := by
  cases h : ltM a a with
  | false => rfl
  | true => rw [ltM_iff] at h; omega
theorem ltM_asymm {a b : Idt} (h : ltM a b = true) : ltM b a = false := by
  cases h2 : ltM b a with
  | false => rfl
  | true => rw [ltM_iff] at h h2; omega
theorem GInv.test {g : Gr} {l : List It} {i : Nat} {a : Rdg} (h : GInv g l i a) (hi : i < l.length) (up : ∀ j (hj : j < l.length), j < i → ltM l[j].id l[i].id = true) : ltM a.last l[i].id = ltM g.last l[i].id := by
  rcases h.last with e | ⟨e1, j, hj, hji, e2⟩
  · rw [e]
  · have h1 := up j hj hji
    rw [← e2] at h1
    rw [h1, ltM_trans e1 h1]
theorem GInv.before {g : Gr} {l : List It} {i : Nat} {a : Rdg} (h : GInv g l i a) {x : Idt} (hx : ltM a.last x = true) : ∀ w ∈ a.waits, ltM w.id x = true := fun w hw => ltM_le (h.waits w hw) hx
theorem GInv.step {g : Gr} {l : List It} {i : Nat} {a : Rdg} (h : GInv g l i a) (hi : i < l.length) (up : ∀ j (hj : j < l.length), j < i → ltM l[j].id l[i].id = true) (who : ByteArray) (now count : Int) : GInv g l (i + 1) (gstep who now count a l[i]) := by
  unfold gstep
  split
  · rename_i hc
    refine ⟨fun w hw => ?_, .inr ⟨by rw [← h.test hi up]; exact hc.2.2, i, hi, by omega, rfl⟩⟩
    rcases List.mem_append.1 hw with hw | hw
    · exact ltM_asymm (h.before hc.2.2 w hw)
    · simp only [List.mem_singleton] at hw
      rw [hw]; exact ltM_irrefl _
  · refine ⟨h.waits, ?_⟩
    rcases h.last with e | ⟨e1, j, hj, hji, e2⟩
    · exact .inl e
    · exact .inr ⟨e1, j, hj, by omega, e2⟩
theorem streamOkM_up {s : Stm} (h : streamOkM s = true) (i : Nat) (hi : i + 1 < s.items.length) : ltM s.items[i].id s.items[i + 1].id = true := by
  simp only [streamOkM, Bool.and_eq_true] at h
  have h2 := (allAt_iff _ _ _).1 h.1.2 (i + 1) hi
  unfold goodAt at h2
  rw [List.getElem?_eq_getElem hi] at h2
  simp only [Bool.and_eq_true] at h2
  have h3 := h2.2
  rw [List.getElem?_eq_getElem (show i < s.items.length by omega)] at h3
  exact h3
theorem streamOkM_before {s : Stm} (h : streamOkM s = true) (j i : Nat) (hi : i < s.items.length) (hj : j < i) : ltM (s.items[j]'(by omega)).id s.items[i].id = true :=
  up_lt It.id s.items (fun k hk => streamOkM_up h k hk) i j hi hj
theorem streamOkM_wl {s : Stm} (h : streamOkM s = true) {g : Gr} (hg : g ∈ s.groups) {w : Wt} (hw : w ∈ g.waits) : ltM g.last w.id = false := by
  simp only [streamOkM, Bool.and_eq_true] at h
  have h1 := h.2
  simp only [allAt, Bool.and_eq_true, List.all_eq_true] at h1
  have h2 := h1.1 g hg
  simp only [grGood, grOkM, Bool.and_eq_true, allAt, List.all_eq_true] at h2
  have h3 := h2.1.2.1 w hw
  simp only [wtGood, Bool.and_eq_true, Bool.not_eq_true'] at h3
  exact h3.1.1.1.2
theorem GInv.start {s : Stm} (h : streamOkM s = true) {g : Gr} (hg : g ∈ s.groups) : GInv g s.items 0 ⟨g.last, g.waits, []⟩ :=
  ⟨fun w hw => streamOkM_wl h hg hw, .inl rfl⟩
end Go.Proofs.Ytaajnbfnaoecnaa.Am
namespace Go.Proofs.Ytaajnbfnaoecnaa.Am
open Go
set_option maxRecDepth 100000
set_option maxHeartbeats 1000000
set_option linter.unusedSimpArgs false
set_option linter.unusedVariables false
theorem p_sGroupRead : Plain Try.prog 94 := ⟨_, Try.func94, rfl, by decide⟩
theorem s_sGroupRead (s : Stm) (name who : ByteArray) (now count : Int) (hs : s.md) (hw : ∀ g ∈ s.groups, g.waits.length < 2000000) : Spec Try.prog 94 [s.av, .t (.str name), .t (.str who), I now, I count] (fun r => r = takeR (readM s name who now count)) := by
  have hsm := hs.sm.1
  have hs1 := hs.1
  have hs2 := hs.2.1
  have hs3 := hs.2.2.1
  have hs4 := hs.2.2.2
  refine Spec.of tysOk mixed Try.func94 rfl (by decide) ?_
  simp -implicitDefEqProofs only [go_sem, Try.f94]
  refine CallW.one (s_sStreamOk s hsm hw) p_sStreamOk (by first | (simp -implicitDefEqProofs only [go_sem]; done) | ((conv => lhs; simp -implicitDefEqProofs only [go_sem]); done) | (simp -implicitDefEqProofs only [go_sem]; rfl) | rfl) (by first | trivial | (simp [DeepR, DeepV, DeepVs, DeepC, DeepCs, T.scal]; done)) ?_
  simp -implicitDefEqProofs only [go_sem]
  cases hok : streamOkM s
  · simp -implicitDefEqProofs only [go_sem]
    rw [readM_bad hok]
    simp
  simp -implicitDefEqProofs only [go_sem]
  refine CallW.onep (s_l9Copy s hs) p_l9Copy (by first | (simp -implicitDefEqProofs only [go_sem]; done) | ((conv => lhs; simp -implicitDefEqProofs only [go_sem]); done) | (simp -implicitDefEqProofs only [go_sem]; rfl) | rfl) rfl ?_
  simp -implicitDefEqProofs only [go_sem]
  refine CallW.one (s_l9Of s name hs2) p_l9Of (by first | (simp -implicitDefEqProofs only [go_sem]; done) | ((conv => lhs; simp -implicitDefEqProofs only [go_sem]); done) | (simp -implicitDefEqProofs only [go_sem]; rfl) | rfl) (by first | trivial | (simp [DeepR, DeepV, DeepVs, DeepC, DeepCs, T.scal]; done)) ?_
  simp -implicitDefEqProofs only [go_sem]
  cases hg : gIx s.groups name with
  | none =>
    simp -implicitDefEqProofs only [go_sem, ixI]
    rw [readM_none hok hg]
    try simp
  | some n =>
    have hn := gIx_lt hg
    have hn0 : ¬ ((n : Nat) : Int) < 0 := by omega
    simp -implicitDefEqProofs only [go_sem, ixI, hn0, decide_false]
    have hn1 : (n : Int) < s.groups.length := by omega
    have hn2 : (0 : Int) ≤ n := by omega
    refine CallW.one (s_l4Key who) p_l4Key (by first | (simp -implicitDefEqProofs only [go_sem]; done) | ((conv => lhs; simp -implicitDefEqProofs only [go_sem]); done) | (simp -implicitDefEqProofs only [go_sem]; rfl) | rfl) (by first | trivial | (simp [DeepR, DeepV, DeepVs, DeepC, DeepCs, T.scal]; done)) ?_
    cases hk : keyOkM who
    · simp -implicitDefEqProofs only [go_sem, hk]
      rw [readM_not hok (by simp [hk])]
      try simp
    simp -implicitDefEqProofs only [go_sem, hk]
    refine CallW.one (s_l1In now 0 1000000) p_l1In (by first | (simp -implicitDefEqProofs only [go_sem]; done) | ((conv => lhs; simp -implicitDefEqProofs only [go_sem]); done) | (simp -implicitDefEqProofs only [go_sem]; rfl) | rfl) (by first | trivial | (simp [DeepR, DeepV, DeepVs, DeepC, DeepCs, T.scal]; done)) ?_
    cases hnw : withinM now 0 1000000
    · simp -implicitDefEqProofs only [go_sem, hnw]
      rw [readM_not hok (by simp [hnw])]
      try simp
    simp -implicitDefEqProofs only [go_sem, hnw]
    have hga := gAt_eq hn
    rw [readM_some hok hg ⟨hk, hnw⟩, hga]
    have hrg := row_getD Gr.row s.groups hn
    have hwl := hs4 _ (List.getElem_mem hn)
    have hgm := List.getElem_mem hn
    obtain ⟨g, hgg⟩ : ∃ g, g = s.groups[n] := ⟨_, rfl⟩
    have e0 : (s.groups.map Gr.rowO).set n (gRow g ⟨g.last, g.waits, []⟩) = s.groups.map Gr.rowO := by
      rw [hgg]
      refine List.ext_getElem (by simp) fun j h1 h2 => ?_
      rw [List.getElem_set]
      split
      · rename_i hj; subst hj; simp [gRow, Gr.rowO]
      · rfl
    rw [← hgg] at hrg hwl hgm ⊢
    simp only [Gr.row] at hrg
    obtain ⟨st, hst⟩ : ∃ st, st = fun i : Nat => (s.items.take i).foldl (gstep who now count) ⟨g.last, g.waits, []⟩ := ⟨_, rfl⟩
    have hst0 : st 0 = ⟨g.last, g.waits, []⟩ := by rw [hst]; rfl
    have hste : st s.items.length = s.items.foldl (gstep who now count) ⟨g.last, g.waits, []⟩ := by rw [hst]; simp only [List.take_length]
    have hinv : ∀ i, i ≤ s.items.length → GInv g s.items i (st i) := by
      intro i
      induction i with
      | zero => intro _; rw [hst0]; exact GInv.start hok hgm
      | succ i ih =>
        intro hi
        have h1 := (ih (by omega)).step (show i < s.items.length by omega) (fun j hj hji => streamOkM_before hok j i (by omega) hji) who now count
        have h2 : st (i + 1) = gstep who now count (st i) s.items[i] := by rw [hst]; exact foldl_take _ _ _ (show i < s.items.length by omega)
        rw [h2]; exact h1
    have hset : ∀ b : Rdg, (s.groups.set n ⟨g.name, b.last, b.waits⟩).map Gr.rowO = (s.groups.map Gr.rowO).set n (gRow g b) := fun b => by rw [List.map_set]; rfl
    rw [← hste]
    refine LoopW.slotsM [false, false, true, true, true, true, false, false, false, false, true, false, true, true, true, true, false, false, false, false, false, false, false, false, false, false, false, false, false, false, false, false, false, false, false, false, false, false, false, false, false, false, false, false, false, false, false, false, false, false, false, false, false, false, false, false, false, false, false, false, false, false, false, false, false, false, false, false, false, false, false, false, false, false, false, false, false, false, false, false, false, false, false, false, false, false, false, false, false, false, false, false, false, false, false, false, false, false, false, false, false, false, false, false, false, false, false, false, false, false, false, false, false, false, false, false, false, false, false, false, false] (α := Nat) (fun i => [(15, I i)]) (fun i => [(186, .rows 4 ((s.groups.map Gr.rowO).set n (gRow g (st i)))), (128, .rows 3 ((st i).items.map It.rowO))]) (fun i => s.items.length - i) (fun i => i ≤ s.items.length) 0 (by simp -implicitDefEqProofs only [go_sem, LeTs_undef, LeTs_same, LeTs_nil]; try simp [LeTs]) (by simp -implicitDefEqProofs only [go_sem, hst0, e0, List.map_nil]) (by omega) ?_
    intro i hi
    simp -implicitDefEqProofs only [go_sem]
    refine BrA_i (fun h => ?_) (fun h => ?_) <;> simp -implicitDefEqProofs only [go_sem]
    · skip
      have h : i < s.items.length := by simp at h; omega
      have h0i : (0 : Int) ≤ i := by omega
      have h1i : (i : Int) < s.items.length := by omega
      have wi : IntKind.i64.wrap ((i : Int) + 1) = ((i + 1 : Nat) : Int) := by rw [wrap64 (by omega) (by omega)]; omega
      have ef : st (i + 1) = gstep who now count (st i) s.items[i] := by rw [hst]; exact foldl_take _ _ _ h
      have hl : (st i).items.length ≤ 1048576 ∧ (st i).waits.length ≤ 2097152 := by
        have := gstep_len who now count (s.items.take i) ⟨g.last, g.waits, []⟩
        rw [hst]; simp at this ⊢; omega
      have hv := hinv i hi
      obtain ⟨a, ha⟩ : ∃ a, a = st i := ⟨_, rfl⟩
      rw [← ha] at ef hl hv ⊢
      have hsg : ∀ r, ((s.groups.map Gr.rowO).set n r).getD n [] = r := fun r => set_getD (by simpa using hn) r
      have hr := row_getD It.row s.items h
      simp only [It.row] at hr
      have htest := hv.test h (fun j hj hji => streamOkM_before hok j i h hji)
      have hf := hs3 _ (List.getElem_mem h)
      refine BrA_i (fun hc => ?_) (fun hc => ?_) <;> (try simp only [decide_eq_true_eq, decide_eq_false_iff_not] at hc) <;> (try simp -implicitDefEqProofs only [go_sem, h0i, h1i, hn1, hn2, hrg, hr, wi])
      · refine RegD_of sch_94_11 tysOk (by kernel_rfl) ?_
        simp -implicitDefEqProofs only [go_sem, h0i, h1i, hn1, hn2, hrg, hr, wi]
        refine CallW.one (s_sIdLess g.last.t g.last.n s.items[i].id.t s.items[i].id.n) p_sIdLess (by first | (simp -implicitDefEqProofs only [go_sem]; done) | ((conv => lhs; simp -implicitDefEqProofs only [go_sem]); done) | (simp -implicitDefEqProofs only [go_sem]; rfl) | rfl) (by first | trivial | (simp [DeepR, DeepV, DeepVs, DeepC, DeepCs, T.scal]; done)) ?_
        have hd : decide (ordM g.last.t g.last.n s.items[i].id.t s.items[i].id.n < 0) = ltM g.last s.items[i].id := rfl
        rw [hd]
        cases hb : ltM g.last s.items[i].id
        · simp -implicitDefEqProofs only [go_sem, h0i, h1i, hn1, hn2, hrg, hr, wi]
          have he : gstep who now count a s.items[i] = a := if_neg (by rintro ⟨x1, x2, x3⟩; rw [htest, hb] at x3; cases x3)
          refine .to [936, 944, 529, 530, 531, 769, 770, 771, 929, 930, 931] (i + 1) rfl ?_ ?_ (by omega) (by omega) <;> simp -implicitDefEqProofs only [go_sem, LeTs_undef, LeTs_same, LeTs_nil, ef, he, gRow, wi]
        · simp -implicitDefEqProofs only [go_sem, h0i, h1i, hn1, hn2, hrg, hr, wi, gRow, hsg, List.length_set, List.length_map]
          refine ⟨hn, ?_⟩
          refine BrA_i (fun h16 => ?_) (fun h16 => ?_) <;> (try simp only [decide_eq_true_eq, decide_eq_false_iff_not] at h16) <;> simp -implicitDefEqProofs only [go_sem, wi]
          · have he : gstep who now count a s.items[i] = a := if_neg (by rintro ⟨x1, x2, x3⟩; omega)
            refine .to [936, 944, 529, 530, 531, 769, 770, 771, 929, 930, 931] (i + 1) rfl ?_ ?_ (by omega) (by omega) <;> simp -implicitDefEqProofs only [go_sem, LeTs_undef, LeTs_same, LeTs_nil, ef, he, gRow, wi]
          · have hb2 : ltM a.last s.items[i].id = true := by rw [htest]; exact hb
            refine RegD_of sch_94_12 tysOk (by kernel_rfl) ?_
            simp -implicitDefEqProofs only [go_sem, h0i, h1i, hn1, hn2, hrg, hr, wi, gRow, hsg, hn, List.length_set, List.length_map]
            refine CallW.one (s_l9Wait a.waits ⟨s.items[i].id, who, now, 1⟩ (by omega) (hv.before hb2)) p_l9Wait (by first | (simp -implicitDefEqProofs only [go_sem]; done) | ((conv => lhs; simp -implicitDefEqProofs only [go_sem]); done) | (simp -implicitDefEqProofs only [go_sem]; rfl) | rfl) (deep_wts _) ?_
            simp -implicitDefEqProofs only [go_sem, h0i, h1i, hn1, hn2, hrg, hr, wi, gRow, hsg, hn, List.length_set, List.length_map, List.set_set]
            refine RegD_of sch_94_13 tysOk (by kernel_rfl) ?_
            simp -implicitDefEqProofs only [go_sem, h0i, h1i, hn1, hn2, hrg, hr, wi, gRow, hsg, hn, List.length_set, List.length_map, List.set_set]
            (try refine ⟨hn, ?_⟩)
            (try simp -implicitDefEqProofs only [go_sem, h0i, h1i, hn1, hn2, hrg, hr, wi, gRow, hsg, hn, List.length_set, List.length_map, List.set_set])
            refine CallW.onep (s_l9Item s.items[i] (by omega)) p_l9Item (by first | (simp -implicitDefEqProofs only [go_sem]; done) | ((conv => lhs; simp -implicitDefEqProofs only [go_sem]); done) | (simp -implicitDefEqProofs only [go_sem]; rfl) | rfl) rfl ?_
            simp -implicitDefEqProofs only [go_sem, h0i, h1i, hn1, hn2, hrg, hr, wi, gRow, hsg, hn, List.length_set, List.length_map, List.set_set]
            have he : gstep who now count a s.items[i] = ⟨s.items[i].id, a.waits ++ [⟨s.items[i].id, who, now, 1⟩], a.items ++ [s.items[i]]⟩ := if_pos ⟨by omega, by omega, hb2⟩
            have e3 : (a.items ++ [s.items[i]]).map It.rowO = a.items.map It.rowO ++ [[T.int .i64 s.items[i].id.t, T.int .i64 s.items[i].id.n, T.list true 2 (s.items[i].fields.map Pr.row)]] := by rw [List.map_append]; rfl
            refine ⟨by unfold roomy; (try simp); omega, ?_⟩
            refine .to [936, 944, 529, 530, 531, 769, 770, 771, 929, 930, 931] (i + 1) rfl ?_ ?_ (by omega) (by omega) <;> simp -implicitDefEqProofs only [go_sem, LeTs_undef, LeTs_same, LeTs_nil, ef, he, e3, gRow, wi]
      · have hfin : st s.items.length = a := by
          have h1 : s.items = s.items.take i ++ s.items.drop i := (List.take_append_drop i s.items).symm
          rw [hste]
          conv => lhs; rw [h1]
          rw [List.foldl_append]
          have h2 : (s.items.take i).foldl (gstep who now count) ⟨g.last, g.waits, []⟩ = a := by rw [ha, hst]
          rw [h2]; exact gstep_full _ _ _ _ _ hc
        rw [hfin, ← hset]; rfl
    · have h : i = s.items.length := by simp at h; omega
      subst h
      rw [← hset]; rfl
end Go.Proofs.Ytaajnbfnaoecnaa.Am
namespace Go.Proofs.Ytaajnbfnaoecnaa.Am
open Go
set_option maxRecDepth 100000
set_option maxHeartbeats 1000000
set_option linter.unusedSimpArgs false
set_option linter.unusedVariables false
theorem It.mkO_rows (l : List It) : (l.map It.rowO).map (List.map (T.mk false)) = l.map It.row := by
  rw [List.map_map]
  exact List.map_congr_left fun x _ => by simp only [Function.comp, It.rowO, It.row, List.map_cons, List.map_nil, T.mk_list, T.mk_int, Pr.mk_rows]
theorem Gr.mkO_rows (l : List Gr) : (l.map Gr.rowO).map (List.map (T.mk false)) = l.map Gr.row := by
  rw [List.map_map]
  exact List.map_congr_left fun x _ => by simp only [Function.comp, Gr.rowO, Gr.row, List.map_cons, List.map_nil, T.mk_list, T.mk_int, T.mk_str, Wt.mk_rows]
attribute [go_sem] It.mkO_rows Gr.mkO_rows
def gAtM : List Gr → ByteArray → Nat
  | [], _ => 0
  | x :: l, f => if bytesLt x.name f = true then gAtM l f + 1 else 0
theorem gAtM_le : ∀ (l : List Gr) (f : ByteArray), gAtM l f ≤ l.length
  | [], _ => Nat.le_refl _
  | x :: l, f => by
    have := gAtM_le l f
    simp only [gAtM, List.length_cons]; split <;> omega
theorem gAtM_of {l : List Gr} {f : ByteArray} : ∀ {i : Nat}, i ≤ l.length → (∀ j (h : j < l.length), j < i → bytesLt l[j].name f = true) → (∀ h : i < l.length, bytesLt l[i].name f = false) → gAtM l f = i := by
  induction l with
  | nil => intro i hi _ _; simp at hi; simp [gAtM, hi]
  | cons x l ih =>
    intro i hi hj hs
    cases i with
    | zero =>
      have := hs (by simp)
      simp only [List.getElem_cons_zero] at this
      simp [gAtM, this]
    | succ i =>
      have h0 := hj 0 (by simp) (by omega)
      simp only [List.getElem_cons_zero] at h0
      simp only [gAtM, h0, if_true]
      rw [ih (i := i) (by simpa using hi) (fun j h hji => by have := hj (j + 1) (by simpa using h) (by omega); rwa [List.getElem_cons_succ] at this) (fun h => by have := hs (by simpa using h); rwa [List.getElem_cons_succ] at this)]
def insG (gs : List Gr) (g : Gr) : List Gr := gs.take (gAtM gs g.name) ++ g :: gs.drop (gAtM gs g.name)
theorem insG_len (gs : List Gr) (g : Gr) : (insG gs g).length = gs.length + 1 := by
  have := gAtM_le gs g.name
  simp only [insG, List.length_append, List.length_take, List.length_cons, List.length_drop]; omega
theorem insG_mem {gs : List Gr} {g x : Gr} (h : x ∈ insG gs g) : x = g ∨ x ∈ gs := by
  unfold insG at h
  rcases List.mem_append.1 h with h | h
  · exact .inr (List.mem_of_mem_take h)
  · rcases List.mem_cons.1 h with h | h
    · exact .inl h
    · exact .inr (List.mem_of_mem_drop h)
abbrev newS (s : Stm) (name : ByteArray) (fr : Idt) : Stm := ⟨s.last, s.items, insG s.groups ⟨name, fr, []⟩⟩
def newM (s : Stm) (name : ByteArray) (fr : Idt) : Stm × Bool :=
  if streamOkM s = true then (if streamOkM (newS s name fr) = true then (newS s name fr, true) else (s, false)) else (.z, false)
abbrev newR (x : Stm × Bool) : AV := .tup [x.1.avO, Bo x.2]
def newG (gs : List Gr) (g : Gr) : List (List T) := (gs.take (gAtM gs g.name)).map Gr.row ++ [g.rowO] ++ (gs.drop (gAtM gs g.name)).map Gr.row
theorem newG_mk (gs : List Gr) (g : Gr) : (newG gs g).map (List.map (T.mk false)) = (insG gs g).map Gr.row := by
  unfold newG insG
  rw [List.map_append, List.map_append, Gr.mk_rows, Gr.mk_rows, List.map_append, List.map_cons, List.append_assoc]
  have := Gr.mkO_rows [g]
  simp only [List.map_cons, List.map_nil] at this
  rw [List.map_cons, List.map_nil, this]; rfl
attribute [go_sem] newG_mk
abbrev newRS (s : Stm) (name : ByteArray) (fr : Idt) : AV := .tup [.agg [I s.last.t, I s.last.n, .own (.list true 3 (s.items.map It.rowO)), .own (.list true 4 (newG s.groups ⟨name, fr, []⟩))], Bo true]
theorem shared_Gr (l : List Gr) : sharedRows (l.map Gr.rowO) = l.map Gr.row := by
  unfold sharedRows
  rw [List.map_map]; exact List.map_congr_left fun x _ => rfl
theorem p_sGroupNew : Plain Try.prog 21 := ⟨_, Try.func21, rfl, by decide⟩
theorem s_sGroupNew (s : Stm) (name : ByteArray) (fr : Idt) (hs : s.md) (hw : ∀ g ∈ s.groups, g.waits.length < 2000000) : Spec Try.prog 21 [s.av, .t (.str name), fr.av] (fun r => r = newR (newM s name fr) ∨ (r = newRS s name fr ∧ newM s name fr = (newS s name fr, true))) := by
  have hsm := hs.sm.1
  have hs2 := hs.2.1
  have hlN := insG_len s.groups ⟨name, fr, []⟩
  have hsmN : (newS s name fr).sm := ⟨hsm.1, by show (insG _ _).length < _; omega, hsm.2.2.1, fun g hg => (insG_mem hg).elim (fun e => by subst e; show (0 : Nat) < _; omega) (hsm.2.2.2 g)⟩
  have hwN : ∀ g ∈ (newS s name fr).groups, g.waits.length < 2000000 := fun g hg => (insG_mem hg).elim (fun e => by subst e; show (0 : Nat) < _; omega) (hw g)
  refine Spec.of tysOk mixed Try.func21 rfl (by decide) ?_
  simp -implicitDefEqProofs only [go_sem, Try.f21]
  refine CallW.one (s_sStreamOk s hsm hw) p_sStreamOk (by first | (simp -implicitDefEqProofs only [go_sem]; done) | ((conv => lhs; simp -implicitDefEqProofs only [go_sem]); done) | (simp -implicitDefEqProofs only [go_sem]; rfl) | rfl) (by first | trivial | (simp [DeepR, DeepV, DeepVs, DeepC, DeepCs, T.scal]; done)) ?_
  simp -implicitDefEqProofs only [go_sem]
  cases hok : streamOkM s
  · simp -implicitDefEqProofs only [go_sem]
    left; simp [newM, hok]
  simp -implicitDefEqProofs only [go_sem]
  refine CallW.onep (s_l9Copy s hs) p_l9Copy (by first | (simp -implicitDefEqProofs only [go_sem]; done) | ((conv => lhs; simp -implicitDefEqProofs only [go_sem]); done) | (simp -implicitDefEqProofs only [go_sem]; rfl) | rfl) rfl ?_
  simp -implicitDefEqProofs only [go_sem]
  refine LoopW.slotsM [false, true, false, true, false, true, true, false, true, true, false, false, false, false, false, false, false, false, false, false, false, false, false, false, false, false, false, false, false, false, false, false, false, false, false, false, false, false, false, false, false, false, false, false, false, false, false, false, false, false, false, false, false, false, false, false] (α := Nat) (fun i => [(9, I i)]) (fun i => []) (fun i => s.groups.length - i) (fun i => i ≤ s.groups.length ∧ ∀ j (h : j < s.groups.length), j < i → bytesLt s.groups[j].name name = true) 0 (by simp -implicitDefEqProofs only [go_sem, LeTs_undef, LeTs_same, LeTs_nil]; try simp [LeTs]) rfl ⟨by omega, fun _ _ h => by omega⟩ ?_
  rintro i ⟨hi, hj⟩
  simp -implicitDefEqProofs only [go_sem]
  have last : gAtM s.groups name = i → True := fun _ => trivial
  refine BrA_i (fun h => ?_) (fun h => ?_) <;> simp -implicitDefEqProofs only [go_sem]
  · skip
    have h : i < s.groups.length := by simp at h; omega
    have h0i : (0 : Int) ≤ i := by omega
    have h1i : (i : Int) < s.groups.length := by omega
    have wi : IntKind.i64.wrap ((i : Int) + 1) = ((i + 1 : Nat) : Int) := by rw [wrap64 (by omega) (by omega)]; omega
    have hr := row_getD Gr.rowO s.groups h
    simp only [Gr.rowO] at hr
    simp -implicitDefEqProofs only [go_sem, h, h0i, h1i, hr, wi]
    refine BrA_i (fun h2 => ?_) (fun h2 => ?_) <;> simp -implicitDefEqProofs only [go_sem, h, h0i, h1i, hr, wi]
    · refine .to [] (i + 1) rfl ?_ ?_ (by omega) ⟨by omega, fun j hj2 hj3 => by
        by_cases hji : j < i
        · exact hj j hj2 hji
        · obtain rfl : j = i := by omega
          exact h2⟩ <;> simp -implicitDefEqProofs only [go_sem, LeTs_undef, LeTs_same, LeTs_nil, wi]
    · have e1 := gAtM_of hi hj (fun _ => h2)
      clear h2 hr wi h1i h0i hj last
      subst e1
      clear hi
      have hg := gAtM_le s.groups name
      have a0 : (0 : Int) ≤ (gAtM s.groups name : Nat) := by omega
      have a1 : ((gAtM s.groups name : Nat) : Int) ≤ s.groups.length := by omega
      have e1 : sharedRows (List.take (gAtM s.groups name - Int.toNat 0) (List.drop (Int.toNat 0) (List.map Gr.rowO s.groups))) = (s.groups.take (gAtM s.groups name)).map Gr.row := by
        rw [show Int.toNat 0 = 0 from rfl, Nat.sub_zero, List.drop_zero, ← List.map_take, shared_Gr]
      have e1' : sharedRows (List.take (gAtM s.groups name - Int.toNat 0) (List.drop 0 (List.drop (Int.toNat 0) (List.map Gr.rowO s.groups)))) = (s.groups.take (gAtM s.groups name)).map Gr.row := by
        rw [show Int.toNat 0 = 0 from rfl, Nat.sub_zero, List.drop_zero, List.drop_zero, ← List.map_take, shared_Gr]
      have e2 : sharedRows (List.take (s.groups.length - gAtM s.groups name) (List.drop (gAtM s.groups name) (List.map Gr.rowO s.groups))) = (s.groups.drop (gAtM s.groups name)).map Gr.row := by
        rw [← List.map_drop, List.take_of_length_le (by simp), shared_Gr]
      have e3 : (s.groups.take (gAtM s.groups name)).map Gr.row ++ [[T.str name, T.int .i64 fr.t, T.int .i64 fr.n, T.list true 5 []]] ++ (s.groups.drop (gAtM s.groups name)).map Gr.row = newG s.groups ⟨name, fr, []⟩ := rfl
      refine RegD_to sch_21_7 ?sx tysOk (by kernel_rfl) ?ga ?gb
      case ga =>
        simp -implicitDefEqProofs only [go_sem, a0, a1]
        simp only [e1, e1', e2, e3]
        repeat' (first
          | exact rfl
          | (refine And.intro (a := roomy _ _) (by unfold roomy; simp only [List.length_map, List.length_take, List.length_append, List.length_cons, List.length_nil, List.length_drop]; omega) ?_)
          | (refine And.intro (a := (_ : Int) ≤ _) (by omega) ?_)
          | refine ⟨?_, ?_⟩)
      simp -implicitDefEqProofs only [go_sem]
      refine CallW.one (s_sStreamOk (newS s name fr) hsmN hwN) p_sStreamOk (by first | (simp -implicitDefEqProofs only [go_sem]; done) | ((conv => lhs; simp -implicitDefEqProofs only [go_sem]); done) | (simp -implicitDefEqProofs only [go_sem]; rfl) | rfl) (by first | trivial | (simp [DeepR, DeepV, DeepVs, DeepC, DeepCs, T.scal]; done)) ?_
      simp -implicitDefEqProofs only [go_sem]
      cases hok2 : streamOkM (newS s name fr)
      · simp -implicitDefEqProofs only [go_sem]
        refine CallW.onep (s_l9Copy s hs) p_l9Copy (by first | (simp -implicitDefEqProofs only [go_sem]; done) | ((conv => lhs; simp -implicitDefEqProofs only [go_sem]); done) | (simp -implicitDefEqProofs only [go_sem]; rfl) | rfl) rfl ?_
        simp -implicitDefEqProofs only [go_sem]
        left; simp [newM, hok, hok2]
      · simp -implicitDefEqProofs only [go_sem]
        right; simp [newM, hok, hok2]
  · have h : i = s.groups.length := by simp at h; omega
    have e1 := gAtM_of hi hj (fun h => by omega)
    clear h hj last
    subst e1
    clear hi
    have hg := gAtM_le s.groups name
    have a0 : (0 : Int) ≤ (gAtM s.groups name : Nat) := by omega
    have a1 : ((gAtM s.groups name : Nat) : Int) ≤ s.groups.length := by omega
    have e1 : sharedRows (List.take (gAtM s.groups name - Int.toNat 0) (List.drop (Int.toNat 0) (List.map Gr.rowO s.groups))) = (s.groups.take (gAtM s.groups name)).map Gr.row := by
      rw [show Int.toNat 0 = 0 from rfl, Nat.sub_zero, List.drop_zero, ← List.map_take, shared_Gr]
    have e1' : sharedRows (List.take (gAtM s.groups name - Int.toNat 0) (List.drop 0 (List.drop (Int.toNat 0) (List.map Gr.rowO s.groups)))) = (s.groups.take (gAtM s.groups name)).map Gr.row := by
      rw [show Int.toNat 0 = 0 from rfl, Nat.sub_zero, List.drop_zero, List.drop_zero, ← List.map_take, shared_Gr]
    have e2 : sharedRows (List.take (s.groups.length - gAtM s.groups name) (List.drop (gAtM s.groups name) (List.map Gr.rowO s.groups))) = (s.groups.drop (gAtM s.groups name)).map Gr.row := by
      rw [← List.map_drop, List.take_of_length_le (by simp), shared_Gr]
    have e3 : (s.groups.take (gAtM s.groups name)).map Gr.row ++ [[T.str name, T.int .i64 fr.t, T.int .i64 fr.n, T.list true 5 []]] ++ (s.groups.drop (gAtM s.groups name)).map Gr.row = newG s.groups ⟨name, fr, []⟩ := rfl
    refine RegD_to sch_21_7 ?sx2 tysOk (by kernel_rfl) ?ga2 ?gb2
    case ga2 =>
      simp -implicitDefEqProofs only [go_sem, a0, a1]
      simp only [e1, e1', e2, e3]
      repeat' (first
        | exact rfl
        | (refine And.intro (a := roomy _ _) (by unfold roomy; simp only [List.length_map, List.length_take, List.length_append, List.length_cons, List.length_nil, List.length_drop]; omega) ?_)
        | (refine And.intro (a := (_ : Int) ≤ _) (by omega) ?_)
        | refine ⟨?_, ?_⟩)
    simp -implicitDefEqProofs only [go_sem]
    refine CallW.one (s_sStreamOk (newS s name fr) hsmN hwN) p_sStreamOk (by first | (simp -implicitDefEqProofs only [go_sem]; done) | ((conv => lhs; simp -implicitDefEqProofs only [go_sem]); done) | (simp -implicitDefEqProofs only [go_sem]; rfl) | rfl) (by first | trivial | (simp [DeepR, DeepV, DeepVs, DeepC, DeepCs, T.scal]; done)) ?_
    simp -implicitDefEqProofs only [go_sem]
    cases hok2 : streamOkM (newS s name fr)
    · simp -implicitDefEqProofs only [go_sem]
      refine CallW.onep (s_l9Copy s hs) p_l9Copy (by first | (simp -implicitDefEqProofs only [go_sem]; done) | ((conv => lhs; simp -implicitDefEqProofs only [go_sem]); done) | (simp -implicitDefEqProofs only [go_sem]; rfl) | rfl) rfl ?_
      simp -implicitDefEqProofs only [go_sem]
      left; simp [newM, hok, hok2]
    · simp -implicitDefEqProofs only [go_sem]
      right; simp [newM, hok, hok2]
end Go.Proofs.Ytaajnbfnaoecnaa.Am
namespace Go.Proofs.Ytaajnbfnaoecnaa.Am
open Go
set_option linter.unusedSimpArgs false
set_option linter.unusedVariables false
def Stm.dd (s : Stm) : Prop := s.items.length ≤ 20 ∧ s.groups.length ≤ 20 ∧ (∀ i ∈ s.items, i.fields.length ≤ 20) ∧ ∀ g ∈ s.groups, g.waits.length ≤ 40
theorem Stm.dd.md {s : Stm} (h : s.dd) : s.md := ⟨by have := h.1; omega, by have := h.2.1; omega, fun i hi => by have := h.2.2.1 i hi; omega, fun g hg => by have := h.2.2.2 g hg; omega⟩
theorem Stm.dd.hw {s : Stm} (h : s.dd) : ∀ g ∈ s.groups, g.waits.length < 2000000 := fun g hg => by have := h.2.2.2 g hg; omega
theorem allAt_all {α : Type} {good : α → Bool} {link : α → α → Bool} {l : List α} (h : allAt good link l = true) : ∀ x ∈ l, good x = true := by
  unfold allAt at h
  rw [Bool.and_eq_true] at h
  exact List.all_eq_true.1 h.1
theorem streamOkM_small {s : Stm} (h : streamOkM s = true) : s.items.length ≤ 16 ∧ s.groups.length ≤ 3 ∧ (∀ i ∈ s.items, i.fields.length ≤ 16) ∧ ∀ g ∈ s.groups, g.waits.length ≤ 16 := by
  unfold streamOkM at h
  simp only [Bool.and_eq_true, decide_eq_true_eq] at h
  obtain ⟨⟨⟨⟨_, h1⟩, h2⟩, h3⟩, h4⟩ := h
  refine ⟨h1, h2, fun i hi => ?_, fun g hg => ?_⟩
  · have := allAt_all h3 i hi
    simp only [itGood, fieldsFullM, Bool.and_eq_true] at this
    exact fieldsOkM_len this.2.2
  · have := allAt_all h4 g hg
    simp only [grGood, grOkM, Bool.and_eq_true, decide_eq_true_eq] at this
    exact this.1.1.2
theorem streamOkM_dd {s : Stm} (h : streamOkM s = true) : s.dd := by
  obtain ⟨h1, h2, h3, h4⟩ := streamOkM_small h
  exact ⟨by omega, by omega, fun i hi => by have := h3 i hi; omega, fun g hg => by have := h4 g hg; omega⟩
theorem z_dd : Stm.dd .z := ⟨Nat.zero_le _, Nat.zero_le _, fun i hi => (by cases hi), fun g hg => (by cases hg)⟩
theorem addM_dd (s : Stm) (now : Int) (fs : List Pr) (hf : fs.length ≤ 17) : (addM s now fs).1.dd := by
  unfold addM
  split
  · rename_i hok
    obtain ⟨h1, h2, h3, h4⟩ := streamOkM_small hok
    split
    · refine ⟨by simp only [List.length_append, List.length_cons, List.length_nil]; omega, by simp only; omega, fun i hi => ?_, fun g hg => by have := h4 g hg; omega⟩
      rcases List.mem_append.1 hi with hi | hi
      · have := h3 i hi; omega
      · simp only [List.mem_singleton] at hi; subst hi; show fs.length ≤ 20; omega
    · exact streamOkM_dd hok
  · exact z_dd
theorem putW_dd {s : Stm} (hok : streamOkM s = true) (i : Nat) (g : Gr) (hg : g.waits.length ≤ 40) : (putW s i g).dd := by
  obtain ⟨h1, h2, h3, h4⟩ := streamOkM_small hok
  refine ⟨by show s.items.length ≤ 20; omega, by simp only [putW, List.length_set]; omega, fun i hi => by have := h3 i hi; omega, fun x hx => ?_⟩
  rcases List.mem_or_eq_of_mem_set hx with h | h
  · have := h4 x h; omega
  · rw [h]; exact hg
theorem gAt_small {s : Stm} (hok : streamOkM s = true) {name : ByteArray} {i : Nat} (h : gIx s.groups name = some i) : (gAt s i).waits.length ≤ 16 := by
  have hn := gIx_lt h
  rw [gAt_eq hn]
  exact (streamOkM_small hok).2.2.2 _ (List.getElem_mem hn)
theorem readM_dd (s : Stm) (name who : ByteArray) (now count : Int) : (readM s name who now count).1.dd := by
  unfold readM
  split
  · rename_i hok
    split
    · exact streamOkM_dd hok
    · rename_i i hi
      split
      · refine putW_dd hok _ _ ?_
        have := gstep_len who now count s.items ⟨(gAt s i).last, (gAt s i).waits, []⟩
        have h2 := gAt_small hok hi
        have h3 := (streamOkM_small hok).1
        simp only at this ⊢
        omega
      · exact streamOkM_dd hok
  · exact z_dd
theorem doneM_dd (s : Stm) (name : ByteArray) (ids : List Idt) : (doneM s name ids).1.dd := by
  unfold doneM
  split
  · rename_i hok
    split
    · exact streamOkM_dd hok
    · rename_i i hi
      refine putW_dd hok _ _ ?_
      have h2 := gAt_small hok hi
      have := List.length_filter_le (keepM ids) (gAt s i).waits
      simp only; omega
  · exact z_dd
theorem dropM_dd (s : Stm) (x : Idt) : (dropM s x).1.dd := by
  unfold dropM
  split
  · rename_i hok
    obtain ⟨h1, h2, h3, h4⟩ := streamOkM_small hok
    split
    · exact streamOkM_dd hok
    · refine ⟨by simp only [List.length_append, List.length_take, List.length_drop]; omega, by simp only; omega, fun i hi => ?_, fun g hg => by have := h4 g hg; omega⟩
      rcases List.mem_append.1 hi with hi | hi
      · have := h3 i (List.mem_of_mem_take hi); omega
      · have := h3 i (List.mem_of_mem_drop hi); omega
  · exact z_dd
theorem newM_dd (s : Stm) (name : ByteArray) (fr : Idt) : (newM s name fr).1.dd := by
  unfold newM
  split
  · rename_i hok
    split
    · rename_i hok2; exact streamOkM_dd hok2
    · exact streamOkM_dd hok
  · exact z_dd
end Go.Proofs.Ytaajnbfnaoecnaa.Am
namespace Go.Proofs.Ytaajnbfnaoecnaa.Am
open Go
set_option maxRecDepth 100000
set_option maxHeartbeats 4000000
set_option linter.unusedSimpArgs false
set_option linter.unusedVariables false
abbrev avB (s : Stm) : Blk := .box [I s.last.t, I s.last.n, .t (.list false 3 (s.items.map It.row)), .t (.list false 4 (s.groups.map Gr.row))]
theorem p_l11Stream : Plain Try.prog 66 := ⟨_, Try.func66, rfl, by decide⟩
theorem s_l11Stream (bs : List Int) (p : Int) (h : Drw bs p) (hp : p ≤ 800000000) : SpecO Try.prog 66 [.ptr 9000 0 0] (dwH bs p)
    (fun r h' => (∃ s : Stm, r = s.av ∧ s.dd) ∧ ∃ q, h' = dwH bs q ∧ p ≤ q ∧ q ≤ p + 1000) := by
  refine SpecO.of tysOk mixed Try.func66 rfl (by decide) ?_
  simp -implicitDefEqProofs only [go_sem, Try.f66]
  refine CallW.o [(9000, 9000)] (s_pick bs p 3 h (by omega)) p_pick o55 rfl (by (conv => lhs; simp -implicitDefEqProofs only [go_sem]) <;> rfl) (by (simp -implicitDefEqProofs only [go_sem]) <;> rfl) ?_
  rintro _ _ ⟨⟨now, rfl, n0, n1⟩, rfl⟩
  simp -implicitDefEqProofs only [go_sem]
  refine CallW.o [(9000, 9000)] (s_pick bs (p + 1) 16 (h.to (by omega) (by omega)) (by omega)) p_pick o55 rfl (by (conv => lhs; simp -implicitDefEqProofs only [go_sem]) <;> rfl) (by (simp -implicitDefEqProofs only [go_sem]) <;> rfl) ?_
  rintro _ _ ⟨⟨v, rfl, h0, h2⟩, rfl⟩
  obtain ⟨k, rfl⟩ := Int.eq_ofNat_of_zero_le h0
  simp -implicitDefEqProofs only [go_sem]
  refine LoopW.nilT [(24, 2), (24, 3)] (by conv => lhs; simp -implicitDefEqProofs only [go_sem]) ?_
  refine LoopW.slotsM [true, false, true, true, true, true, false, false, false, false, false, false, false, false, false, false, false, false, false, false, false, false, false, false, false, false, false, false, false, false, false, false, false, false, false, false, false, false, false, false, false, false, false, false, false, false, false, false, false, false, false, false, false, false, false, false, false, false, false, false, false, false, false, false, false, false, false, false, false, false, false, false, false, false, false, false, false, false, false, false, false, false, false, false, false, false, false, false, false, false, false, false, false, false, false, false, false, false, false, false, false, false, false, false, false, false, false, false, false, false, false] (α := Nat × Int × Stm × Int) (fun x => [(4, I x.2.1), (5, I x.1)]) (fun x => [(24, avB x.2.2.1), (9000, .box [by8 bs, I x.2.2.2])]) (fun x => x.1) (fun x => x.1 ≤ k ∧ 0 ≤ x.2.1 ∧ x.2.1 ≤ 3 + 2 * (k - x.1) ∧ x.2.2.1.dd ∧ p ≤ x.2.2.2 ∧ x.2.2.2 ≤ p + 2 + 40 * (k - x.1)) (k, now, .z, p + 1 + 1) (by simp -implicitDefEqProofs only [go_sem, LeTs_undef, LeTs_same, LeTs_nil]; try simp [LeTs]) rfl ⟨by simp, n0, by simp only; omega, z_dd, by simp only; omega, by simp only; omega⟩ ?_
  clear n0 n1
  rintro ⟨n, now, s, q⟩ ⟨g1, g2, g3, g4, g5, g6⟩
  simp only at g1 g2 g3 g4 g5 g6
  simp -implicitDefEqProofs only [go_sem]
  refine BrA_i (fun hn => ?_) (fun hn => ?_) <;> simp -implicitDefEqProofs only [go_sem]
  · have hn' : 0 < n := by have := of_decide_eq_true hn; omega
    have wn : IntKind.i64.wrap ((n : Int) - 1) = ((n - 1 : Nat) : Int) := by rw [wrap64 (by omega) (by omega)]; omega
    have hq : Drw bs q := h.to (by omega) (by omega)
    refine CallW.o [(9000, 9000)] (s_pick bs q 2 hq (by omega)) p_pick o55 rfl (by (conv => lhs; simp -implicitDefEqProofs only [go_sem]) <;> rfl) (by (simp -implicitDefEqProofs only [go_sem]) <;> rfl) ?_
    rintro _ _ ⟨⟨d, rfl, d0, d1⟩, rfl⟩
    have wd : IntKind.i64.wrap (now + d) = now + d := wrap64 (by omega) (by omega)
    obtain ⟨now', hnow⟩ : ∃ x, x = now + d := ⟨_, rfl⟩
    have hw' : 0 ≤ now' ∧ now' ≤ 3 + 2 * (k - n) + 1 := by omega
    have wn' : IntKind.i64.wrap now' = now' := wrap64 (by omega) (by omega)
    rw [← hnow] at wd
    simp -implicitDefEqProofs only [go_sem, ← hnow, wn']
    refine CallW.o [(9000, 9000), (9001, 168)] (s_of bs (q + 1) [⟨#[103]⟩, ⟨#[104]⟩] (hq.to (by omega) (by omega)) (by simp)) p_of o57 rfl (by (conv => lhs; simp -implicitDefEqProofs only [go_sem]) <;> rfl) (by (simp -implicitDefEqProofs only [go_sem]) <;> rfl) ?_
    rintro _ _ ⟨⟨name, rfl, -⟩, rfl⟩
    simp -implicitDefEqProofs only [go_sem]
    refine CallW.o [(9000, 9000)] (s_pick bs (q + 1 + 1) 9 (hq.to (by omega) (by omega)) (by omega)) p_pick o55 rfl (by (conv => lhs; simp -implicitDefEqProofs only [go_sem]) <;> rfl) (by (simp -implicitDefEqProofs only [go_sem]) <;> rfl) ?_
    rintro _ _ ⟨⟨c, rfl, c0, c1⟩, rfl⟩
    simp -implicitDefEqProofs only [go_sem]
    refine BrA_i (fun hc => ?_) (fun hc => ?_) <;> simp -implicitDefEqProofs only [go_sem]
    · refine RegD_of sch_66_11 tysOk (by kernel_rfl) ?_
      simp -implicitDefEqProofs only [go_sem]
      (repeat' (with_reducible refine And.intro ?_ ?_))
      all_goals
        refine CallW.o [(9000, 9000)] (s_has bs (q + 1 + 1 + 1) s (hq.to (by omega) (by omega)) (by omega) (by have := g4.1; omega)) p_has o29 rfl (by (conv => lhs; simp -implicitDefEqProofs only [go_sem]) <;> rfl) (by (simp -implicitDefEqProofs only [go_sem]) <;> rfl) ?_
        rintro _ _ ⟨⟨i, rfl, -⟩, q', rfl, q0, q1⟩
        simp -implicitDefEqProofs only [go_sem]
      all_goals
        refine CallW.ps (s_sGroupNew s name i g4.md g4.hw) p_sGroupNew (by first | (simp -implicitDefEqProofs only [go_sem]; done) | ((conv => lhs; simp -implicitDefEqProofs only [go_sem]); done) | (simp -implicitDefEqProofs only [go_sem]; rfl) | rfl) rfl ?_
        rintro _ (rfl | ⟨rfl, e⟩)
        · simp -implicitDefEqProofs only [go_sem, wn]
          refine .to [168, 416, 640, 145, 146, 147, 177, 178, 179, 193, 194, 195, 233, 234, 235, 241, 242, 243, 329, 330, 331, 337, 338, 339, 425, 426, 427, 449, 450, 451, 465, 466, 467, 609, 610, 611, 649, 650, 651, 737, 738, 739, 825, 826, 827, 857, 858, 859] (n - 1, now', (newM s name i).1, q') rfl ?_ ?_ (by show n - 1 < n; omega) ⟨by simp only; omega, by simp only; omega, by simp only; omega, newM_dd _ _ _, by simp only; omega, by simp only; omega⟩ <;> simp -implicitDefEqProofs only [go_sem, LeTs_undef, LeTs_same, LeTs_nil]
        · simp -implicitDefEqProofs only [go_sem, wn]
          refine .to [168, 416, 640, 145, 146, 147, 177, 178, 179, 193, 194, 195, 233, 234, 235, 241, 242, 243, 329, 330, 331, 337, 338, 339, 425, 426, 427, 449, 450, 451, 465, 466, 467, 609, 610, 611, 649, 650, 651, 737, 738, 739, 825, 826, 827, 857, 858, 859] (n - 1, now', newS s name i, q') rfl ?_ ?_ (by show n - 1 < n; omega) ⟨by simp only; omega, by simp only; omega, by simp only; omega, by have := newM_dd s name i; rwa [e] at this, by simp only; omega, by simp only; omega⟩ <;> simp -implicitDefEqProofs only [go_sem, LeTs_undef, LeTs_same, LeTs_nil]
    refine BrA_i (fun hc2 => ?_) (fun hc2 => ?_) <;> simp -implicitDefEqProofs only [go_sem, hc2]
    · refine RegD_of sch_66_14 tysOk (by kernel_rfl) ?_
      simp -implicitDefEqProofs only [go_sem]
      (repeat' (with_reducible refine And.intro ?_ ?_))
      all_goals
        refine CallW.o [(9000, 9000), (9001, 416)] (s_of bs (q + 1 + 1 + 1) [⟨#[97, 110, 110]⟩, ⟨#[98, 111, 98]⟩] (hq.to (by omega) (by omega)) (by simp)) p_of o57 rfl (by (conv => lhs; simp -implicitDefEqProofs only [go_sem]) <;> rfl) (by (simp -implicitDefEqProofs only [go_sem]) <;> rfl) ?_
        rintro _ _ ⟨⟨who, rfl, -⟩, rfl⟩
        simp -implicitDefEqProofs only [go_sem]
      (repeat' (with_reducible refine And.intro ?_ ?_))
      all_goals
        refine CallW.o [(9000, 9000)] (s_pick bs (q + 1 + 1 + 1 + 1) 3 (hq.to (by omega) (by omega)) (by omega)) p_pick o55 rfl (by (conv => lhs; simp -implicitDefEqProofs only [go_sem]) <;> rfl) (by (simp -implicitDefEqProofs only [go_sem]) <;> rfl) ?_
        rintro _ _ ⟨⟨m, rfl, m0, m1⟩, rfl⟩
        simp -implicitDefEqProofs only [go_sem]
      (repeat' (with_reducible refine And.intro ?_ ?_))
      all_goals
        refine CallW.ps (s_sGroupRead s name who now' (IntKind.i64.wrap (1 + m)) g4.md g4.hw) p_sGroupRead (by first | (simp -implicitDefEqProofs only [go_sem]; done) | ((conv => lhs; simp -implicitDefEqProofs only [go_sem]); done) | (simp -implicitDefEqProofs only [go_sem]; rfl) | rfl) rfl ?_
        rintro _ rfl
        simp -implicitDefEqProofs only [go_sem, wn]
        refine .to [168, 416, 640, 145, 146, 147, 177, 178, 179, 193, 194, 195, 233, 234, 235, 241, 242, 243, 329, 330, 331, 337, 338, 339, 425, 426, 427, 449, 450, 451, 465, 466, 467, 609, 610, 611, 649, 650, 651, 737, 738, 739, 825, 826, 827, 857, 858, 859] (n - 1, now', (readM s name who now' (IntKind.i64.wrap (1 + m))).1, q + 1 + 1 + 1 + 1 + 1) rfl ?_ ?_ (by show n - 1 < n; omega) ⟨by simp only; omega, by simp only; omega, by simp only; omega, readM_dd _ _ _ _ _, by simp only; omega, by simp only; omega⟩ <;> simp -implicitDefEqProofs only [go_sem, LeTs_undef, LeTs_same, LeTs_nil]
    refine BrA_i (fun hc3 => ?_) (fun hc3 => ?_) <;> simp -implicitDefEqProofs only [go_sem, hc3]
    · refine RegD_of sch_66_14 tysOk (by kernel_rfl) ?_
      simp -implicitDefEqProofs only [go_sem]
      (repeat' (with_reducible refine And.intro ?_ ?_))
      all_goals
        refine CallW.o [(9000, 9000), (9001, 416)] (s_of bs (q + 1 + 1 + 1) [⟨#[97, 110, 110]⟩, ⟨#[98, 111, 98]⟩] (hq.to (by omega) (by omega)) (by simp)) p_of o57 rfl (by (conv => lhs; simp -implicitDefEqProofs only [go_sem]) <;> rfl) (by (simp -implicitDefEqProofs only [go_sem]) <;> rfl) ?_
        rintro _ _ ⟨⟨who, rfl, -⟩, rfl⟩
        simp -implicitDefEqProofs only [go_sem]
      (repeat' (with_reducible refine And.intro ?_ ?_))
      all_goals
        refine CallW.o [(9000, 9000)] (s_pick bs (q + 1 + 1 + 1 + 1) 3 (hq.to (by omega) (by omega)) (by omega)) p_pick o55 rfl (by (conv => lhs; simp -implicitDefEqProofs only [go_sem]) <;> rfl) (by (simp -implicitDefEqProofs only [go_sem]) <;> rfl) ?_
        rintro _ _ ⟨⟨m, rfl, m0, m1⟩, rfl⟩
        simp -implicitDefEqProofs only [go_sem]
      (repeat' (with_reducible refine And.intro ?_ ?_))
      all_goals
        refine CallW.ps (s_sGroupRead s name who now' (IntKind.i64.wrap (1 + m)) g4.md g4.hw) p_sGroupRead (by first | (simp -implicitDefEqProofs only [go_sem]; done) | ((conv => lhs; simp -implicitDefEqProofs only [go_sem]); done) | (simp -implicitDefEqProofs only [go_sem]; rfl) | rfl) rfl ?_
        rintro _ rfl
        simp -implicitDefEqProofs only [go_sem, wn]
        refine .to [168, 416, 640, 145, 146, 147, 177, 178, 179, 193, 194, 195, 233, 234, 235, 241, 242, 243, 329, 330, 331, 337, 338, 339, 425, 426, 427, 449, 450, 451, 465, 466, 467, 609, 610, 611, 649, 650, 651, 737, 738, 739, 825, 826, 827, 857, 858, 859] (n - 1, now', (readM s name who now' (IntKind.i64.wrap (1 + m))).1, q + 1 + 1 + 1 + 1 + 1) rfl ?_ ?_ (by show n - 1 < n; omega) ⟨by simp only; omega, by simp only; omega, by simp only; omega, readM_dd _ _ _ _ _, by simp only; omega, by simp only; omega⟩ <;> simp -implicitDefEqProofs only [go_sem, LeTs_undef, LeTs_same, LeTs_nil]
    refine BrA_i (fun hc4 => ?_) (fun hc4 => ?_) <;> simp -implicitDefEqProofs only [go_sem, hc4]
    · refine BrA_i (fun hl => ?_) (fun hl => ?_) <;> simp -implicitDefEqProofs only [go_sem]
      · have hl : 0 < s.items.length := by have := of_decide_eq_true hl; omega
        refine RegD_of sch_66_17 tysOk (by kernel_rfl) ?_
        simp -implicitDefEqProofs only [go_sem]
        (repeat' (with_reducible refine And.intro ?_ ?_))
        all_goals
          refine CallW.o [(9000, 9000)] (s_pick bs (q + 1 + 1 + 1) s.items.length (hq.to (by omega) (by omega)) (by have := g4.1; omega)) p_pick o55 rfl (by (conv => lhs; simp -implicitDefEqProofs only [go_sem]) <;> rfl) (by (simp -implicitDefEqProofs only [go_sem]) <;> rfl) ?_
          rintro _ _ ⟨⟨m, rfl, m0, m1⟩, rfl⟩
          obtain ⟨m, rfl⟩ := Int.eq_ofNat_of_zero_le m0
          have hm : m < s.items.length := by omega
          have hm2 : (m : Int) < s.items.length := by omega
          simp -implicitDefEqProofs only [go_sem, m0, hm2, row_getD _ _ hm, It.row]
        (repeat' (with_reducible refine And.intro ?_ ?_))
        all_goals
          refine CallW.as (s_sGroupDone s name [s.items[m].id] g4.md g4.hw (by simp)) p_sGroupDone (by first | (simp -implicitDefEqProofs only [go_sem]; done) | ((conv => lhs; simp -implicitDefEqProofs only [go_sem]); done) | (simp -implicitDefEqProofs only [go_sem]; rfl) | rfl) (fun r e => by subst e; exact deep_trimR _) ?_
          rintro _ rfl
          simp -implicitDefEqProofs only [go_sem, wn]
          refine .to [168, 416, 640, 145, 146, 147, 177, 178, 179, 193, 194, 195, 233, 234, 235, 241, 242, 243, 329, 330, 331, 337, 338, 339, 425, 426, 427, 449, 450, 451, 465, 466, 467, 609, 610, 611, 649, 650, 651, 737, 738, 739, 825, 826, 827, 857, 858, 859] (n - 1, now', (doneM s name [s.items[m].id]).1, q + 1 + 1 + 1 + 1) rfl ?_ ?_ (by show n - 1 < n; omega) ⟨by simp only; omega, by simp only; omega, by simp only; omega, doneM_dd _ _ _, by simp only; omega, by simp only; omega⟩ <;> simp -implicitDefEqProofs only [go_sem, LeTs_undef, LeTs_same, LeTs_nil]
      · simp -implicitDefEqProofs only [go_sem, wn]
        refine .to [168, 416, 640, 145, 146, 147, 177, 178, 179, 193, 194, 195, 233, 234, 235, 241, 242, 243, 329, 330, 331, 337, 338, 339, 425, 426, 427, 449, 450, 451, 465, 466, 467, 609, 610, 611, 649, 650, 651, 737, 738, 739, 825, 826, 827, 857, 858, 859] (n - 1, now', s, q + 1 + 1 + 1) rfl ?_ ?_ (by show n - 1 < n; omega) ⟨by simp only; omega, by simp only; omega, by simp only; omega, g4, by simp only; omega, by simp only; omega⟩ <;> simp -implicitDefEqProofs only [go_sem, LeTs_undef, LeTs_same, LeTs_nil]
    refine BrA_i (fun hc5 => ?_) (fun hc5 => ?_) <;> simp -implicitDefEqProofs only [go_sem, hc5]
    · refine BrA_i (fun hl => ?_) (fun hl => ?_) <;> simp -implicitDefEqProofs only [go_sem]
      · have hl : 0 < s.items.length := by have := of_decide_eq_true hl; omega
        refine CallW.o [(9000, 9000)] (s_pick bs (q + 1 + 1 + 1) 2 (hq.to (by omega) (by omega)) (by omega)) p_pick o55 rfl (by (conv => lhs; simp -implicitDefEqProofs only [go_sem]) <;> rfl) (by (simp -implicitDefEqProofs only [go_sem]) <;> rfl) ?_
        rintro _ _ ⟨⟨m, rfl, m0, m1⟩, rfl⟩
        simp -implicitDefEqProofs only [go_sem]
        refine BrA_i (fun hl2 => ?_) (fun hl2 => ?_) <;> simp -implicitDefEqProofs only [go_sem]
        · refine RegD_of sch_66_20 tysOk (by kernel_rfl) ?_
          simp -implicitDefEqProofs only [go_sem]
          (repeat' (with_reducible refine And.intro ?_ ?_))
          all_goals
            refine CallW.o [(9000, 9000)] (s_pick bs (q + 1 + 1 + 1 + 1) s.items.length (hq.to (by omega) (by omega)) (by have := g4.1; omega)) p_pick o55 rfl (by (conv => lhs; simp -implicitDefEqProofs only [go_sem]) <;> rfl) (by (simp -implicitDefEqProofs only [go_sem]) <;> rfl) ?_
            rintro _ _ ⟨⟨m, rfl, m0, m1⟩, rfl⟩
            obtain ⟨m, rfl⟩ := Int.eq_ofNat_of_zero_le m0
            have hm : m < s.items.length := by omega
            have hm2 : (m : Int) < s.items.length := by omega
            simp -implicitDefEqProofs only [go_sem, m0, hm2, row_getD _ _ hm, It.row]
          (repeat' (with_reducible refine And.intro ?_ ?_))
          all_goals
            refine CallW.ps (s_sStreamDrop s s.items[m].id g4.md g4.hw) p_sStreamDrop (by first | (simp -implicitDefEqProofs only [go_sem]; done) | ((conv => lhs; simp -implicitDefEqProofs only [go_sem]); done) | (simp -implicitDefEqProofs only [go_sem]; rfl) | rfl) rfl ?_
            rintro _ (rfl | rfl)
            · simp -implicitDefEqProofs only [go_sem, wn]
              refine .to [168, 416, 640, 145, 146, 147, 177, 178, 179, 193, 194, 195, 233, 234, 235, 241, 242, 243, 329, 330, 331, 337, 338, 339, 425, 426, 427, 449, 450, 451, 465, 466, 467, 609, 610, 611, 649, 650, 651, 737, 738, 739, 825, 826, 827, 857, 858, 859] (n - 1, now', (dropM s s.items[m].id).1, q + 1 + 1 + 1 + 1 + 1) rfl ?_ ?_ (by show n - 1 < n; omega) ⟨by simp only; omega, by simp only; omega, by simp only; omega, dropM_dd _ _, by simp only; omega, by simp only; omega⟩ <;> simp -implicitDefEqProofs only [go_sem, LeTs_undef, LeTs_same, LeTs_nil]
            · simp -implicitDefEqProofs only [go_sem, wn]
              refine .to [168, 416, 640, 145, 146, 147, 177, 178, 179, 193, 194, 195, 233, 234, 235, 241, 242, 243, 329, 330, 331, 337, 338, 339, 425, 426, 427, 449, 450, 451, 465, 466, 467, 609, 610, 611, 649, 650, 651, 737, 738, 739, 825, 826, 827, 857, 858, 859] (n - 1, now', (dropM s s.items[m].id).1, q + 1 + 1 + 1 + 1 + 1) rfl ?_ ?_ (by show n - 1 < n; omega) ⟨by simp only; omega, by simp only; omega, by simp only; omega, dropM_dd _ _, by simp only; omega, by simp only; omega⟩ <;> simp -implicitDefEqProofs only [go_sem, LeTs_undef, LeTs_same, LeTs_nil]
        · simp -implicitDefEqProofs only [go_sem, wn]
          refine .to [168, 416, 640, 145, 146, 147, 177, 178, 179, 193, 194, 195, 233, 234, 235, 241, 242, 243, 329, 330, 331, 337, 338, 339, 425, 426, 427, 449, 450, 451, 465, 466, 467, 609, 610, 611, 649, 650, 651, 737, 738, 739, 825, 826, 827, 857, 858, 859] (n - 1, now', s, q + 1 + 1 + 1 + 1) rfl ?_ ?_ (by show n - 1 < n; omega) ⟨by simp only; omega, by simp only; omega, by simp only; omega, g4, by simp only; omega, by simp only; omega⟩ <;> simp -implicitDefEqProofs only [go_sem, LeTs_undef, LeTs_same, LeTs_nil]
      · simp -implicitDefEqProofs only [go_sem, wn]
        refine .to [168, 416, 640, 145, 146, 147, 177, 178, 179, 193, 194, 195, 233, 234, 235, 241, 242, 243, 329, 330, 331, 337, 338, 339, 425, 426, 427, 449, 450, 451, 465, 466, 467, 609, 610, 611, 649, 650, 651, 737, 738, 739, 825, 826, 827, 857, 858, 859] (n - 1, now', s, q + 1 + 1 + 1) rfl ?_ ?_ (by show n - 1 < n; omega) ⟨by simp only; omega, by simp only; omega, by simp only; omega, g4, by simp only; omega, by simp only; omega⟩ <;> simp -implicitDefEqProofs only [go_sem, LeTs_undef, LeTs_same, LeTs_nil]
    · refine RegD_of sch_66_9 tysOk (by kernel_rfl) ?_
      simp -implicitDefEqProofs only [go_sem]
      (repeat' (with_reducible refine And.intro ?_ ?_))
      all_goals
        refine CallW.o [(9000, 9000)] (s_l11Pairs bs (q + 1 + 1 + 1) (hq.to (by omega) (by omega)) (by omega)) p_l11Pairs o69 rfl (by (conv => lhs; simp -implicitDefEqProofs only [go_sem]) <;> rfl) (by (simp -implicitDefEqProofs only [go_sem]) <;> rfl) ?_
        rintro _ _ ⟨⟨fs, rfl, hfs⟩, q', rfl, q0, q1⟩
        have hfl := fieldsOkM_len hfs
        simp -implicitDefEqProofs only [go_sem]
      (repeat' (with_reducible refine And.intro ?_ ?_))
      all_goals
        refine CallW.as (s_sStreamAdd s now' fs g4.md g4.hw (by omega)) p_sStreamAdd (by first | (simp -implicitDefEqProofs only [go_sem]; done) | ((conv => lhs; simp -implicitDefEqProofs only [go_sem]); done) | (simp -implicitDefEqProofs only [go_sem]; rfl) | rfl) (fun r e => by subst e; exact deep_addR _) ?_
        rintro _ rfl
        simp -implicitDefEqProofs only [go_sem, wn]
        refine .to [168, 416, 640, 145, 146, 147, 177, 178, 179, 193, 194, 195, 233, 234, 235, 241, 242, 243, 329, 330, 331, 337, 338, 339, 425, 426, 427, 449, 450, 451, 465, 466, 467, 609, 610, 611, 649, 650, 651, 737, 738, 739, 825, 826, 827, 857, 858, 859] (n - 1, now', (addM s now' fs).1, q') rfl ?_ ?_ (by show n - 1 < n; omega) ⟨by simp only; omega, by simp only; omega, by simp only; omega, addM_dd _ _ _ (by omega), by simp only; omega, by simp only; omega⟩ <;> simp -implicitDefEqProofs only [go_sem, LeTs_undef, LeTs_same, LeTs_nil]
  · exact ⟨⟨s, rfl, g4⟩, q, rfl, by omega, by omega⟩
end Go.Proofs.Ytaajnbfnaoecnaa.Am
namespace Go.Proofs.Ytaajnbfnaoecnaa.Am
open Go
set_option maxRecDepth 100000
set_option maxHeartbeats 4000000
set_option linter.unusedSimpArgs false
set_option linter.unusedVariables false
def Stm.d2 (s : Stm) : Prop := s.items.length ≤ 30 ∧ s.groups.length ≤ 30 ∧ (∀ i ∈ s.items, i.fields.length ≤ 30) ∧ ∀ g ∈ s.groups, g.waits.length ≤ 50
theorem Stm.d2.md {s : Stm} (h : s.d2) : s.md := ⟨by have := h.1; omega, by have := h.2.1; omega, fun i hi => by have := h.2.2.1 i hi; omega, fun g hg => by have := h.2.2.2 g hg; omega⟩
theorem Stm.d2.hw {s : Stm} (h : s.d2) : ∀ g ∈ s.groups, g.waits.length < 2000000 := fun g hg => by have := h.2.2.2 g hg; omega
theorem Stm.dd.d2 {s : Stm} (h : s.dd) : s.d2 := ⟨by have := h.1; omega, by have := h.2.1; omega, fun i hi => by have := h.2.2.1 i hi; omega, fun g hg => by have := h.2.2.2 g hg; omega⟩
theorem Stm.dd.addI {s : Stm} (h : s.dd) (i : Idt) (fs : List Pr) (hf : fs.length ≤ 17) : (⟨s.last, s.items ++ [⟨i, fs⟩], s.groups⟩ : Stm).d2 := by
  obtain ⟨h1, h2, h3, h4⟩ := h
  refine ⟨by simp only [List.length_append, List.length_cons, List.length_nil]; omega, by simp only; omega, fun x hx => ?_, fun g hg => by have := h4 g hg; omega⟩
  rcases List.mem_append.1 hx with hx | hx
  · have := h3 x hx; omega
  · simp only [List.mem_singleton] at hx; subst hx; show fs.length ≤ 30; omega
theorem Stm.dd.addG {s : Stm} (h : s.dd) (name : ByteArray) (i : Idt) : (⟨s.last, s.items, s.groups ++ [⟨name, i, []⟩]⟩ : Stm).d2 := by
  obtain ⟨h1, h2, h3, h4⟩ := h
  refine ⟨by simp only; omega, by simp only [List.length_append, List.length_cons, List.length_nil]; omega, fun x hx => by have := h3 x hx; omega, fun x hx => ?_⟩
  rcases List.mem_append.1 hx with hx | hx
  · have := h4 x hx; omega
  · simp only [List.mem_singleton] at hx; subst hx; show 0 ≤ 50; omega
theorem addM_okl {s : Stm} {now : Int} {fs : List Pr} (h : (addM s now fs).2.2 = true) : (addM s now fs).1.items.length = s.items.length + 1 := by
  unfold addM at h ⊢
  split
  · rename_i hok
    rw [if_pos hok] at h
    split
    · simp
    · rename_i hc; rw [if_neg hc] at h; cases h
  · rename_i hok; rw [if_neg hok] at h; cases h
theorem p_l11AnyStream : Plain Try.prog 28 := ⟨_, Try.func28, rfl, by decide⟩
theorem s_l11AnyStream (bs : List Int) (p : Int) (h : Drw bs p) (hp : p ≤ 700000000) : SpecO Try.prog 28 [.ptr 9000 0 0] (dwH bs p)
    (fun r h' => (∃ s : Stm, (r = s.avO ∨ r = s.av) ∧ s.d2) ∧ ∃ q, h' = dwH bs q ∧ p ≤ q ∧ q ≤ p + 3000) := by
  refine SpecO.of tysOk mixed Try.func28 rfl (by decide) ?_
  simp -implicitDefEqProofs only [go_sem, Try.f28]
  refine CallW.o [(9000, 9000)] (s_l11Stream bs p h (by omega)) p_l11Stream o66 rfl (by (conv => lhs; simp -implicitDefEqProofs only [go_sem]) <;> rfl) (by (simp -implicitDefEqProofs only [go_sem]) <;> rfl) ?_
  rintro _ _ ⟨⟨s, rfl, hs⟩, q, rfl, h0, h1⟩
  simp -implicitDefEqProofs only [go_sem]
  refine CallW.onep (s_l9Copy s hs.md) p_l9Copy (by first | (simp -implicitDefEqProofs only [go_sem]; done) | ((conv => lhs; simp -implicitDefEqProofs only [go_sem]); done) | (simp -implicitDefEqProofs only [go_sem]; rfl) | rfl) rfl ?_
  simp -implicitDefEqProofs only [go_sem]
  refine CallW.o [(9000, 9000)] (s_pick bs q 16 (h.to (by omega) (by omega)) (by omega)) p_pick o55 rfl (by (conv => lhs; simp -implicitDefEqProofs only [go_sem]) <;> rfl) (by (simp -implicitDefEqProofs only [go_sem]) <;> rfl) ?_
  rintro _ _ ⟨⟨c, rfl, c0, c1⟩, rfl⟩
  simp -implicitDefEqProofs only [go_sem]
  refine BrA_i (fun hc => ?_) (fun hc => ?_) <;> simp -implicitDefEqProofs only [go_sem, hc]
  · refine CallW.o [(9000, 9000)] (s_l11AnyId bs (q + 1) (h.to (by omega) (by omega)) (by omega)) p_l11AnyId o56 rfl (by (conv => lhs; simp -implicitDefEqProofs only [go_sem]) <;> rfl) (by (simp -implicitDefEqProofs only [go_sem]) <;> rfl) ?_
    rintro _ _ ⟨⟨i, rfl, hi⟩, q', rfl, q0, q1⟩
    simp -implicitDefEqProofs only [go_sem]
    exact ⟨⟨⟨i, s.items, s.groups⟩, .inl rfl, hs.d2⟩, q', rfl, by omega, by omega⟩
  refine BrA_i (fun hc2 => ?_) (fun hc2 => ?_) <;> simp -implicitDefEqProofs only [go_sem, hc2]
  · refine RegD_of sch_28_6 tysOk (by kernel_rfl) ?_
    simp -implicitDefEqProofs only [go_sem]
    (repeat' (with_reducible refine And.intro ?_ ?_))
    all_goals
      refine CallW.o [(9000, 9000)] (s_l11AnyId bs (q + 1) (h.to (by omega) (by omega)) (by omega)) p_l11AnyId o56 rfl (by (conv => lhs; simp -implicitDefEqProofs only [go_sem]) <;> rfl) (by (simp -implicitDefEqProofs only [go_sem]) <;> rfl) ?_
      rintro _ _ ⟨⟨i, rfl, hi⟩, q2, rfl, q0, q1⟩
      simp -implicitDefEqProofs only [go_sem]
    (repeat' (with_reducible refine And.intro ?_ ?_))
    all_goals
      refine CallW.o [(9000, 9000)] (s_l11AnyFields bs q2 (h.to (by omega) (by omega)) (by omega)) p_l11AnyFields o67 rfl (by (conv => lhs; simp -implicitDefEqProofs only [go_sem]) <;> rfl) (by (simp -implicitDefEqProofs only [go_sem]) <;> rfl) ?_
      rintro _ _ ⟨⟨fs, rfl, hf⟩, q3, rfl, q4, q5⟩
      have e : s.items.map It.rowO ++ [[T.int .i64 i.t, T.int .i64 i.n, T.list true 2 (fs.map Pr.row)]] = (s.items ++ [(⟨i, fs⟩ : It)]).map It.rowO := by rw [List.map_append]; rfl
      have hr : roomy (s.items.length + 1) 40 := by have := hs.1; unfold roomy; omega
      simp -implicitDefEqProofs only [go_sem, e, hr]
      exact ⟨⟨⟨s.last, s.items ++ [⟨i, fs⟩], s.groups⟩, .inl rfl, hs.addI i fs hf⟩, q3, rfl, by omega, by omega⟩
  refine BrA_i (fun hc3 => ?_) (fun hc3 => ?_) <;> simp -implicitDefEqProofs only [go_sem, hc3]
  · refine RegD_of sch_28_8 tysOk (by kernel_rfl) ?_
    simp -implicitDefEqProofs only [go_sem]
    (repeat' (with_reducible refine And.intro ?_ ?_))
    all_goals
      refine CallW.o [(9000, 9000), (9001, 272)] (s_of bs (q + 1) [⟨#[]⟩, ⟨#[122, 122]⟩, ⟨#[103]⟩] (h.to (by omega) (by omega)) (by simp)) p_of o57 rfl (by (conv => lhs; simp -implicitDefEqProofs only [go_sem]) <;> rfl) (by (simp -implicitDefEqProofs only [go_sem]) <;> rfl) ?_
      rintro _ _ ⟨⟨name, rfl, -⟩, rfl⟩
      simp -implicitDefEqProofs only [go_sem]
    (repeat' (with_reducible refine And.intro ?_ ?_))
    all_goals
      refine CallW.o [(9000, 9000)] (s_l11AnyId bs (q + 1 + 1) (h.to (by omega) (by omega)) (by omega)) p_l11AnyId o56 rfl (by (conv => lhs; simp -implicitDefEqProofs only [go_sem]) <;> rfl) (by (simp -implicitDefEqProofs only [go_sem]) <;> rfl) ?_
      rintro _ _ ⟨⟨i, rfl, hi⟩, q2, rfl, q0, q1⟩
      have e : s.groups.map Gr.rowO ++ [[T.str name, T.int .i64 i.t, T.int .i64 i.n, T.list true 5 []]] = (s.groups ++ [(⟨name, i, []⟩ : Gr)]).map Gr.rowO := by rw [List.map_append]; rfl
      have hr : roomy (s.groups.length + 1) 56 := by have := hs.2.1; unfold roomy; omega
      simp -implicitDefEqProofs only [go_sem, e, hr]
      exact ⟨⟨⟨s.last, s.items, s.groups ++ [⟨name, i, []⟩]⟩, .inl rfl, hs.addG name i⟩, q2, rfl, by omega, by omega⟩
  refine BrA_i (fun hc4 => ?_) (fun hc4 => ?_) <;> simp -implicitDefEqProofs only [go_sem, hc4]
  · refine LoopW.slotsM [true, false, true, true, false, false, false, false, false, false, false, false, false, false, false, false, false, false, false, false, false, false, false, false, false, false, false, false, false, false, false, false, false, false, false, false, false, false, false, false, false, false, false, false, false, false, false, false, false, false, false, false, false, false, false, false, false, false, false, false] (α := Stm × Int) (fun x => []) (fun x => [(24, .box [I x.1.last.t, I x.1.last.n, .refw 73, .refw 74]), (73, .rows 3 (x.1.items.map It.rowO)), (74, .rows 4 (x.1.groups.map Gr.rowO)), (9000, .box [by8 bs, I x.2])]) (fun x => 20 - x.1.items.length) (fun x => x.1.dd ∧ p ≤ x.2 ∧ x.2 + 30 * (20 - (x.1.items.length : Int)) ≤ p + 1700) (s, q + 1) (by simp -implicitDefEqProofs only [go_sem, LeTs_undef, LeTs_same, LeTs_nil]; try simp [LeTs]) rfl ⟨hs, by simp only; omega, by simp only; omega⟩ ?_
    rintro ⟨s, q⟩ ⟨g1, g2, g3⟩
    simp only at g1 g2 g3
    have hlen := g1.1
    simp -implicitDefEqProofs only [go_sem]
    refine BrA_i (fun hl => ?_) (fun hl => ?_) <;> simp -implicitDefEqProofs only [go_sem]
    · refine RegD_of sch_28_11 tysOk (by kernel_rfl) ?_
      simp -implicitDefEqProofs only [go_sem]
      (repeat' (with_reducible refine And.intro ?_ ?_))
      all_goals
        refine CallW.o [(9000, 9000)] (s_l11Pairs bs q (h.to (by omega) (by omega)) (by omega)) p_l11Pairs o69 rfl (by (conv => lhs; simp -implicitDefEqProofs only [go_sem]) <;> rfl) (by (simp -implicitDefEqProofs only [go_sem]) <;> rfl) ?_
        rintro _ _ ⟨⟨fs, rfl, hf⟩, q2, rfl, q0, q1⟩
        have hfl := fieldsOkM_len hf
        simp -implicitDefEqProofs only [go_sem]
      (repeat' (with_reducible refine And.intro ?_ ?_))
      all_goals
        refine CallW.one (s_sStreamAdd s 9 fs g1.md g1.hw (by omega)) p_sStreamAdd (by first | (simp -implicitDefEqProofs only [go_sem]; done) | ((conv => lhs; simp -implicitDefEqProofs only [go_sem]); done) | (simp -implicitDefEqProofs only [go_sem]; rfl) | rfl) (deep_addR _) ?_
        simp -implicitDefEqProofs only [go_sem]
        refine BrA_i (fun hk => ?_) (fun hk => ?_) <;> simp -implicitDefEqProofs only [go_sem]
        · have hlen2 := addM_okl hk
          have hl' : s.items.length < 16 := by have := of_decide_eq_true hl; omega
          refine .toR [32, 40, 409, 410, 411, 73, 74] [(417, 73), (418, 74)] ((addM s 9 fs).1, q2) rfl rfl ?_ ?_ (by simp only; omega) ⟨addM_dd _ _ _ (by omega), by simp only; omega, by simp only; omega⟩
          · simp -implicitDefEqProofs only [go_sem, LeTs_undef, LeTs_same, LeTs_nil]
          · simp -implicitDefEqProofs only [go_sem]
        · exact ⟨⟨s, .inl rfl, g1.d2⟩, q2, rfl, by omega, by omega⟩
    · exact ⟨⟨s, .inl rfl, g1.d2⟩, q, rfl, g2, by omega⟩
  · exact ⟨⟨s, .inl rfl, hs.d2⟩, _, rfl, by omega, by omega⟩
end Go.Proofs.Ytaajnbfnaoecnaa.Am
namespace Go.Proofs.Ytaajnbfnaoecnaa.Am
open Go
set_option linter.unusedVariables false
def mkC : AV → AV
  | .t x => .t (x.mk false)
  | x => x
def mkCs : List AV → List AV
  | [] => []
  | x :: l => mkC x :: mkCs l
def mkV : AV → AV
  | .agg cs => .agg (mkCs cs)
  | x => mkC x
def mkVs : List AV → List AV
  | [] => []
  | x :: l => mkV x :: mkVs l
def mkR : AV → AV
  | .tup l => .tup (mkVs l)
  | x => mkV x
theorem ResC.mk {c : Cx} {col : Col} {i j : Nat} {x : AV} {v : Value} (h : ResC c col i j x v) : ResC c col i j (mkC x) v := by
  cases x <;> first | exact Rd.mk false h | exact h
theorem ResCs.mk {c : Cx} {col : Col} {i : Nat} : ∀ {xs : List AV} {vs : List Value} {j : Nat}, ResCs c col i j xs vs → ResCs c col i j (mkCs xs) vs
  | [], [], _, _ => trivial
  | x :: xs, v :: vs, j, h => ⟨ResC.mk h.1, ResCs.mk h.2⟩
  | [], _ :: _, _, h => h.elim
  | _ :: _, [], _, h => h.elim
theorem ResV.mk {c : Cx} {col : Col} {i : Nat} {x : AV} {v : Value} (h : ResV c col i x v) : ResV c col i (mkV x) v := by
  cases x with
  | agg cs => obtain ⟨vs, e, h⟩ := h; exact ⟨vs, e, ResCs.mk h⟩
  | t y => exact ResC.mk (c := c) (col := col) (i := i) (j := 0) (x := .t y) h
  | _ => exact h
theorem ResVs.mk {c : Cx} {col : Col} : ∀ {xs : List AV} {vs : List Value} {i : Nat}, ResVs c col i xs vs → ResVs c col i (mkVs xs) vs
  | [], [], _, _ => trivial
  | x :: xs, v :: vs, i, h => ⟨ResV.mk h.1, ResVs.mk h.2⟩
  | [], _ :: _, _, h => h.elim
  | _ :: _, [], _, h => h.elim
theorem ResR.mk {c : Cx} {col : Col} {r : AV} {v : Value} (h : ResR c col r v) : ResR c col (mkR r) v := by
  cases r with
  | tup xs => obtain ⟨vs, e, h⟩ := h; exact ⟨vs, e, ResVs.mk h⟩
  | agg cs => exact ResV.mk (c := c) (col := col) (i := 0) (x := .agg cs) h
  | t y => exact ResV.mk (c := c) (col := col) (i := 0) (x := .t y) h
  | _ => exact h
theorem Spec.mkR {P : Program} {f : FuncId} {args : List AV} {Q : AV → Prop} (h : Spec P f args Q) : Spec P f args (fun r => ∃ r0, Q r0 ∧ r = Am.mkR r0) := fun w D vs hD hv => (h w D vs hD hv).mono fun e w' ⟨v, r, he, hq, hs, col, hc, hr⟩ =>
  ⟨v, Am.mkR r, he, ⟨r, hq, rfl⟩, hs, col, hc, hr.mk⟩
section
variable {P : Program} {Γ : Env} {f : FuncId} {avs args0 : List AV} {Q : AV → Prop} {d : Option Tmp} {K : St → Prop} {s : St}
theorem CallW.psm (hs : Spec P f args0 Q) (hp : Plain P f) (ha : (argAVs s.hp avs).map (List.map plV) = some args0) (hv : permVs avs = true) (hK : ∀ r, Q r → Sm (bindR s d (mkR (shareR r))) K) : CallW P Γ f avs d K s :=
  CallW.p hs.share.mkR hp ha hv fun r ⟨r0, ⟨r1, hq, e1⟩, e⟩ => by subst e e1; exact hK r1 hq
end
theorem LeS.freeze {s s' : St} {k : Nat} (h : s.freeze k = some s') : LeS s s' := fun B a w ⟨ρ, col, hs⟩ => by
  obtain ⟨sz, rs, hk, hn, hp, rfl⟩ := freeze_some h
  exact ⟨_, _, (hs.freeze hk hn hp).1⟩
theorem LeS.freezes : ∀ {ks : List Nat} {s s' : St}, s.freezes ks = some s' → LeS s s'
  | [], s, s', h => by simp [St.freezes] at h; subst h; exact LeS.refl _
  | k :: ks, s, s', h => by
    simp only [St.freezes, Option.bind_eq_some_iff] at h
    obtain ⟨s1, h1, h2⟩ := h
    exact (LeS.freeze h1).trans (LeS.freezes h2)
theorem LeS.rfz {s s' : St} {k : Nat} (h : s.rfz k = some s') : LeS s s' := fun B a w ⟨ρ, col, hs⟩ => by
  obtain ⟨sz, rs, hk, hn, hp, rfl⟩ := rfz_some h
  exact ⟨_, _, (hs.rfz hk hn hp).1⟩
theorem LoopW.fz {body : (Exit → St → Prop) → St → Prop} {K : Exit → St → Prop} {s s0 : St} (ks : List Nat) (h : s.freezes ks = some s0) (hl : LoopW body K s0) : LoopW body K s := hl.le (LeS.freezes h)
attribute [go_sem] mkC mkCs mkV mkVs mkR
end Go.Proofs.Ytaajnbfnaoecnaa.Am
namespace Go.Proofs.Ytaajnbfnaoecnaa.Am
open Go
set_option maxRecDepth 100000
set_option maxHeartbeats 4000000
set_option linter.unusedSimpArgs false
set_option linter.unusedVariables false
theorem by8_mkN (bs : List Int) : (bs.map fun b => [T.int .u8 b]).map (List.map (T.mk false)) = bs.map fun b => [T.int .u8 b] := Am.mk_rows _ (fun _ => rfl) bs
attribute [go_sem] by8_mkN
theorem p_DrawGroupNew : Plain Try.prog 19 := ⟨_, Try.func19, rfl, by decide⟩
theorem s_DrawGroupNew (bs : List Int) (hb : ∀ x ∈ bs, 0 ≤ x ∧ x ≤ 255) (hl : bs.length ≤ 1048576) : Spec Try.prog 19 [by8 bs] (fun r => ∃ (s : Stm) (name : ByteArray) (fr : Idt), mkR (shareR r) = .tup [s.av, .t (.str name), fr.av] ∧ s.d2) := by
  obtain ⟨cs, hd, ho⟩ := s_l1Open bs hb hl
  refine Spec.of tysOk mixed Try.func19 rfl (by decide) ?_
  simp -implicitDefEqProofs only [go_sem, Try.f19]
  refine CallW.box ho p_l1Open rfl rfl rfl rfl rfl (by decide) ?_
  simp -implicitDefEqProofs only [go_sem]
  refine CallW.o [(9000, 73)] (s_l11AnyStream cs 0 hd (by omega)) p_l11AnyStream o28 rfl (by (conv => lhs; simp -implicitDefEqProofs only [go_sem]) <;> rfl) (by (simp -implicitDefEqProofs only [go_sem]) <;> rfl) ?_
  rintro r _ ⟨⟨s, hr, hs⟩, q, rfl, q0, q1⟩
  have hsl := hs.1
  rcases hr with rfl | rfl
  all_goals
    simp -implicitDefEqProofs only [go_sem]
    first
      | (refine CallW.fz [89, 90] (by (conv => lhs; simp -implicitDefEqProofs only [go_sem]) <;> rfl) ?_; refine CallW.o [(9000, 73)] (s_has cs q s (hd.to (by omega) (by omega)) (by omega) (by omega)) p_has o29 rfl (by (conv => lhs; simp -implicitDefEqProofs only [go_sem]) <;> rfl) (by (simp -implicitDefEqProofs only [go_sem]) <;> rfl) ?_)
      | refine CallW.o [(9000, 73)] (s_has cs q s (hd.to (by omega) (by omega)) (by omega) (by omega)) p_has o29 rfl (by (conv => lhs; simp -implicitDefEqProofs only [go_sem]) <;> rfl) (by (simp -implicitDefEqProofs only [go_sem]) <;> rfl) ?_
    rintro _ _ ⟨⟨fr, rfl, -⟩, q2, rfl, q3, q4⟩
    simp -implicitDefEqProofs only [go_sem]
    refine CallW.o [(9000, 73)] (s_pick cs q2 8 (hd.to (by omega) (by omega)) (by omega)) p_pick o55 rfl (by (conv => lhs; simp -implicitDefEqProofs only [go_sem]) <;> rfl) (by (simp -implicitDefEqProofs only [go_sem]) <;> rfl) ?_
    rintro _ _ ⟨⟨v, rfl, v0, v1⟩, rfl⟩
    simp -implicitDefEqProofs only [go_sem]
    refine BrA_i (fun h2 => ?_) (fun h2 => ?_) <;> simp -implicitDefEqProofs only [go_sem]
    · refine CallW.o [(9000, 73)] (s_l11AnyId cs (q2 + 1) (hd.to (by omega) (by omega)) (by omega)) p_l11AnyId o56 rfl (by (conv => lhs; simp -implicitDefEqProofs only [go_sem]) <;> rfl) (by (simp -implicitDefEqProofs only [go_sem]) <;> rfl) ?_
      rintro _ _ ⟨⟨fr2, rfl, -⟩, q5, rfl, q6, q7⟩
      simp -implicitDefEqProofs only [go_sem]
      refine RegD_of sch_19_6 tysOk (by kernel_rfl) ?_
      simp -implicitDefEqProofs only [go_sem]
      (repeat' (with_reducible refine And.intro ?_ ?_))
      all_goals
        refine CallW.o [(9000, 73), (9001, 176)] (s_of cs q5 [⟨#[103]⟩, ⟨#[105]⟩, ⟨#[110, 101, 119]⟩, ⟨#[]⟩, ⟨#[109, 117, 99, 104, 116, 111, 111, 108, 111, 110, 103, 110, 97, 109, 101]⟩] (hd.to (by omega) (by omega)) (by simp)) p_of o57 rfl (by (conv => lhs; simp -implicitDefEqProofs only [go_sem]) <;> rfl) (by (simp -implicitDefEqProofs only [go_sem]) <;> rfl) ?_
        rintro _ _ ⟨⟨name, rfl, -⟩, rfl⟩
        simp -implicitDefEqProofs only [go_sem]
      all_goals exact ⟨s, name, fr2, by simp -implicitDefEqProofs only [go_sem], hs⟩
    · refine RegD_of sch_19_6 tysOk (by kernel_rfl) ?_
      simp -implicitDefEqProofs only [go_sem]
      (repeat' (with_reducible refine And.intro ?_ ?_))
      all_goals
        refine CallW.o [(9000, 73), (9001, 176)] (s_of cs (q2 + 1) [⟨#[103]⟩, ⟨#[105]⟩, ⟨#[110, 101, 119]⟩, ⟨#[]⟩, ⟨#[109, 117, 99, 104, 116, 111, 111, 108, 111, 110, 103, 110, 97, 109, 101]⟩] (hd.to (by omega) (by omega)) (by simp)) p_of o57 rfl (by (conv => lhs; simp -implicitDefEqProofs only [go_sem]) <;> rfl) (by (simp -implicitDefEqProofs only [go_sem]) <;> rfl) ?_
        rintro _ _ ⟨⟨name, rfl, -⟩, rfl⟩
        simp -implicitDefEqProofs only [go_sem]
      all_goals exact ⟨s, name, fr, by simp -implicitDefEqProofs only [go_sem], hs⟩
end Go.Proofs.Ytaajnbfnaoecnaa.Am
