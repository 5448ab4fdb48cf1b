/- Texts of this claim, packed: walks and laws that its row stands on. Each states its own conditions. -/
import Derived.ChangeArms
import Derived.ChangeSlices
import Derived.DataElems
import Derived.IntWalk
import Derived.Laws.BitsLemmas
import Derived.OpenShut
import Derived.SizedLaws
import Derived.Test.YtofiljboaegekaaBFnExactStreamOk0
import Derived.Test.YtofiljboaegekaaBFnExactStreamOk1
import Derived.Test.YtofiljboaegekaaBFnExactStreamOk2
import Derived.Test.YtofiljboaegekaaBFnExactStreamOk3
namespace Go.Proofs.Ytofiljboaegekaa.PFnExactStreamOk
open Go.RowKit Go.Proofs.YtofiljboaegekaaW.PrintWords Go.Proofs.YtofiljboaegekaaW.PrintLast Go.Proofs.YtofiljboaegekaaW.PrintMore Go.Proofs.Ytofiljboaegekaa.Reg
attribute [local go_sem] max2_int min2_int max_two min_two max_three min_three max_four min_four
set_option linter.unusedVariables false
set_option linter.unusedSimpArgs false
def laws_eqPairS.l0 : Nat → List (S136) → List (S136) → Int → Option (Bool)
 | 0, _, _, _ => none
 | k + 1, x0, x1, x5 => if x5 < (x0.length : Int) then (if 0 ≤ x5 then (if x5 < (x1.length : Int) then ((laws_eqPair.f ((rd_T136 x0 x5).f0) ((rd_T136 x0 x5).f1) ((rd_T136 x1 x5).f0) ((rd_T136 x1 x5).f1)).bind fun t289 => (if t289 = true then (laws_eqPairS.l0 k x0 x1 (wrap64 (x5 + 1))) else (some false))) else (none)) else (none)) else (some true)
def laws_eqPairS.f (k : Nat) (l0 : List (S136)) (l1 : List (S136)) : Option (Bool) := if (l0.length : Int) = (l1.length : Int) then (laws_eqPairS.l0 k l0 l1 0) else (some false)
def laws_eqPairS.T6 : Bool × List (List Nat × List Nat) := (true, [([], []), ([], []), ([0, 1], [0, 1]), ([2], [2]), ([], []), ([], []), ([4, 5], [4, 5]), ([6], [6]), ([3, 7], [3, 7]), ([8], [8])])
def laws_eqPairS.B6 : List Nat := [0, 0, 3, 7, 0, 0, 48, 112, 255, 511]
theorem laws_eqPairS.tab6 : rtab .any (opsOf Try.f147 6) = laws_eqPairS.T6 := by kernel_rfl
theorem laws_eqPairS.bits6 : waitsOk laws_eqPairS.T6.2 laws_eqPairS.B6 = true := by kernel_rfl
set_option maxHeartbeats 8000000 in
set_option maxRecDepth 100000 in
theorem laws_eqPairS.calls (k : Nat) (A0 : Option Addr) (c0 : Nat) (l0 : List (S136)) (A1 : Option Addr) (c1 : Nat) (l1 : List (S136)) (r : Bool) (w : World) (hr0 : Kd.C k136 w A0 l0.length l0) (hc0 : l0.length ≤ c0) (hr1 : Kd.C k136 w A1 l1.length l1) (hc1 : l1.length ≤ c1) (h : laws_eqPairS.f k l0 l1 = some r) :
  Calls Try.prog 147 #[.slice A0 l0.length c0, .slice A1 l1.length c1] w fun e w' => e = .returned (.bool r) ∧ Below w.heap.size w w' := by
 have hu136 := Try.underlying136
 have HR0 := Aside0.mk hr0
 have HC0 := Aside0.mk hc0
 clear hr0 hc0
 have HR1 := Aside0.mk hr1
 have HC1 := Aside0.mk hc1
 clear hr1 hc1
 have HB := Aside0.mk (Below.refl w.heap.size w)
 have H : (if (l0.length : Int) = (l1.length : Int) then (laws_eqPairS.l0 k l0 l1 0) else (some false)) = some r := h
 clear h
 by_cases c3 : (l0.length : Int) = (l1.length : Int)
 ·rw [if_pos c3] at H
  have c3b0 : ((l0.length : Int) == (l1.length : Int)) = true := beq_iff_eq.mpr c3
  have c3b1 : ((l0.length : Int) != (l1.length : Int)) = false := bne_eq_false_iff_eq.mpr c3
  have c3b2 : (l0.length == l1.length) = true := by first | simpa using c3 | (simp at c3 ⊢; omega)
  clear c3
  have H' := Aside0.mk H
  clear H
  go_enter Try.func147, Try.ntmps147
  go_wp2
  go_loopg [5] k (fun kq v5 w' => ∃ (x5_1 : Int), v5 = .int .i64 x5_1 ∧ Aside0 (laws_eqPairS.l0 kq l0 l1 x5_1 = some r) ∧ Aside0 (kq ≤ k) ∧ Aside0 (Below w.heap.size w w'))
  case atStart => exact ⟨(0), (by first | rfl | (simp; done) | (simp [*]; done)), H', ⟨Nat.le_refl _⟩, ⟨by repeat (first | (with_reducible first | exact HB.out | apply below_alloc | apply pw_below_drewN | apply below_drew1) | exact HB.out)⟩⟩
  case round =>
   clear H'
   try clear c1
   try clear p2
   try clear c3
   try clear c3b0
   try clear c3b1
   try clear c3b2
   obtain ⟨x5_1, rfl, HA, HK1, HB⟩ := hrel
   cases gk with
   | zero => exact absurd HA.out (by simp [laws_eqPairS.l0])
   | succ k1 =>
    have H := HA.out
    clear HA
    simp only [laws_eqPairS.l0] at H
    by_cases c4 : x5_1 < (l0.length : Int)
    ·rw [if_pos c4] at H
     have c4b0 : decide (x5_1 < (l0.length : Int)) = true := decide_eq_true c4
     clear c4
     by_cases c5 : 0 ≤ x5_1
     ·rw [if_pos c5] at H
      have c5b0 : decide (0 ≤ x5_1) = true := decide_eq_true c5
      clear c5
      by_cases c6 : x5_1 < (l1.length : Int)
      ·rw [if_pos c6] at H
       have c6b0 : decide (x5_1 < (l1.length : Int)) = true := decide_eq_true c6
       clear c6
       replace H := Option.bind_eq_some_iff.mp H
       obtain ⟨t289, A70, H⟩ := H
       replace H : (if t289 = true then (laws_eqPairS.l0 k1 l0 l1 (wrap64 (x5_1 + 1))) else (some false)) = some r := H
       have A7 := Aside0.mk A70
       clear A70
       have HC8 := Aside0.mk H
       clear H
       try go_wp2
       replace HB := Aside0.mk (below_drew1 HB.out)
       have p287 := od (0 ≤ (x5_1 : Int))
       have q287 := od (x5_1 < (l0.length : Int))
       obtain ⟨ad287, e287, hx287_0, hx287_1⟩ := at_T136 HR0.out x5_1 p287 q287
       have hw287_1 := hx287_1
       have hw287_0 := hx287_0
       cases e287
       replace hx287_0 := (HB.out.cell (World.block_lt_of_cell? w _ hx287_0)).trans hx287_0
       replace hx287_1 := (HB.out.cell (World.block_lt_of_cell? w _ hx287_1)).trans hx287_1
       replace p287 := eq_true p287
       replace q287 := eq_true q287
       have p288 := od (0 ≤ (x5_1 : Int))
       have q288 := od (x5_1 < (l1.length : Int))
       obtain ⟨ad288, e288, hx288_0, hx288_1⟩ := at_T136 HR1.out x5_1 p288 q288
       have hw288_1 := hx288_1
       have hw288_0 := hx288_0
       cases e288
       replace hx288_0 := (HB.out.cell (World.block_lt_of_cell? w _ hx288_0)).trans hx288_0
       replace hx288_1 := (HB.out.cell (World.block_lt_of_cell? w _ hx288_1)).trans hx288_1
       replace p288 := eq_true p288
       replace q288 := eq_true q288
       refine start_ (n := 10) (S := fun w' => w'.cell? (ad287.add ((x5_1).toNat * 2)) = some (.string ((rd_T136 l0 x5_1).f0)) ∧ w'.cell? ⟨(ad287.add ((x5_1).toNat * 2)).block, (ad287.add ((x5_1).toNat * 2)).off + 1, none⟩ = some (.string ((rd_T136 l0 x5_1).f1)) ∧ w'.cell? (ad288.add ((x5_1).toNat * 2)) = some (.string ((rd_T136 l1 x5_1).f0)) ∧ w'.cell? ⟨(ad288.add ((x5_1).toNat * 2)).block, (ad288.add ((x5_1).toNat * 2)).off + 1, none⟩ = some (.string ((rd_T136 l1 x5_1).f1))) (ds := []) _ (by kernel_rfl) rfl rfl ⟨((HB.out.cell (World.block_lt_of_cell? w _ hw287_0)).trans hw287_0), ((HB.out.cell (World.block_lt_of_cell? w _ hw287_1)).trans hw287_1), ((HB.out.cell (World.block_lt_of_cell? w _ hw288_0)).trans hw288_0), ((HB.out.cell (World.block_lt_of_cell? w _ hw288_1)).trans hw288_1)⟩ (fun hHeld => ?_); refine with_tabW laws_eqPairS.tab6 laws_eqPairS.bits6 (fun HT_ HW_ => ?_)
       generalize wr.drew = w9 at HB hx287_0 hx287_1 hx288_0 hx288_1 hHeld ⊢
       refine pu 0 17 ?_; refine pu 1 18 ?_; refine pu 2 19 ?_; refine pu 4 21 ?_; refine pu 5 22 ?_; refine pu 6 23 ?_; refine tk 3 20 ?_; refine tk 7 24 ?_
       refine on 8 (some 25) (fun K hK => ?_)
       refine ca Try.func173 (laws_eqPair.calls ((rd_T136 l0 x5_1).f0) ((rd_T136 l0 x5_1).f1) ((rd_T136 l1 x5_1).f0) ((rd_T136 l1 x5_1).f1) t289 _ A7.out) ?_
       rintro e w10 ⟨rfl, hb⟩
       refine ⟨_, rfl, ?_⟩
       replace HB := Aside0.mk (below_step (by repeat (first | (with_reducible first | exact HB.out | apply below_alloc | apply pw_below_drewN | apply below_drew1) | exact HB.out)) hb)
       (try clear hb)
       (try clear hb2)
       (try clear hk)
       (try clear hi)
       refine hK.out _ _ ⟨((HB.out.cell (World.block_lt_of_cell? w _ hw287_0)).trans hw287_0), ((HB.out.cell (World.block_lt_of_cell? w _ hw287_1)).trans hw287_1), ((HB.out.cell (World.block_lt_of_cell? w _ hw288_0)).trans hw288_0), ((HB.out.cell (World.block_lt_of_cell? w _ hw288_1)).trans hw288_1)⟩ (fun hHeld => ?_)
       clear hK K
       refine nm ?_; refine pu 9 26 ?_
       refine dn ?_
       go_upto_if 26 with (fail)
       have H := HC8.out
       clear HC8
       by_cases c11 : t289 = true
       ·subst c11
        have H1 : (laws_eqPairS.l0 k1 l0 l1 (wrap64 (x5_1 + 1))) = some r := by rw [if_pos rfl] at H; exact H
        clear H
        have H := H1
        clear H1
        have H' := Aside0.mk H
        clear H
        go_wp2
        go_roundg k1
        case measure => have := HK1.out; omega
        case rel => exact ⟨(wrap64 (x5_1 + 1)), (by first | rfl | (simp; done) | (simp [*]; done)), H', ⟨by have := HK1.out; omega⟩, ⟨by repeat (first | (with_reducible first | exact HB.out | apply below_alloc | apply pw_below_drewN | apply below_drew1) | exact HB.out)⟩⟩
       ·replace c11 := Bool.eq_false_iff.mpr c11
        subst c11
        have H1 : (some false) = some r := by rw [if_neg (show ¬ (false = true) by decide)] at H; exact H
        clear H
        have H := H1
        clear H1
        obtain rfl := Option.some.inj H
        go_wp2
        go_ret
        exact ⟨by first | rfl | (simp [errW_none, errW_some] <;> rfl) | (simp [*, errW_none, errW_some] <;> rfl), by repeat (first | (with_reducible first | exact HB.out | apply below_alloc | apply pw_below_drewN | apply below_drew1) | exact HB.out)⟩
      ·rw [if_neg c6] at H
       exact absurd H (by simp)
     ·rw [if_neg c5] at H
      exact absurd H (by simp)
    ·rw [if_neg c4] at H
     have c4b0 : decide (x5_1 < (l0.length : Int)) = false := decide_eq_false c4
     clear c4
     obtain rfl := Option.some.inj H
     go_wp2
     go_ret
     exact ⟨by first | rfl | (simp [errW_none, errW_some] <;> rfl) | (simp [*, errW_none, errW_some] <;> rfl), by repeat (first | (with_reducible first | exact HB.out | apply below_alloc | apply pw_below_drewN | apply below_drew1) | exact HB.out)⟩
 ·rw [if_neg c3] at H
  have c3b0 : ((l0.length : Int) == (l1.length : Int)) = false := beq_eq_false_iff_ne.mpr c3
  have c3b1 : ((l0.length : Int) != (l1.length : Int)) = true := bne_iff_ne.mpr c3
  have c3b2 : (l0.length == l1.length) = false := by first | simpa using c3 | (simp at c3 ⊢; omega)
  obtain rfl := Option.some.inj H
  go_enter Try.func147, Try.ntmps147
  go_wp2
  go_ret
  exact ⟨by first | rfl | (simp [errW_none, errW_some] <;> rfl) | (simp [*, errW_none, errW_some] <;> rfl), by repeat (first | (with_reducible first | exact HB.out | apply below_alloc | apply pw_below_drewN | apply below_drew1) | exact HB.out)⟩
end Go.Proofs.Ytofiljboaegekaa.PFnExactStreamOk
namespace Go.Proofs.Ytofiljboaegekaa.PFnExactStreamOk
open Go.RowKit Go.Proofs.YtofiljboaegekaaW.PrintWords Go.Proofs.YtofiljboaegekaaW.PrintLast Go.Proofs.YtofiljboaegekaaW.PrintMore Go.Proofs.Ytofiljboaegekaa.Reg
attribute [local go_sem] max2_int min2_int max_two min_two max_three min_three max_four min_four
set_option linter.unusedVariables false
set_option linter.unusedSimpArgs false
def laws_eqItem.f (k : Nat) (a0_0 : Int) (a0_1 : Int) (l0_2 : List (S136)) (a1_0 : Int) (a1_1 : Int) (l1_2 : List (S136)) : Option (Bool) := (laws_eqId.f a0_0 a0_1 a1_0 a1_1).bind fun t292 => (if t292 = true then ((laws_eqPairS.f k l0_2 l1_2).bind fun t293 => (if t293 = true then (some true) else (some false))) else (some false))
set_option maxHeartbeats 8000000 in
set_option maxRecDepth 100000 in
theorem laws_eqItem.calls (k : Nat) (a0_0 : Int) (a0_1 : Int) (A0_2 : Option Addr) (c0_2 : Nat) (l0_2 : List (S136)) (a1_0 : Int) (a1_1 : Int) (A1_2 : Option Addr) (c1_2 : Nat) (l1_2 : List (S136)) (r : Bool) (w : World) (hr0_2 : Kd.C k136 w A0_2 l0_2.length l0_2) (hc0_2 : l0_2.length ≤ c0_2) (hr1_2 : Kd.C k136 w A1_2 l1_2.length l1_2) (hc1_2 : l1_2.length ≤ c1_2) (h : laws_eqItem.f k a0_0 a0_1 l0_2 a1_0 a1_1 l1_2 = some r) :
  Calls Try.prog 106 #[.agg #[.int .i64 a0_0, .int .i64 a0_1, .slice A0_2 l0_2.length c0_2], .agg #[.int .i64 a1_0, .int .i64 a1_1, .slice A1_2 l1_2.length c1_2]] w fun e w' => e = .returned (.bool r) ∧ Below w.heap.size w w' := by
 have hu66 := Try.underlying66
 have hu30 := Try.underlying30
 have HR0_2 := Aside0.mk hr0_2
 have HC0_2 := Aside0.mk hc0_2
 clear hr0_2 hc0_2
 have HR1_2 := Aside0.mk hr1_2
 have HC1_2 := Aside0.mk hc1_2
 clear hr1_2 hc1_2
 have HB := Aside0.mk (Below.refl w.heap.size w)
 have H : ((laws_eqId.f a0_0 a0_1 a1_0 a1_1).bind fun t292 => (if t292 = true then ((laws_eqPairS.f k l0_2 l1_2).bind fun t293 => (if t293 = true then (some true) else (some false))) else (some false))) = some r := h
 clear h
 replace H := Option.bind_eq_some_iff.mp H
 obtain ⟨t292, A30, H⟩ := H
 replace H : (if t292 = true then ((laws_eqPairS.f k l0_2 l1_2).bind fun t293 => (if t293 = true then (some true) else (some false))) else (some false)) = some r := H
 have A3 := Aside0.mk A30
 clear A30
 have HC4 := Aside0.mk H
 clear H
 go_enter Try.func106, Try.ntmps106
 go_upto_if 10 with (first | ((with_reducible refine gate_dst (N := 2) rfl ?_); refine box_event ?hg (N := 2) ?hd (cs := #[.int .i64 a0_0, .int .i64 a0_1, .slice A0_2 l0_2.length c0_2]) (t := 66) ?hr ?_; (case hd => rfl); (case hg => rfl); (case hr => first | (go_simp; done) | (go_simp; rfl)); intro gb290 hg w5 hbox hb; have n0_ := Aside0.mk (below_step (by repeat (first | (with_reducible first | exact HB.out | apply below_alloc | apply pw_below_drewN | apply below_drew1) | exact HB.out)) hb); have n1_ := Aside0.mk (hbox); have n2_ := Aside0.mk ((by rw [hg]; exact (below_size (by repeat (first | (with_reducible first | exact HB.out | apply below_alloc | apply pw_below_drewN | apply below_drew1) | exact HB.out))) : w.heap.size ≤ gb290)); have n3_ := Aside0.mk ((by rw [hg]; exact (below_size (by repeat (first | (with_reducible first | exact HB.out | apply below_alloc | apply pw_below_drewN | apply below_drew1) | exact HB.out))) : w.heap.size ≤ gb290)); clear HB; have HB := n0_; have BK290 := n1_; have GW290 := n2_; have GE290 := n3_; clear n0_ n1_ n2_ n3_; clear hb hbox hg) | ((with_reducible refine gate_dst (N := 3) rfl ?_); refine box_event ?hg (N := 3) ?hd (cs := #[.int .i64 a1_0, .int .i64 a1_1, .slice A1_2 l1_2.length c1_2]) (t := 66) ?hr ?_; (case hd => rfl); (case hg => rfl); (case hr => first | (go_simp; done) | (go_simp; rfl)); intro gb291 hg w6 hbox hb; have n0_ := Aside0.mk (blk_below (g := gb290) (o := .cells #[.int .i64 a0_0, .int .i64 a0_1, .slice A0_2 l0_2.length c0_2] 66 (0, 0)) (by (with_reducible repeat (first | refine blk_drewN ?_ _ | refine blk_drew ?_ | refine blk_alloc ?_ _)); exact BK290.out) hb); have n1_ := Aside0.mk (below_step (by repeat (first | (with_reducible first | exact HB.out | apply below_alloc | apply pw_below_drewN | apply below_drew1 | refine below_set ?_ GE290.out) | exact HB.out)) hb); have n2_ := Aside0.mk (hbox); have n3_ := Aside0.mk ((by rw [hg]; exact (below_size (by repeat (first | (with_reducible first | exact HB.out | apply below_alloc | apply pw_below_drewN | apply below_drew1 | refine below_set ?_ GE290.out) | exact HB.out))) : w.heap.size ≤ gb291)); have n4_ := Aside0.mk ((by rw [hg]; exact (below_size (by repeat (first | (with_reducible first | exact HB.out | apply below_alloc | apply pw_below_drewN | apply below_drew1 | refine below_set ?_ GE290.out) | exact HB.out))) : w.heap.size ≤ gb291)); have n5_ := Aside0.mk ((by rw [hg]; exact Nat.ne_of_lt (blk_lt (g := gb290) (o := .cells #[.int .i64 a0_0, .int .i64 a0_1, .slice A0_2 l0_2.length c0_2] 66 (0, 0)) (by (with_reducible repeat (first | refine blk_drewN ?_ _ | refine blk_drew ?_ | refine blk_alloc ?_ _)); exact BK290.out)) : gb290 ≠ gb291)); have n6_ := Aside0.mk ((by rw [hg]; exact Nat.ne_of_gt (blk_lt (g := gb290) (o := .cells #[.int .i64 a0_0, .int .i64 a0_1, .slice A0_2 l0_2.length c0_2] 66 (0, 0)) (by (with_reducible repeat (first | refine blk_drewN ?_ _ | refine blk_drew ?_ | refine blk_alloc ?_ _)); exact BK290.out)) : gb291 ≠ gb290)); clear BK290; clear HB; have BK290 := n0_; have HB := n1_; have BK291 := n2_; have GW291 := n3_; have GE291 := n4_; have NB290_291 := n5_; have NB291_290 := n6_; clear n0_ n1_ n2_ n3_ n4_ n5_ n6_; clear hb hbox hg; have hnb7 := NB290_291.out; have hnc7 := NB291_290.out; have hcz8_0 : w6.cell? ⟨gb290, 0, none⟩ = some (.int .i64 a0_0) := (blk_cell BK290.out 0).trans rfl; have hcz8_1 : w6.cell? ⟨gb290, 1, none⟩ = some (.int .i64 a0_1) := (blk_cell BK290.out 1).trans rfl; have hcz8_2 : w6.cell? ⟨gb290, 2, none⟩ = some (.slice A0_2 l0_2.length c0_2) := (blk_cell BK290.out 2).trans rfl; have hfz8_0 := blk_frozen BK290.out 0; have hfz8_1 := blk_frozen BK290.out 1; have hfz8_2 := blk_frozen BK290.out 2; have hcz9_0 : w6.cell? ⟨gb291, 0, none⟩ = some (.int .i64 a1_0) := (blk_cell BK291.out 0).trans rfl; have hcz9_1 : w6.cell? ⟨gb291, 1, none⟩ = some (.int .i64 a1_1) := (blk_cell BK291.out 1).trans rfl; have hcz9_2 : w6.cell? ⟨gb291, 2, none⟩ = some (.slice A1_2 l1_2.length c1_2) := (blk_cell BK291.out 2).trans rfl; have hfz9_0 := blk_frozen BK291.out 0; have hfz9_1 := blk_frozen BK291.out 1; have hfz9_2 := blk_frozen BK291.out 2) | ((with_reducible refine gate_callee (f := 78) rfl ?_); refine goesL_ (some 9) rfl rfl Try.func78 (by kernel_rfl) rfl #[.agg #[.int .i64 a0_0, .int .i64 a0_1], .agg #[.int .i64 a1_0, .int .i64 a1_1]] rfl (by (try simp only [List.map_toArray, List.map_cons, List.map_nil]); first | done | rfl | (simp only [List.length_drop, List.length_take]; rfl)) ?_; (with_reducible refine (laws_eqId.calls a0_0 a0_1 a1_0 a1_1 t292 _ A3.out).mono ?_); rintro e w10 ⟨rfl, hb⟩; refine ⟨_, rfl, ?_⟩; have n0_ := Aside0.mk (blk_below (g := gb290) (o := .cells #[.int .i64 a0_0, .int .i64 a0_1, .slice A0_2 l0_2.length c0_2] 66 (0, 0)) (by (with_reducible repeat (first | refine blk_drewN ?_ _ | refine blk_drew ?_ | refine blk_alloc ?_ _)); exact BK290.out) hb); have n1_ := Aside0.mk (blk_below (g := gb291) (o := .cells #[.int .i64 a1_0, .int .i64 a1_1, .slice A1_2 l1_2.length c1_2] 66 (0, 0)) (by (with_reducible repeat (first | refine blk_drewN ?_ _ | refine blk_drew ?_ | refine blk_alloc ?_ _)); exact BK291.out) hb); have n2_ := Aside0.mk (below_step (by repeat (first | (with_reducible first | exact HB.out | apply below_alloc | apply pw_below_drewN | apply below_drew1 | refine below_set ?_ GE290.out | refine below_set ?_ GE291.out) | exact HB.out)) hb); clear BK290; clear BK291; clear HB; have BK290 := n0_; have BK291 := n1_; have HB := n2_; clear n0_ n1_ n2_; (try clear hb); (try clear hb2); (try clear hk); (try clear hi)))
 have H := HC4.out
 clear HC4
 by_cases c11 : t292 = true
 ·subst c11
  have H1 : ((laws_eqPairS.f k l0_2 l1_2).bind fun t293 => (if t293 = true then (some true) else (some false))) = some r := by rw [if_pos rfl] at H; exact H
  clear H
  have H := H1
  clear H1
  replace H := Option.bind_eq_some_iff.mp H
  obtain ⟨t293, A120, H⟩ := H
  replace H : (if t293 = true then (some true) else (some false)) = some r := H
  have A12 := Aside0.mk A120
  clear A120
  have HC13 := Aside0.mk H
  clear H
  have hnb14 := NB290_291.out
  have hnc14 := NB291_290.out
  have hcz15_0 : w10.cell? ⟨gb290, 0, none⟩ = some (.int .i64 a0_0) := (blk_cell BK290.out 0).trans rfl
  have hcz15_1 : w10.cell? ⟨gb290, 1, none⟩ = some (.int .i64 a0_1) := (blk_cell BK290.out 1).trans rfl
  have hcz15_2 : w10.cell? ⟨gb290, 2, none⟩ = some (.slice A0_2 l0_2.length c0_2) := (blk_cell BK290.out 2).trans rfl
  have hfz15_0 := blk_frozen BK290.out 0
  have hfz15_1 := blk_frozen BK290.out 1
  have hfz15_2 := blk_frozen BK290.out 2
  have hcz16_0 : w10.cell? ⟨gb291, 0, none⟩ = some (.int .i64 a1_0) := (blk_cell BK291.out 0).trans rfl
  have hcz16_1 : w10.cell? ⟨gb291, 1, none⟩ = some (.int .i64 a1_1) := (blk_cell BK291.out 1).trans rfl
  have hcz16_2 : w10.cell? ⟨gb291, 2, none⟩ = some (.slice A1_2 l1_2.length c1_2) := (blk_cell BK291.out 2).trans rfl
  have hfz16_0 := blk_frozen BK291.out 0
  have hfz16_1 := blk_frozen BK291.out 1
  have hfz16_2 := blk_frozen BK291.out 2
  go_upto_if 16 with (first | ((with_reducible refine gate_callee (f := 147) rfl ?_); refine goesL_ (some 15) rfl rfl Try.func147 (by kernel_rfl) rfl #[.slice A0_2 l0_2.length c0_2, .slice A1_2 l1_2.length c1_2] rfl (by (try simp only [List.map_toArray, List.map_cons, List.map_nil]); first | done | rfl | (simp only [List.length_drop, List.length_take]; rfl)) ?_; (with_reducible refine (laws_eqPairS.calls k _ _ l0_2 _ _ l1_2 t293 _ ?side1 ?side2 ?side3 ?side4 A12.out).mono ?_); (case side1 => repeat (first | exact (Kd.C_below HR0_2.out HB.out) | (with_reducible refine Kd.C_alloc ?_ _) | (with_reducible refine Kd.C_drewN ?_ _) | (with_reducible refine Kd.C_drew ?_))); (case side2 => exact HC0_2.out); (case side3 => repeat (first | exact (Kd.C_below HR1_2.out HB.out) | (with_reducible refine Kd.C_alloc ?_ _) | (with_reducible refine Kd.C_drewN ?_ _) | (with_reducible refine Kd.C_drew ?_))); (case side4 => exact HC1_2.out); rintro e w17 ⟨rfl, hb⟩; refine ⟨_, rfl, ?_⟩; have n0_ := Aside0.mk (blk_below (g := gb290) (o := .cells #[.int .i64 a0_0, .int .i64 a0_1, .slice A0_2 l0_2.length c0_2] 66 (0, 0)) (by (with_reducible repeat (first | refine blk_drewN ?_ _ | refine blk_drew ?_ | refine blk_alloc ?_ _)); exact BK290.out) hb); have n1_ := Aside0.mk (blk_below (g := gb291) (o := .cells #[.int .i64 a1_0, .int .i64 a1_1, .slice A1_2 l1_2.length c1_2] 66 (0, 0)) (by (with_reducible repeat (first | refine blk_drewN ?_ _ | refine blk_drew ?_ | refine blk_alloc ?_ _)); exact BK291.out) hb); have n2_ := Aside0.mk (below_step (by repeat (first | (with_reducible first | exact HB.out | apply below_alloc | apply pw_below_drewN | apply below_drew1 | refine below_set ?_ GE290.out | refine below_set ?_ GE291.out) | exact HB.out)) hb); clear BK290; clear BK291; clear HB; have BK290 := n0_; have BK291 := n1_; have HB := n2_; clear n0_ n1_ n2_; (try clear hb); (try clear hb2); (try clear hk); (try clear hi)))
  have H := HC13.out
  clear HC13
  by_cases c18 : t293 = true
  ·subst c18
   have H1 : (some true) = some r := by rw [if_pos rfl] at H; exact H
   clear H
   have H := H1
   clear H1
   obtain rfl := Option.some.inj H
   go_wp2
   go_ret
   exact ⟨by first | rfl | (simp [errW_none, errW_some] <;> rfl) | (simp [*, errW_none, errW_some] <;> rfl), by repeat (first | (with_reducible first | exact HB.out | apply below_alloc | apply pw_below_drewN | apply below_drew1 | refine below_set ?_ GE290.out | refine below_set ?_ GE291.out) | exact HB.out)⟩
  ·replace c18 := Bool.eq_false_iff.mpr c18
   subst c18
   have H1 : (some false) = some r := by rw [if_neg (show ¬ (false = true) by decide)] at H; exact H
   clear H
   have H := H1
   clear H1
   obtain rfl := Option.some.inj H
   go_wp2
   go_ret
   exact ⟨by first | rfl | (simp [errW_none, errW_some] <;> rfl) | (simp [*, errW_none, errW_some] <;> rfl), by repeat (first | (with_reducible first | exact HB.out | apply below_alloc | apply pw_below_drewN | apply below_drew1 | refine below_set ?_ GE290.out | refine below_set ?_ GE291.out) | exact HB.out)⟩
 ·replace c11 := Bool.eq_false_iff.mpr c11
  subst c11
  have H1 : (some false) = some r := by rw [if_neg (show ¬ (false = true) by decide)] at H; exact H
  clear H
  have H := H1
  clear H1
  obtain rfl := Option.some.inj H
  go_wp2
  go_ret
  exact ⟨by first | rfl | (simp [errW_none, errW_some] <;> rfl) | (simp [*, errW_none, errW_some] <;> rfl), by repeat (first | (with_reducible first | exact HB.out | apply below_alloc | apply pw_below_drewN | apply below_drew1 | refine below_set ?_ GE290.out | refine below_set ?_ GE291.out) | exact HB.out)⟩
end Go.Proofs.Ytofiljboaegekaa.PFnExactStreamOk
namespace Go.Proofs.Ytofiljboaegekaa.PFnExactStreamOk
open Go.RowKit Go.Proofs.YtofiljboaegekaaW.PrintWords Go.Proofs.YtofiljboaegekaaW.PrintLast Go.Proofs.YtofiljboaegekaaW.PrintMore Go.Proofs.Ytofiljboaegekaa.Reg
attribute [local go_sem] max2_int min2_int max_two min_two max_three min_three max_four min_four
set_option linter.unusedVariables false
set_option linter.unusedSimpArgs false
def laws_eqItemS.l0 : Nat → List (S66) → List (S66) → Int → Option (Bool)
 | 0, _, _, _ => none
 | k + 1, x0, x1, x5 => if x5 < (x0.length : Int) then (if 0 ≤ x5 then (if x5 < (x1.length : Int) then ((laws_eqItem.f k ((rd_T66 x0 x5).f0.f0) ((rd_T66 x0 x5).f0.f1) ((rd_T66 x0 x5).f1) ((rd_T66 x1 x5).f0.f0) ((rd_T66 x1 x5).f0.f1) ((rd_T66 x1 x5).f1)).bind fun t296 => (if t296 = true then (laws_eqItemS.l0 k x0 x1 (wrap64 (x5 + 1))) else (some false))) else (none)) else (none)) else (some true)
def laws_eqItemS.f (k : Nat) (l0 : List (S66)) (l1 : List (S66)) : Option (Bool) := if (l0.length : Int) = (l1.length : Int) then (laws_eqItemS.l0 k l0 l1 0) else (some false)
def laws_eqItemS.T6 : Bool × List (List Nat × List Nat) := (true, [([], []), ([], []), ([0, 1], [0, 1]), ([2], [2]), ([], []), ([], []), ([4, 5], [4, 5]), ([6], [6]), ([3, 7], [3, 7]), ([8], [8])])
def laws_eqItemS.B6 : List Nat := [0, 0, 3, 7, 0, 0, 48, 112, 255, 511]
theorem laws_eqItemS.tab6 : rtab .any (opsOf Try.f46 6) = laws_eqItemS.T6 := by kernel_rfl
theorem laws_eqItemS.bits6 : waitsOk laws_eqItemS.T6.2 laws_eqItemS.B6 = true := by kernel_rfl
set_option maxHeartbeats 8000000 in
set_option maxRecDepth 100000 in
theorem laws_eqItemS.calls (k : Nat) (A0 : Option Addr) (c0 : Nat) (l0 : List (S66)) (A1 : Option Addr) (c1 : Nat) (l1 : List (S66)) (r : Bool) (w : World) (hr0 : Kd.C k66 w A0 l0.length l0) (hc0 : l0.length ≤ c0) (hr1 : Kd.C k66 w A1 l1.length l1) (hc1 : l1.length ≤ c1) (h : laws_eqItemS.f k l0 l1 = some r) :
  Calls Try.prog 46 #[.slice A0 l0.length c0, .slice A1 l1.length c1] w fun e w' => e = .returned (.bool r) ∧ Below w.heap.size w w' := by
 have hu66 := Try.underlying66
 have HR0 := Aside0.mk hr0
 have HC0 := Aside0.mk hc0
 clear hr0 hc0
 have HR1 := Aside0.mk hr1
 have HC1 := Aside0.mk hc1
 clear hr1 hc1
 have HB := Aside0.mk (Below.refl w.heap.size w)
 have H : (if (l0.length : Int) = (l1.length : Int) then (laws_eqItemS.l0 k l0 l1 0) else (some false)) = some r := h
 clear h
 by_cases c3 : (l0.length : Int) = (l1.length : Int)
 ·rw [if_pos c3] at H
  have c3b0 : ((l0.length : Int) == (l1.length : Int)) = true := beq_iff_eq.mpr c3
  have c3b1 : ((l0.length : Int) != (l1.length : Int)) = false := bne_eq_false_iff_eq.mpr c3
  have c3b2 : (l0.length == l1.length) = true := by first | simpa using c3 | (simp at c3 ⊢; omega)
  clear c3
  have H' := Aside0.mk H
  clear H
  go_enter Try.func46, Try.ntmps46
  go_wp2
  go_loopg [5] k (fun kq v5 w' => ∃ (x5_1 : Int), v5 = .int .i64 x5_1 ∧ Aside0 (laws_eqItemS.l0 kq l0 l1 x5_1 = some r) ∧ Aside0 (kq ≤ k) ∧ Aside0 (Below w.heap.size w w'))
  case atStart => exact ⟨(0), (by first | rfl | (simp; done) | (simp [*]; done)), H', ⟨Nat.le_refl _⟩, ⟨by repeat (first | (with_reducible first | exact HB.out | apply below_alloc | apply pw_below_drewN | apply below_drew1) | exact HB.out)⟩⟩
  case round =>
   clear H'
   try clear c1
   try clear p2
   try clear c3
   try clear c3b0
   try clear c3b1
   try clear c3b2
   obtain ⟨x5_1, rfl, HA, HK1, HB⟩ := hrel
   cases gk with
   | zero => exact absurd HA.out (by simp [laws_eqItemS.l0])
   | succ k1 =>
    have H := HA.out
    clear HA
    simp only [laws_eqItemS.l0] at H
    by_cases c4 : x5_1 < (l0.length : Int)
    ·rw [if_pos c4] at H
     have c4b0 : decide (x5_1 < (l0.length : Int)) = true := decide_eq_true c4
     clear c4
     by_cases c5 : 0 ≤ x5_1
     ·rw [if_pos c5] at H
      have c5b0 : decide (0 ≤ x5_1) = true := decide_eq_true c5
      clear c5
      by_cases c6 : x5_1 < (l1.length : Int)
      ·rw [if_pos c6] at H
       have c6b0 : decide (x5_1 < (l1.length : Int)) = true := decide_eq_true c6
       clear c6
       replace H := Option.bind_eq_some_iff.mp H
       obtain ⟨t296, A70, H⟩ := H
       replace H : (if t296 = true then (laws_eqItemS.l0 k1 l0 l1 (wrap64 (x5_1 + 1))) else (some false)) = some r := H
       have A7 := Aside0.mk A70
       clear A70
       have HC8 := Aside0.mk H
       clear H
       try go_wp2
       replace HB := Aside0.mk (below_drew1 HB.out)
       have p294 := od (0 ≤ (x5_1 : Int))
       have q294 := od (x5_1 < (l0.length : Int))
       obtain ⟨ad294, A294_2, c294_2, e294, hx294_0, hx294_1, hx294_2, hl294_2, hi294_2⟩ := at_T66 HR0.out x5_1 p294 q294
       have hw294_2 := hx294_2
       have hw294_1 := hx294_1
       have hw294_0 := hx294_0
       cases e294
       replace hx294_0 := (HB.out.cell (World.block_lt_of_cell? w _ hx294_0)).trans hx294_0
       replace hx294_1 := (HB.out.cell (World.block_lt_of_cell? w _ hx294_1)).trans hx294_1
       replace hx294_2 := (HB.out.cell (World.block_lt_of_cell? w _ hx294_2)).trans hx294_2
       have HR294_2 := Aside0.mk hi294_2
       have HC294_2 := Aside0.mk hl294_2
       clear hi294_2 hl294_2
       replace p294 := eq_true p294
       replace q294 := eq_true q294
       have p295 := od (0 ≤ (x5_1 : Int))
       have q295 := od (x5_1 < (l1.length : Int))
       obtain ⟨ad295, A295_2, c295_2, e295, hx295_0, hx295_1, hx295_2, hl295_2, hi295_2⟩ := at_T66 HR1.out x5_1 p295 q295
       have hw295_2 := hx295_2
       have hw295_1 := hx295_1
       have hw295_0 := hx295_0
       cases e295
       replace hx295_0 := (HB.out.cell (World.block_lt_of_cell? w _ hx295_0)).trans hx295_0
       replace hx295_1 := (HB.out.cell (World.block_lt_of_cell? w _ hx295_1)).trans hx295_1
       replace hx295_2 := (HB.out.cell (World.block_lt_of_cell? w _ hx295_2)).trans hx295_2
       have HR295_2 := Aside0.mk hi295_2
       have HC295_2 := Aside0.mk hl295_2
       clear hi295_2 hl295_2
       replace p295 := eq_true p295
       replace q295 := eq_true q295
       refine start_ (n := 10) (S := fun w' => w'.cell? (ad294.add ((x5_1).toNat * 3)) = some (.int .i64 ((rd_T66 l0 x5_1).f0.f0)) ∧ w'.cell? ⟨(ad294.add ((x5_1).toNat * 3)).block, (ad294.add ((x5_1).toNat * 3)).off + 1, none⟩ = some (.int .i64 ((rd_T66 l0 x5_1).f0.f1)) ∧ w'.cell? ⟨(ad294.add ((x5_1).toNat * 3)).block, (ad294.add ((x5_1).toNat * 3)).off + 2, none⟩ = some (.slice A294_2 ((rd_T66 l0 x5_1).f1).length c294_2) ∧ w'.cell? (ad295.add ((x5_1).toNat * 3)) = some (.int .i64 ((rd_T66 l1 x5_1).f0.f0)) ∧ w'.cell? ⟨(ad295.add ((x5_1).toNat * 3)).block, (ad295.add ((x5_1).toNat * 3)).off + 1, none⟩ = some (.int .i64 ((rd_T66 l1 x5_1).f0.f1)) ∧ w'.cell? ⟨(ad295.add ((x5_1).toNat * 3)).block, (ad295.add ((x5_1).toNat * 3)).off + 2, none⟩ = some (.slice A295_2 ((rd_T66 l1 x5_1).f1).length c295_2)) (ds := []) _ (by kernel_rfl) rfl rfl ⟨((HB.out.cell (World.block_lt_of_cell? w _ hw294_0)).trans hw294_0), ((HB.out.cell (World.block_lt_of_cell? w _ hw294_1)).trans hw294_1), ((HB.out.cell (World.block_lt_of_cell? w _ hw294_2)).trans hw294_2), ((HB.out.cell (World.block_lt_of_cell? w _ hw295_0)).trans hw295_0), ((HB.out.cell (World.block_lt_of_cell? w _ hw295_1)).trans hw295_1), ((HB.out.cell (World.block_lt_of_cell? w _ hw295_2)).trans hw295_2)⟩ (fun hHeld => ?_); refine with_tabW laws_eqItemS.tab6 laws_eqItemS.bits6 (fun HT_ HW_ => ?_)
       generalize wr.drew = w9 at HB HR294_2 HR295_2 hx294_0 hx294_1 hx294_2 hx295_0 hx295_1 hx295_2 hHeld ⊢
       refine pu 0 17 ?_; refine pu 1 18 ?_; refine pu 2 19 ?_; refine pu 4 21 ?_; refine pu 5 22 ?_; refine pu 6 23 ?_; refine tk 3 20 ?_; refine tk 7 24 ?_
       refine on 8 (some 25) (fun K hK => ?_)
       refine ca Try.func106 (laws_eqItem.calls k1 ((rd_T66 l0 x5_1).f0.f0) ((rd_T66 l0 x5_1).f0.f1) _ _ ((rd_T66 l0 x5_1).f1) ((rd_T66 l1 x5_1).f0.f0) ((rd_T66 l1 x5_1).f0.f1) _ _ ((rd_T66 l1 x5_1).f1) t296 _ ?side1 ?side2 ?side3 ?side4 A7.out) ?_
       (case side1 => repeat (first | exact (Kd.C_below HR294_2.out HB.out) | (with_reducible refine Kd.C_alloc ?_ _) | (with_reducible refine Kd.C_drewN ?_ _) | (with_reducible refine Kd.C_drew ?_)))
       (case side2 => exact HC294_2.out)
       (case side3 => repeat (first | exact (Kd.C_below HR295_2.out HB.out) | (with_reducible refine Kd.C_alloc ?_ _) | (with_reducible refine Kd.C_drewN ?_ _) | (with_reducible refine Kd.C_drew ?_)))
       (case side4 => exact HC295_2.out)
       rintro e w10 ⟨rfl, hb⟩
       refine ⟨_, rfl, ?_⟩
       replace HB := Aside0.mk (below_step (by repeat (first | (with_reducible first | exact HB.out | apply below_alloc | apply pw_below_drewN | apply below_drew1) | exact HB.out)) hb)
       (try clear hb)
       (try clear hb2)
       (try clear hk)
       (try clear hi)
       refine hK.out _ _ ⟨((HB.out.cell (World.block_lt_of_cell? w _ hw294_0)).trans hw294_0), ((HB.out.cell (World.block_lt_of_cell? w _ hw294_1)).trans hw294_1), ((HB.out.cell (World.block_lt_of_cell? w _ hw294_2)).trans hw294_2), ((HB.out.cell (World.block_lt_of_cell? w _ hw295_0)).trans hw295_0), ((HB.out.cell (World.block_lt_of_cell? w _ hw295_1)).trans hw295_1), ((HB.out.cell (World.block_lt_of_cell? w _ hw295_2)).trans hw295_2)⟩ (fun hHeld => ?_)
       clear hK K
       refine nm ?_; refine pu 9 26 ?_
       refine dn ?_
       go_upto_if 26 with (fail)
       have H := HC8.out
       clear HC8
       by_cases c11 : t296 = true
       ·subst c11
        have H1 : (laws_eqItemS.l0 k1 l0 l1 (wrap64 (x5_1 + 1))) = some r := by rw [if_pos rfl] at H; exact H
        clear H
        have H := H1
        clear H1
        have H' := Aside0.mk H
        clear H
        go_wp2
        go_roundg k1
        case measure => have := HK1.out; omega
        case rel => exact ⟨(wrap64 (x5_1 + 1)), (by first | rfl | (simp; done) | (simp [*]; done)), H', ⟨by have := HK1.out; omega⟩, ⟨by repeat (first | (with_reducible first | exact HB.out | apply below_alloc | apply pw_below_drewN | apply below_drew1) | exact HB.out)⟩⟩
       ·replace c11 := Bool.eq_false_iff.mpr c11
        subst c11
        have H1 : (some false) = some r := by rw [if_neg (show ¬ (false = true) by decide)] at H; exact H
        clear H
        have H := H1
        clear H1
        obtain rfl := Option.some.inj H
        go_wp2
        go_ret
        exact ⟨by first | rfl | (simp [errW_none, errW_some] <;> rfl) | (simp [*, errW_none, errW_some] <;> rfl), by repeat (first | (with_reducible first | exact HB.out | apply below_alloc | apply pw_below_drewN | apply below_drew1) | exact HB.out)⟩
      ·rw [if_neg c6] at H
       exact absurd H (by simp)
     ·rw [if_neg c5] at H
      exact absurd H (by simp)
    ·rw [if_neg c4] at H
     have c4b0 : decide (x5_1 < (l0.length : Int)) = false := decide_eq_false c4
     clear c4
     obtain rfl := Option.some.inj H
     go_wp2
     go_ret
     exact ⟨by first | rfl | (simp [errW_none, errW_some] <;> rfl) | (simp [*, errW_none, errW_some] <;> rfl), by repeat (first | (with_reducible first | exact HB.out | apply below_alloc | apply pw_below_drewN | apply below_drew1) | exact HB.out)⟩
 ·rw [if_neg c3] at H
  have c3b0 : ((l0.length : Int) == (l1.length : Int)) = false := beq_eq_false_iff_ne.mpr c3
  have c3b1 : ((l0.length : Int) != (l1.length : Int)) = true := bne_iff_ne.mpr c3
  have c3b2 : (l0.length == l1.length) = false := by first | simpa using c3 | (simp at c3 ⊢; omega)
  obtain rfl := Option.some.inj H
  go_enter Try.func46, Try.ntmps46
  go_wp2
  go_ret
  exact ⟨by first | rfl | (simp [errW_none, errW_some] <;> rfl) | (simp [*, errW_none, errW_some] <;> rfl), by repeat (first | (with_reducible first | exact HB.out | apply below_alloc | apply pw_below_drewN | apply below_drew1) | exact HB.out)⟩
end Go.Proofs.Ytofiljboaegekaa.PFnExactStreamOk
namespace Go.Proofs.Ytofiljboaegekaa.PFnExactStreamOk
open Go.RowKit Go.Proofs.YtofiljboaegekaaW.PrintWords Go.Proofs.YtofiljboaegekaaW.PrintLast Go.Proofs.YtofiljboaegekaaW.PrintMore Go.Proofs.Ytofiljboaegekaa.Reg
attribute [local go_sem] max2_int min2_int max_two min_two max_three min_three max_four min_four
set_option linter.unusedVariables false
set_option linter.unusedSimpArgs false
def laws_eqWait.f (a0_0 : Int) (a0_1 : Int) (a0_2 : ByteArray) (a0_3 : Int) (a0_4 : Int) (a1_0 : Int) (a1_1 : Int) (a1_2 : ByteArray) (a1_3 : Int) (a1_4 : Int) : Option (Bool) := (laws_eqId.f a0_0 a0_1 a1_0 a1_1).bind fun t299 => (if t299 = true then (if a0_2.toList = a1_2.toList then (if a0_3 = a1_3 then (if a0_4 = a1_4 then (some true) else (some false)) else (some false)) else (some false)) else (some false))
set_option maxHeartbeats 8000000 in
set_option maxRecDepth 100000 in
theorem laws_eqWait.calls (a0_0 : Int) (a0_1 : Int) (a0_2 : ByteArray) (a0_3 : Int) (a0_4 : Int) (a1_0 : Int) (a1_1 : Int) (a1_2 : ByteArray) (a1_3 : Int) (a1_4 : Int) (r : Bool) (w : World) (h : laws_eqWait.f a0_0 a0_1 a0_2 a0_3 a0_4 a1_0 a1_1 a1_2 a1_3 a1_4 = some r) :
  Calls Try.prog 110 #[.agg #[.int .i64 a0_0, .int .i64 a0_1, .string a0_2, .int .i64 a0_3, .int .i64 a0_4], .agg #[.int .i64 a1_0, .int .i64 a1_1, .string a1_2, .int .i64 a1_3, .int .i64 a1_4]] w fun e w' => e = .returned (.bool r) ∧ Below w.heap.size w w' := by
 have hu57 := Try.underlying57
 have hu30 := Try.underlying30
 have HB := Aside0.mk (Below.refl w.heap.size w)
 have H : ((laws_eqId.f a0_0 a0_1 a1_0 a1_1).bind fun t299 => (if t299 = true then (if a0_2.toList = a1_2.toList then (if a0_3 = a1_3 then (if a0_4 = a1_4 then (some true) else (some false)) else (some false)) else (some false)) else (some false))) = some r := h
 clear h
 replace H := Option.bind_eq_some_iff.mp H
 obtain ⟨t299, A30, H⟩ := H
 replace H : (if t299 = true then (if a0_2.toList = a1_2.toList then (if a0_3 = a1_3 then (if a0_4 = a1_4 then (some true) else (some false)) else (some false)) else (some false)) else (some false)) = some r := H
 have A3 := Aside0.mk A30
 clear A30
 have HC4 := Aside0.mk H
 clear H
 go_enter Try.func110, Try.ntmps110
 go_upto_if 10 with (first | ((with_reducible refine gate_dst (N := 2) rfl ?_); refine box_event ?hg (N := 2) ?hd (cs := #[.int .i64 a0_0, .int .i64 a0_1, .string a0_2, .int .i64 a0_3, .int .i64 a0_4]) (t := 57) ?hr ?_; (case hd => rfl); (case hg => rfl); (case hr => first | (go_simp; done) | (go_simp; rfl)); intro gb297 hg w5 hbox hb; have n0_ := Aside0.mk (below_step (by repeat (first | (with_reducible first | exact HB.out | apply below_alloc | apply pw_below_drewN | apply below_drew1) | exact HB.out)) hb); have n1_ := Aside0.mk (hbox); have n2_ := Aside0.mk ((by rw [hg]; exact (below_size (by repeat (first | (with_reducible first | exact HB.out | apply below_alloc | apply pw_below_drewN | apply below_drew1) | exact HB.out))) : w.heap.size ≤ gb297)); have n3_ := Aside0.mk ((by rw [hg]; exact (below_size (by repeat (first | (with_reducible first | exact HB.out | apply below_alloc | apply pw_below_drewN | apply below_drew1) | exact HB.out))) : w.heap.size ≤ gb297)); clear HB; have HB := n0_; have BK297 := n1_; have GW297 := n2_; have GE297 := n3_; clear n0_ n1_ n2_ n3_; clear hb hbox hg) | ((with_reducible refine gate_dst (N := 3) rfl ?_); refine box_event ?hg (N := 3) ?hd (cs := #[.int .i64 a1_0, .int .i64 a1_1, .string a1_2, .int .i64 a1_3, .int .i64 a1_4]) (t := 57) ?hr ?_; (case hd => rfl); (case hg => rfl); (case hr => first | (go_simp; done) | (go_simp; rfl)); intro gb298 hg w6 hbox hb; have n0_ := Aside0.mk (blk_below (g := gb297) (o := .cells #[.int .i64 a0_0, .int .i64 a0_1, .string a0_2, .int .i64 a0_3, .int .i64 a0_4] 57 (0, 0)) (by (with_reducible repeat (first | refine blk_drewN ?_ _ | refine blk_drew ?_ | refine blk_alloc ?_ _)); exact BK297.out) hb); have n1_ := Aside0.mk (below_step (by repeat (first | (with_reducible first | exact HB.out | apply below_alloc | apply pw_below_drewN | apply below_drew1 | refine below_set ?_ GE297.out) | exact HB.out)) hb); have n2_ := Aside0.mk (hbox); have n3_ := Aside0.mk ((by rw [hg]; exact (below_size (by repeat (first | (with_reducible first | exact HB.out | apply below_alloc | apply pw_below_drewN | apply below_drew1 | refine below_set ?_ GE297.out) | exact HB.out))) : w.heap.size ≤ gb298)); have n4_ := Aside0.mk ((by rw [hg]; exact (below_size (by repeat (first | (with_reducible first | exact HB.out | apply below_alloc | apply pw_below_drewN | apply below_drew1 | refine below_set ?_ GE297.out) | exact HB.out))) : w.heap.size ≤ gb298)); have n5_ := Aside0.mk ((by rw [hg]; exact Nat.ne_of_lt (blk_lt (g := gb297) (o := .cells #[.int .i64 a0_0, .int .i64 a0_1, .string a0_2, .int .i64 a0_3, .int .i64 a0_4] 57 (0, 0)) (by (with_reducible repeat (first | refine blk_drewN ?_ _ | refine blk_drew ?_ | refine blk_alloc ?_ _)); exact BK297.out)) : gb297 ≠ gb298)); have n6_ := Aside0.mk ((by rw [hg]; exact Nat.ne_of_gt (blk_lt (g := gb297) (o := .cells #[.int .i64 a0_0, .int .i64 a0_1, .string a0_2, .int .i64 a0_3, .int .i64 a0_4] 57 (0, 0)) (by (with_reducible repeat (first | refine blk_drewN ?_ _ | refine blk_drew ?_ | refine blk_alloc ?_ _)); exact BK297.out)) : gb298 ≠ gb297)); clear BK297; clear HB; have BK297 := n0_; have HB := n1_; have BK298 := n2_; have GW298 := n3_; have GE298 := n4_; have NB297_298 := n5_; have NB298_297 := n6_; clear n0_ n1_ n2_ n3_ n4_ n5_ n6_; clear hb hbox hg; have hnb7 := NB297_298.out; have hnc7 := NB298_297.out; have hcz8_0 : w6.cell? ⟨gb297, 0, none⟩ = some (.int .i64 a0_0) := (blk_cell BK297.out 0).trans rfl; have hcz8_1 : w6.cell? ⟨gb297, 1, none⟩ = some (.int .i64 a0_1) := (blk_cell BK297.out 1).trans rfl; have hcz8_2 : w6.cell? ⟨gb297, 2, none⟩ = some (.string a0_2) := (blk_cell BK297.out 2).trans rfl; have hcz8_3 : w6.cell? ⟨gb297, 3, none⟩ = some (.int .i64 a0_3) := (blk_cell BK297.out 3).trans rfl; have hcz8_4 : w6.cell? ⟨gb297, 4, none⟩ = some (.int .i64 a0_4) := (blk_cell BK297.out 4).trans rfl; have hfz8_0 := blk_frozen BK297.out 0; have hfz8_1 := blk_frozen BK297.out 1; have hfz8_2 := blk_frozen BK297.out 2; have hfz8_3 := blk_frozen BK297.out 3; have hfz8_4 := blk_frozen BK297.out 4; have hcz9_0 : w6.cell? ⟨gb298, 0, none⟩ = some (.int .i64 a1_0) := (blk_cell BK298.out 0).trans rfl; have hcz9_1 : w6.cell? ⟨gb298, 1, none⟩ = some (.int .i64 a1_1) := (blk_cell BK298.out 1).trans rfl; have hcz9_2 : w6.cell? ⟨gb298, 2, none⟩ = some (.string a1_2) := (blk_cell BK298.out 2).trans rfl; have hcz9_3 : w6.cell? ⟨gb298, 3, none⟩ = some (.int .i64 a1_3) := (blk_cell BK298.out 3).trans rfl; have hcz9_4 : w6.cell? ⟨gb298, 4, none⟩ = some (.int .i64 a1_4) := (blk_cell BK298.out 4).trans rfl; have hfz9_0 := blk_frozen BK298.out 0; have hfz9_1 := blk_frozen BK298.out 1; have hfz9_2 := blk_frozen BK298.out 2; have hfz9_3 := blk_frozen BK298.out 3; have hfz9_4 := blk_frozen BK298.out 4) | ((with_reducible refine gate_callee (f := 78) rfl ?_); refine goesL_ (some 9) rfl rfl Try.func78 (by kernel_rfl) rfl #[.agg #[.int .i64 a0_0, .int .i64 a0_1], .agg #[.int .i64 a1_0, .int .i64 a1_1]] rfl (by (try simp only [List.map_toArray, List.map_cons, List.map_nil]); first | done | rfl | (simp only [List.length_drop, List.length_take]; rfl)) ?_; (with_reducible refine (laws_eqId.calls a0_0 a0_1 a1_0 a1_1 t299 _ A3.out).mono ?_); rintro e w10 ⟨rfl, hb⟩; refine ⟨_, rfl, ?_⟩; have n0_ := Aside0.mk (blk_below (g := gb297) (o := .cells #[.int .i64 a0_0, .int .i64 a0_1, .string a0_2, .int .i64 a0_3, .int .i64 a0_4] 57 (0, 0)) (by (with_reducible repeat (first | refine blk_drewN ?_ _ | refine blk_drew ?_ | refine blk_alloc ?_ _)); exact BK297.out) hb); have n1_ := Aside0.mk (blk_below (g := gb298) (o := .cells #[.int .i64 a1_0, .int .i64 a1_1, .string a1_2, .int .i64 a1_3, .int .i64 a1_4] 57 (0, 0)) (by (with_reducible repeat (first | refine blk_drewN ?_ _ | refine blk_drew ?_ | refine blk_alloc ?_ _)); exact BK298.out) hb); have n2_ := Aside0.mk (below_step (by repeat (first | (with_reducible first | exact HB.out | apply below_alloc | apply pw_below_drewN | apply below_drew1 | refine below_set ?_ GE297.out | refine below_set ?_ GE298.out) | exact HB.out)) hb); clear BK297; clear BK298; clear HB; have BK297 := n0_; have BK298 := n1_; have HB := n2_; clear n0_ n1_ n2_; (try clear hb); (try clear hb2); (try clear hk); (try clear hi)))
 have H := HC4.out
 clear HC4
 by_cases c11 : t299 = true
 ·subst c11
  have H1 : (if a0_2.toList = a1_2.toList then (if a0_3 = a1_3 then (if a0_4 = a1_4 then (some true) else (some false)) else (some false)) else (some false)) = some r := by rw [if_pos rfl] at H; exact H
  clear H
  have H := H1
  clear H1
  have HC12 := Aside0.mk H
  clear H
  have hnb13 := NB297_298.out
  have hnc13 := NB298_297.out
  have hcz14_0 : w10.cell? ⟨gb297, 0, none⟩ = some (.int .i64 a0_0) := (blk_cell BK297.out 0).trans rfl
  have hcz14_1 : w10.cell? ⟨gb297, 1, none⟩ = some (.int .i64 a0_1) := (blk_cell BK297.out 1).trans rfl
  have hcz14_2 : w10.cell? ⟨gb297, 2, none⟩ = some (.string a0_2) := (blk_cell BK297.out 2).trans rfl
  have hcz14_3 : w10.cell? ⟨gb297, 3, none⟩ = some (.int .i64 a0_3) := (blk_cell BK297.out 3).trans rfl
  have hcz14_4 : w10.cell? ⟨gb297, 4, none⟩ = some (.int .i64 a0_4) := (blk_cell BK297.out 4).trans rfl
  have hfz14_0 := blk_frozen BK297.out 0
  have hfz14_1 := blk_frozen BK297.out 1
  have hfz14_2 := blk_frozen BK297.out 2
  have hfz14_3 := blk_frozen BK297.out 3
  have hfz14_4 := blk_frozen BK297.out 4
  have hcz15_0 : w10.cell? ⟨gb298, 0, none⟩ = some (.int .i64 a1_0) := (blk_cell BK298.out 0).trans rfl
  have hcz15_1 : w10.cell? ⟨gb298, 1, none⟩ = some (.int .i64 a1_1) := (blk_cell BK298.out 1).trans rfl
  have hcz15_2 : w10.cell? ⟨gb298, 2, none⟩ = some (.string a1_2) := (blk_cell BK298.out 2).trans rfl
  have hcz15_3 : w10.cell? ⟨gb298, 3, none⟩ = some (.int .i64 a1_3) := (blk_cell BK298.out 3).trans rfl
  have hcz15_4 : w10.cell? ⟨gb298, 4, none⟩ = some (.int .i64 a1_4) := (blk_cell BK298.out 4).trans rfl
  have hfz15_0 := blk_frozen BK298.out 0
  have hfz15_1 := blk_frozen BK298.out 1
  have hfz15_2 := blk_frozen BK298.out 2
  have hfz15_3 := blk_frozen BK298.out 3
  have hfz15_4 := blk_frozen BK298.out 4
  go_upto_if 15 with (fail)
  have H := HC12.out
  clear HC12
  by_cases c16 : a0_2.toList = a1_2.toList
  ·rw [if_pos c16] at H
   have c16b0 : (a0_2.toList == a1_2.toList) = true := beq_iff_eq.mpr c16
   have c16b1 : (a0_2.toList != a1_2.toList) = false := bne_eq_false_iff_eq.mpr c16
   clear c16
   (first | rw [c16b0] | rw [c16b1] | (simp only [i64_w, i32_w]; rw [c16b0]) | rw [c16b2] | skip)
   have HC17 := Aside0.mk H
   clear H
   have hnb18 := NB297_298.out
   have hnc18 := NB298_297.out
   have hcz19_0 : w10.cell? ⟨gb297, 0, none⟩ = some (.int .i64 a0_0) := (blk_cell BK297.out 0).trans rfl
   have hcz19_1 : w10.cell? ⟨gb297, 1, none⟩ = some (.int .i64 a0_1) := (blk_cell BK297.out 1).trans rfl
   have hcz19_2 : w10.cell? ⟨gb297, 2, none⟩ = some (.string a0_2) := (blk_cell BK297.out 2).trans rfl
   have hcz19_3 : w10.cell? ⟨gb297, 3, none⟩ = some (.int .i64 a0_3) := (blk_cell BK297.out 3).trans rfl
   have hcz19_4 : w10.cell? ⟨gb297, 4, none⟩ = some (.int .i64 a0_4) := (blk_cell BK297.out 4).trans rfl
   have hfz19_0 := blk_frozen BK297.out 0
   have hfz19_1 := blk_frozen BK297.out 1
   have hfz19_2 := blk_frozen BK297.out 2
   have hfz19_3 := blk_frozen BK297.out 3
   have hfz19_4 := blk_frozen BK297.out 4
   have hcz20_0 : w10.cell? ⟨gb298, 0, none⟩ = some (.int .i64 a1_0) := (blk_cell BK298.out 0).trans rfl
   have hcz20_1 : w10.cell? ⟨gb298, 1, none⟩ = some (.int .i64 a1_1) := (blk_cell BK298.out 1).trans rfl
   have hcz20_2 : w10.cell? ⟨gb298, 2, none⟩ = some (.string a1_2) := (blk_cell BK298.out 2).trans rfl
   have hcz20_3 : w10.cell? ⟨gb298, 3, none⟩ = some (.int .i64 a1_3) := (blk_cell BK298.out 3).trans rfl
   have hcz20_4 : w10.cell? ⟨gb298, 4, none⟩ = some (.int .i64 a1_4) := (blk_cell BK298.out 4).trans rfl
   have hfz20_0 := blk_frozen BK298.out 0
   have hfz20_1 := blk_frozen BK298.out 1
   have hfz20_2 := blk_frozen BK298.out 2
   have hfz20_3 := blk_frozen BK298.out 3
   have hfz20_4 := blk_frozen BK298.out 4
   go_upto_if 20 with (fail)
   have H := HC17.out
   clear HC17
   by_cases c21 : a0_3 = a1_3
   ·rw [if_pos c21] at H
    have c21b0 : (a0_3 == a1_3) = true := beq_iff_eq.mpr c21
    have c21b1 : (a0_3 != a1_3) = false := bne_eq_false_iff_eq.mpr c21
    clear c21
    (first | rw [c21b0] | rw [c21b1] | (simp only [i64_w, i32_w]; rw [c21b0]) | rw [c21b2] | skip)
    have HC22 := Aside0.mk H
    clear H
    have hnb23 := NB297_298.out
    have hnc23 := NB298_297.out
    have hcz24_0 : w10.cell? ⟨gb297, 0, none⟩ = some (.int .i64 a0_0) := (blk_cell BK297.out 0).trans rfl
    have hcz24_1 : w10.cell? ⟨gb297, 1, none⟩ = some (.int .i64 a0_1) := (blk_cell BK297.out 1).trans rfl
    have hcz24_2 : w10.cell? ⟨gb297, 2, none⟩ = some (.string a0_2) := (blk_cell BK297.out 2).trans rfl
    have hcz24_3 : w10.cell? ⟨gb297, 3, none⟩ = some (.int .i64 a0_3) := (blk_cell BK297.out 3).trans rfl
    have hcz24_4 : w10.cell? ⟨gb297, 4, none⟩ = some (.int .i64 a0_4) := (blk_cell BK297.out 4).trans rfl
    have hfz24_0 := blk_frozen BK297.out 0
    have hfz24_1 := blk_frozen BK297.out 1
    have hfz24_2 := blk_frozen BK297.out 2
    have hfz24_3 := blk_frozen BK297.out 3
    have hfz24_4 := blk_frozen BK297.out 4
    have hcz25_0 : w10.cell? ⟨gb298, 0, none⟩ = some (.int .i64 a1_0) := (blk_cell BK298.out 0).trans rfl
    have hcz25_1 : w10.cell? ⟨gb298, 1, none⟩ = some (.int .i64 a1_1) := (blk_cell BK298.out 1).trans rfl
    have hcz25_2 : w10.cell? ⟨gb298, 2, none⟩ = some (.string a1_2) := (blk_cell BK298.out 2).trans rfl
    have hcz25_3 : w10.cell? ⟨gb298, 3, none⟩ = some (.int .i64 a1_3) := (blk_cell BK298.out 3).trans rfl
    have hcz25_4 : w10.cell? ⟨gb298, 4, none⟩ = some (.int .i64 a1_4) := (blk_cell BK298.out 4).trans rfl
    have hfz25_0 := blk_frozen BK298.out 0
    have hfz25_1 := blk_frozen BK298.out 1
    have hfz25_2 := blk_frozen BK298.out 2
    have hfz25_3 := blk_frozen BK298.out 3
    have hfz25_4 := blk_frozen BK298.out 4
    go_upto_if 25 with (fail)
    have H := HC22.out
    clear HC22
    by_cases c26 : a0_4 = a1_4
    ·rw [if_pos c26] at H
     have c26b0 : (a0_4 == a1_4) = true := beq_iff_eq.mpr c26
     have c26b1 : (a0_4 != a1_4) = false := bne_eq_false_iff_eq.mpr c26
     clear c26
     (first | rw [c26b0] | rw [c26b1] | (simp only [i64_w, i32_w]; rw [c26b0]) | rw [c26b2] | skip)
     obtain rfl := Option.some.inj H
     go_wp2
     go_ret
     exact ⟨by first | rfl | (simp [errW_none, errW_some] <;> rfl) | (simp [*, errW_none, errW_some] <;> rfl), by repeat (first | (with_reducible first | exact HB.out | apply below_alloc | apply pw_below_drewN | apply below_drew1 | refine below_set ?_ GE297.out | refine below_set ?_ GE298.out) | exact HB.out)⟩
    ·rw [if_neg c26] at H
     have c26b0 : (a0_4 == a1_4) = false := beq_eq_false_iff_ne.mpr c26
     have c26b1 : (a0_4 != a1_4) = true := bne_iff_ne.mpr c26
     (first | rw [c26b0] | rw [c26b1] | (simp only [i64_w, i32_w]; rw [c26b0]) | rw [c26b2] | skip)
     obtain rfl := Option.some.inj H
     go_wp2
     go_ret
     exact ⟨by first | rfl | (simp [errW_none, errW_some] <;> rfl) | (simp [*, errW_none, errW_some] <;> rfl), by repeat (first | (with_reducible first | exact HB.out | apply below_alloc | apply pw_below_drewN | apply below_drew1 | refine below_set ?_ GE297.out | refine below_set ?_ GE298.out) | exact HB.out)⟩
   ·rw [if_neg c21] at H
    have c21b0 : (a0_3 == a1_3) = false := beq_eq_false_iff_ne.mpr c21
    have c21b1 : (a0_3 != a1_3) = true := bne_iff_ne.mpr c21
    (first | rw [c21b0] | rw [c21b1] | (simp only [i64_w, i32_w]; rw [c21b0]) | rw [c21b2] | skip)
    obtain rfl := Option.some.inj H
    go_wp2
    go_ret
    exact ⟨by first | rfl | (simp [errW_none, errW_some] <;> rfl) | (simp [*, errW_none, errW_some] <;> rfl), by repeat (first | (with_reducible first | exact HB.out | apply below_alloc | apply pw_below_drewN | apply below_drew1 | refine below_set ?_ GE297.out | refine below_set ?_ GE298.out) | exact HB.out)⟩
  ·rw [if_neg c16] at H
   have c16b0 : (a0_2.toList == a1_2.toList) = false := beq_eq_false_iff_ne.mpr c16
   have c16b1 : (a0_2.toList != a1_2.toList) = true := bne_iff_ne.mpr c16
   (first | rw [c16b0] | rw [c16b1] | (simp only [i64_w, i32_w]; rw [c16b0]) | rw [c16b2] | skip)
   obtain rfl := Option.some.inj H
   go_wp2
   go_ret
   exact ⟨by first | rfl | (simp [errW_none, errW_some] <;> rfl) | (simp [*, errW_none, errW_some] <;> rfl), by repeat (first | (with_reducible first | exact HB.out | apply below_alloc | apply pw_below_drewN | apply below_drew1 | refine below_set ?_ GE297.out | refine below_set ?_ GE298.out) | exact HB.out)⟩
 ·replace c11 := Bool.eq_false_iff.mpr c11
  subst c11
  have H1 : (some false) = some r := by rw [if_neg (show ¬ (false = true) by decide)] at H; exact H
  clear H
  have H := H1
  clear H1
  obtain rfl := Option.some.inj H
  go_wp2
  go_ret
  exact ⟨by first | rfl | (simp [errW_none, errW_some] <;> rfl) | (simp [*, errW_none, errW_some] <;> rfl), by repeat (first | (with_reducible first | exact HB.out | apply below_alloc | apply pw_below_drewN | apply below_drew1 | refine below_set ?_ GE297.out | refine below_set ?_ GE298.out) | exact HB.out)⟩
end Go.Proofs.Ytofiljboaegekaa.PFnExactStreamOk
namespace Go.Proofs.Ytofiljboaegekaa.PFnExactStreamOk
open Go.RowKit Go.Proofs.YtofiljboaegekaaW.PrintWords Go.Proofs.YtofiljboaegekaaW.PrintLast Go.Proofs.YtofiljboaegekaaW.PrintMore Go.Proofs.Ytofiljboaegekaa.Reg
attribute [local go_sem] max2_int min2_int max_two min_two max_three min_three max_four min_four
set_option linter.unusedVariables false
set_option linter.unusedSimpArgs false
def laws_eqWaitS.l0 : Nat → List (S57) → List (S57) → Int → Option (Bool)
 | 0, _, _, _ => none
 | k + 1, x0, x1, x5 => if x5 < (x0.length : Int) then (if 0 ≤ x5 then (if x5 < (x1.length : Int) then ((laws_eqWait.f ((rd_T57 x0 x5).f0.f0) ((rd_T57 x0 x5).f0.f1) ((rd_T57 x0 x5).f1) ((rd_T57 x0 x5).f2) ((rd_T57 x0 x5).f3) ((rd_T57 x1 x5).f0.f0) ((rd_T57 x1 x5).f0.f1) ((rd_T57 x1 x5).f1) ((rd_T57 x1 x5).f2) ((rd_T57 x1 x5).f3)).bind fun t302 => (if t302 = true then (laws_eqWaitS.l0 k x0 x1 (wrap64 (x5 + 1))) else (some false))) else (none)) else (none)) else (some true)
def laws_eqWaitS.f (k : Nat) (l0 : List (S57)) (l1 : List (S57)) : Option (Bool) := if (l0.length : Int) = (l1.length : Int) then (laws_eqWaitS.l0 k l0 l1 0) else (some false)
def laws_eqWaitS.T6 : Bool × List (List Nat × List Nat) := (true, [([], []), ([], []), ([0, 1], [0, 1]), ([2], [2]), ([], []), ([], []), ([4, 5], [4, 5]), ([6], [6]), ([3, 7], [3, 7]), ([8], [8])])
def laws_eqWaitS.B6 : List Nat := [0, 0, 3, 7, 0, 0, 48, 112, 255, 511]
theorem laws_eqWaitS.tab6 : rtab .any (opsOf Try.f50 6) = laws_eqWaitS.T6 := by kernel_rfl
theorem laws_eqWaitS.bits6 : waitsOk laws_eqWaitS.T6.2 laws_eqWaitS.B6 = true := by kernel_rfl
set_option maxHeartbeats 8000000 in
set_option maxRecDepth 100000 in
theorem laws_eqWaitS.calls (k : Nat) (A0 : Option Addr) (c0 : Nat) (l0 : List (S57)) (A1 : Option Addr) (c1 : Nat) (l1 : List (S57)) (r : Bool) (w : World) (hr0 : Kd.C k57 w A0 l0.length l0) (hc0 : l0.length ≤ c0) (hr1 : Kd.C k57 w A1 l1.length l1) (hc1 : l1.length ≤ c1) (h : laws_eqWaitS.f k l0 l1 = some r) :
  Calls Try.prog 50 #[.slice A0 l0.length c0, .slice A1 l1.length c1] w fun e w' => e = .returned (.bool r) ∧ Below w.heap.size w w' := by
 have hu57 := Try.underlying57
 have HR0 := Aside0.mk hr0
 have HC0 := Aside0.mk hc0
 clear hr0 hc0
 have HR1 := Aside0.mk hr1
 have HC1 := Aside0.mk hc1
 clear hr1 hc1
 have HB := Aside0.mk (Below.refl w.heap.size w)
 have H : (if (l0.length : Int) = (l1.length : Int) then (laws_eqWaitS.l0 k l0 l1 0) else (some false)) = some r := h
 clear h
 by_cases c3 : (l0.length : Int) = (l1.length : Int)
 ·rw [if_pos c3] at H
  have c3b0 : ((l0.length : Int) == (l1.length : Int)) = true := beq_iff_eq.mpr c3
  have c3b1 : ((l0.length : Int) != (l1.length : Int)) = false := bne_eq_false_iff_eq.mpr c3
  have c3b2 : (l0.length == l1.length) = true := by first | simpa using c3 | (simp at c3 ⊢; omega)
  clear c3
  have H' := Aside0.mk H
  clear H
  go_enter Try.func50, Try.ntmps50
  go_wp2
  go_loopg [5] k (fun kq v5 w' => ∃ (x5_1 : Int), v5 = .int .i64 x5_1 ∧ Aside0 (laws_eqWaitS.l0 kq l0 l1 x5_1 = some r) ∧ Aside0 (kq ≤ k) ∧ Aside0 (Below w.heap.size w w'))
  case atStart => exact ⟨(0), (by first | rfl | (simp; done) | (simp [*]; done)), H', ⟨Nat.le_refl _⟩, ⟨by repeat (first | (with_reducible first | exact HB.out | apply below_alloc | apply pw_below_drewN | apply below_drew1) | exact HB.out)⟩⟩
  case round =>
   clear H'
   try clear c1
   try clear p2
   try clear c3
   try clear c3b0
   try clear c3b1
   try clear c3b2
   obtain ⟨x5_1, rfl, HA, HK1, HB⟩ := hrel
   cases gk with
   | zero => exact absurd HA.out (by simp [laws_eqWaitS.l0])
   | succ k1 =>
    have H := HA.out
    clear HA
    simp only [laws_eqWaitS.l0] at H
    by_cases c4 : x5_1 < (l0.length : Int)
    ·rw [if_pos c4] at H
     have c4b0 : decide (x5_1 < (l0.length : Int)) = true := decide_eq_true c4
     clear c4
     by_cases c5 : 0 ≤ x5_1
     ·rw [if_pos c5] at H
      have c5b0 : decide (0 ≤ x5_1) = true := decide_eq_true c5
      clear c5
      by_cases c6 : x5_1 < (l1.length : Int)
      ·rw [if_pos c6] at H
       have c6b0 : decide (x5_1 < (l1.length : Int)) = true := decide_eq_true c6
       clear c6
       replace H := Option.bind_eq_some_iff.mp H
       obtain ⟨t302, A70, H⟩ := H
       replace H : (if t302 = true then (laws_eqWaitS.l0 k1 l0 l1 (wrap64 (x5_1 + 1))) else (some false)) = some r := H
       have A7 := Aside0.mk A70
       clear A70
       have HC8 := Aside0.mk H
       clear H
       try go_wp2
       replace HB := Aside0.mk (below_drew1 HB.out)
       have p300 := od (0 ≤ (x5_1 : Int))
       have q300 := od (x5_1 < (l0.length : Int))
       obtain ⟨ad300, e300, hx300_0, hx300_1, hx300_2, hx300_3, hx300_4⟩ := at_T57 HR0.out x5_1 p300 q300
       have hw300_4 := hx300_4
       have hw300_3 := hx300_3
       have hw300_2 := hx300_2
       have hw300_1 := hx300_1
       have hw300_0 := hx300_0
       cases e300
       replace hx300_0 := (HB.out.cell (World.block_lt_of_cell? w _ hx300_0)).trans hx300_0
       replace hx300_1 := (HB.out.cell (World.block_lt_of_cell? w _ hx300_1)).trans hx300_1
       replace hx300_2 := (HB.out.cell (World.block_lt_of_cell? w _ hx300_2)).trans hx300_2
       replace hx300_3 := (HB.out.cell (World.block_lt_of_cell? w _ hx300_3)).trans hx300_3
       replace hx300_4 := (HB.out.cell (World.block_lt_of_cell? w _ hx300_4)).trans hx300_4
       replace p300 := eq_true p300
       replace q300 := eq_true q300
       have p301 := od (0 ≤ (x5_1 : Int))
       have q301 := od (x5_1 < (l1.length : Int))
       obtain ⟨ad301, e301, hx301_0, hx301_1, hx301_2, hx301_3, hx301_4⟩ := at_T57 HR1.out x5_1 p301 q301
       have hw301_4 := hx301_4
       have hw301_3 := hx301_3
       have hw301_2 := hx301_2
       have hw301_1 := hx301_1
       have hw301_0 := hx301_0
       cases e301
       replace hx301_0 := (HB.out.cell (World.block_lt_of_cell? w _ hx301_0)).trans hx301_0
       replace hx301_1 := (HB.out.cell (World.block_lt_of_cell? w _ hx301_1)).trans hx301_1
       replace hx301_2 := (HB.out.cell (World.block_lt_of_cell? w _ hx301_2)).trans hx301_2
       replace hx301_3 := (HB.out.cell (World.block_lt_of_cell? w _ hx301_3)).trans hx301_3
       replace hx301_4 := (HB.out.cell (World.block_lt_of_cell? w _ hx301_4)).trans hx301_4
       replace p301 := eq_true p301
       replace q301 := eq_true q301
       refine start_ (n := 10) (S := fun w' => w'.cell? (ad300.add ((x5_1).toNat * 5)) = some (.int .i64 ((rd_T57 l0 x5_1).f0.f0)) ∧ w'.cell? ⟨(ad300.add ((x5_1).toNat * 5)).block, (ad300.add ((x5_1).toNat * 5)).off + 1, none⟩ = some (.int .i64 ((rd_T57 l0 x5_1).f0.f1)) ∧ w'.cell? ⟨(ad300.add ((x5_1).toNat * 5)).block, (ad300.add ((x5_1).toNat * 5)).off + 2, none⟩ = some (.string ((rd_T57 l0 x5_1).f1)) ∧ w'.cell? ⟨(ad300.add ((x5_1).toNat * 5)).block, (ad300.add ((x5_1).toNat * 5)).off + 3, none⟩ = some (.int .i64 ((rd_T57 l0 x5_1).f2)) ∧ w'.cell? ⟨(ad300.add ((x5_1).toNat * 5)).block, (ad300.add ((x5_1).toNat * 5)).off + 4, none⟩ = some (.int .i64 ((rd_T57 l0 x5_1).f3)) ∧ w'.cell? (ad301.add ((x5_1).toNat * 5)) = some (.int .i64 ((rd_T57 l1 x5_1).f0.f0)) ∧ w'.cell? ⟨(ad301.add ((x5_1).toNat * 5)).block, (ad301.add ((x5_1).toNat * 5)).off + 1, none⟩ = some (.int .i64 ((rd_T57 l1 x5_1).f0.f1)) ∧ w'.cell? ⟨(ad301.add ((x5_1).toNat * 5)).block, (ad301.add ((x5_1).toNat * 5)).off + 2, none⟩ = some (.string ((rd_T57 l1 x5_1).f1)) ∧ w'.cell? ⟨(ad301.add ((x5_1).toNat * 5)).block, (ad301.add ((x5_1).toNat * 5)).off + 3, none⟩ = some (.int .i64 ((rd_T57 l1 x5_1).f2)) ∧ w'.cell? ⟨(ad301.add ((x5_1).toNat * 5)).block, (ad301.add ((x5_1).toNat * 5)).off + 4, none⟩ = some (.int .i64 ((rd_T57 l1 x5_1).f3))) (ds := []) _ (by kernel_rfl) rfl rfl ⟨((HB.out.cell (World.block_lt_of_cell? w _ hw300_0)).trans hw300_0), ((HB.out.cell (World.block_lt_of_cell? w _ hw300_1)).trans hw300_1), ((HB.out.cell (World.block_lt_of_cell? w _ hw300_2)).trans hw300_2), ((HB.out.cell (World.block_lt_of_cell? w _ hw300_3)).trans hw300_3), ((HB.out.cell (World.block_lt_of_cell? w _ hw300_4)).trans hw300_4), ((HB.out.cell (World.block_lt_of_cell? w _ hw301_0)).trans hw301_0), ((HB.out.cell (World.block_lt_of_cell? w _ hw301_1)).trans hw301_1), ((HB.out.cell (World.block_lt_of_cell? w _ hw301_2)).trans hw301_2), ((HB.out.cell (World.block_lt_of_cell? w _ hw301_3)).trans hw301_3), ((HB.out.cell (World.block_lt_of_cell? w _ hw301_4)).trans hw301_4)⟩ (fun hHeld => ?_); refine with_tabW laws_eqWaitS.tab6 laws_eqWaitS.bits6 (fun HT_ HW_ => ?_)
       generalize wr.drew = w9 at HB hx300_0 hx300_1 hx300_2 hx300_3 hx300_4 hx301_0 hx301_1 hx301_2 hx301_3 hx301_4 hHeld ⊢
       refine pu 0 17 ?_; refine pu 1 18 ?_; refine pu 2 19 ?_; refine pu 4 21 ?_; refine pu 5 22 ?_; refine pu 6 23 ?_; refine tk 3 20 ?_; refine tk 7 24 ?_
       refine on 8 (some 25) (fun K hK => ?_)
       refine ca Try.func110 (laws_eqWait.calls ((rd_T57 l0 x5_1).f0.f0) ((rd_T57 l0 x5_1).f0.f1) ((rd_T57 l0 x5_1).f1) ((rd_T57 l0 x5_1).f2) ((rd_T57 l0 x5_1).f3) ((rd_T57 l1 x5_1).f0.f0) ((rd_T57 l1 x5_1).f0.f1) ((rd_T57 l1 x5_1).f1) ((rd_T57 l1 x5_1).f2) ((rd_T57 l1 x5_1).f3) t302 _ A7.out) ?_
       rintro e w10 ⟨rfl, hb⟩
       refine ⟨_, rfl, ?_⟩
       replace HB := Aside0.mk (below_step (by repeat (first | (with_reducible first | exact HB.out | apply below_alloc | apply pw_below_drewN | apply below_drew1) | exact HB.out)) hb)
       (try clear hb)
       (try clear hb2)
       (try clear hk)
       (try clear hi)
       refine hK.out _ _ ⟨((HB.out.cell (World.block_lt_of_cell? w _ hw300_0)).trans hw300_0), ((HB.out.cell (World.block_lt_of_cell? w _ hw300_1)).trans hw300_1), ((HB.out.cell (World.block_lt_of_cell? w _ hw300_2)).trans hw300_2), ((HB.out.cell (World.block_lt_of_cell? w _ hw300_3)).trans hw300_3), ((HB.out.cell (World.block_lt_of_cell? w _ hw300_4)).trans hw300_4), ((HB.out.cell (World.block_lt_of_cell? w _ hw301_0)).trans hw301_0), ((HB.out.cell (World.block_lt_of_cell? w _ hw301_1)).trans hw301_1), ((HB.out.cell (World.block_lt_of_cell? w _ hw301_2)).trans hw301_2), ((HB.out.cell (World.block_lt_of_cell? w _ hw301_3)).trans hw301_3), ((HB.out.cell (World.block_lt_of_cell? w _ hw301_4)).trans hw301_4)⟩ (fun hHeld => ?_)
       clear hK K
       refine nm ?_; refine pu 9 26 ?_
       refine dn ?_
       go_upto_if 26 with (fail)
       have H := HC8.out
       clear HC8
       by_cases c11 : t302 = true
       ·subst c11
        have H1 : (laws_eqWaitS.l0 k1 l0 l1 (wrap64 (x5_1 + 1))) = some r := by rw [if_pos rfl] at H; exact H
        clear H
        have H := H1
        clear H1
        have H' := Aside0.mk H
        clear H
        go_wp2
        go_roundg k1
        case measure => have := HK1.out; omega
        case rel => exact ⟨(wrap64 (x5_1 + 1)), (by first | rfl | (simp; done) | (simp [*]; done)), H', ⟨by have := HK1.out; omega⟩, ⟨by repeat (first | (with_reducible first | exact HB.out | apply below_alloc | apply pw_below_drewN | apply below_drew1) | exact HB.out)⟩⟩
       ·replace c11 := Bool.eq_false_iff.mpr c11
        subst c11
        have H1 : (some false) = some r := by rw [if_neg (show ¬ (false = true) by decide)] at H; exact H
        clear H
        have H := H1
        clear H1
        obtain rfl := Option.some.inj H
        go_wp2
        go_ret
        exact ⟨by first | rfl | (simp [errW_none, errW_some] <;> rfl) | (simp [*, errW_none, errW_some] <;> rfl), by repeat (first | (with_reducible first | exact HB.out | apply below_alloc | apply pw_below_drewN | apply below_drew1) | exact HB.out)⟩
      ·rw [if_neg c6] at H
       exact absurd H (by simp)
     ·rw [if_neg c5] at H
      exact absurd H (by simp)
    ·rw [if_neg c4] at H
     have c4b0 : decide (x5_1 < (l0.length : Int)) = false := decide_eq_false c4
     clear c4
     obtain rfl := Option.some.inj H
     go_wp2
     go_ret
     exact ⟨by first | rfl | (simp [errW_none, errW_some] <;> rfl) | (simp [*, errW_none, errW_some] <;> rfl), by repeat (first | (with_reducible first | exact HB.out | apply below_alloc | apply pw_below_drewN | apply below_drew1) | exact HB.out)⟩
 ·rw [if_neg c3] at H
  have c3b0 : ((l0.length : Int) == (l1.length : Int)) = false := beq_eq_false_iff_ne.mpr c3
  have c3b1 : ((l0.length : Int) != (l1.length : Int)) = true := bne_iff_ne.mpr c3
  have c3b2 : (l0.length == l1.length) = false := by first | simpa using c3 | (simp at c3 ⊢; omega)
  obtain rfl := Option.some.inj H
  go_enter Try.func50, Try.ntmps50
  go_wp2
  go_ret
  exact ⟨by first | rfl | (simp [errW_none, errW_some] <;> rfl) | (simp [*, errW_none, errW_some] <;> rfl), by repeat (first | (with_reducible first | exact HB.out | apply below_alloc | apply pw_below_drewN | apply below_drew1) | exact HB.out)⟩
end Go.Proofs.Ytofiljboaegekaa.PFnExactStreamOk
namespace Go.Proofs.Ytofiljboaegekaa.PFnExactStreamOk
open Go.RowKit Go.Proofs.YtofiljboaegekaaW.PrintWords Go.Proofs.YtofiljboaegekaaW.PrintLast Go.Proofs.YtofiljboaegekaaW.PrintMore Go.Proofs.Ytofiljboaegekaa.Reg
attribute [local go_sem] max2_int min2_int max_two min_two max_three min_three max_four min_four
set_option linter.unusedVariables false
set_option linter.unusedSimpArgs false
def laws_eqGroup.f (k : Nat) (a0_0 : ByteArray) (a0_1 : Int) (a0_2 : Int) (l0_3 : List (S57)) (a1_0 : ByteArray) (a1_1 : Int) (a1_2 : Int) (l1_3 : List (S57)) : Option (Bool) := if a0_0.toList = a1_0.toList then ((laws_eqId.f a0_1 a0_2 a1_1 a1_2).bind fun t305 => (if t305 = true then ((laws_eqWaitS.f k l0_3 l1_3).bind fun t306 => (if t306 = true then (some true) else (some false))) else (some false))) else (some false)
set_option maxHeartbeats 8000000 in
set_option maxRecDepth 100000 in
theorem laws_eqGroup.calls (k : Nat) (a0_0 : ByteArray) (a0_1 : Int) (a0_2 : Int) (A0_3 : Option Addr) (c0_3 : Nat) (l0_3 : List (S57)) (a1_0 : ByteArray) (a1_1 : Int) (a1_2 : Int) (A1_3 : Option Addr) (c1_3 : Nat) (l1_3 : List (S57)) (r : Bool) (w : World) (hr0_3 : Kd.C k57 w A0_3 l0_3.length l0_3) (hc0_3 : l0_3.length ≤ c0_3) (hr1_3 : Kd.C k57 w A1_3 l1_3.length l1_3) (hc1_3 : l1_3.length ≤ c1_3) (h : laws_eqGroup.f k a0_0 a0_1 a0_2 l0_3 a1_0 a1_1 a1_2 l1_3 = some r) :
  Calls Try.prog 132 #[.agg #[.string a0_0, .int .i64 a0_1, .int .i64 a0_2, .slice A0_3 l0_3.length c0_3], .agg #[.string a1_0, .int .i64 a1_1, .int .i64 a1_2, .slice A1_3 l1_3.length c1_3]] w fun e w' => e = .returned (.bool r) ∧ Below w.heap.size w w' := by
 have hu107 := Try.underlying107
 have hu30 := Try.underlying30
 have HR0_3 := Aside0.mk hr0_3
 have HC0_3 := Aside0.mk hc0_3
 clear hr0_3 hc0_3
 have HR1_3 := Aside0.mk hr1_3
 have HC1_3 := Aside0.mk hc1_3
 clear hr1_3 hc1_3
 have HB := Aside0.mk (Below.refl w.heap.size w)
 have H : (if a0_0.toList = a1_0.toList then ((laws_eqId.f a0_1 a0_2 a1_1 a1_2).bind fun t305 => (if t305 = true then ((laws_eqWaitS.f k l0_3 l1_3).bind fun t306 => (if t306 = true then (some true) else (some false))) else (some false))) else (some false)) = some r := h
 clear h
 have HC3 := Aside0.mk H
 clear H
 go_enter Try.func132, Try.ntmps132
 go_upto_if 9 with (first | ((with_reducible refine gate_dst (N := 2) rfl ?_); refine box_event ?hg (N := 2) ?hd (cs := #[.string a0_0, .int .i64 a0_1, .int .i64 a0_2, .slice A0_3 l0_3.length c0_3]) (t := 107) ?hr ?_; (case hd => rfl); (case hg => rfl); (case hr => first | (go_simp; done) | (go_simp; rfl)); intro gb303 hg w4 hbox hb; have n0_ := Aside0.mk (below_step (by repeat (first | (with_reducible first | exact HB.out | apply below_alloc | apply pw_below_drewN | apply below_drew1) | exact HB.out)) hb); have n1_ := Aside0.mk (hbox); have n2_ := Aside0.mk ((by rw [hg]; exact (below_size (by repeat (first | (with_reducible first | exact HB.out | apply below_alloc | apply pw_below_drewN | apply below_drew1) | exact HB.out))) : w.heap.size ≤ gb303)); have n3_ := Aside0.mk ((by rw [hg]; exact (below_size (by repeat (first | (with_reducible first | exact HB.out | apply below_alloc | apply pw_below_drewN | apply below_drew1) | exact HB.out))) : w.heap.size ≤ gb303)); clear HB; have HB := n0_; have BK303 := n1_; have GW303 := n2_; have GE303 := n3_; clear n0_ n1_ n2_ n3_; clear hb hbox hg) | ((with_reducible refine gate_dst (N := 3) rfl ?_); refine box_event ?hg (N := 3) ?hd (cs := #[.string a1_0, .int .i64 a1_1, .int .i64 a1_2, .slice A1_3 l1_3.length c1_3]) (t := 107) ?hr ?_; (case hd => rfl); (case hg => rfl); (case hr => first | (go_simp; done) | (go_simp; rfl)); intro gb304 hg w5 hbox hb; have n0_ := Aside0.mk (blk_below (g := gb303) (o := .cells #[.string a0_0, .int .i64 a0_1, .int .i64 a0_2, .slice A0_3 l0_3.length c0_3] 107 (0, 0)) (by (with_reducible repeat (first | refine blk_drewN ?_ _ | refine blk_drew ?_ | refine blk_alloc ?_ _)); exact BK303.out) hb); have n1_ := Aside0.mk (below_step (by repeat (first | (with_reducible first | exact HB.out | apply below_alloc | apply pw_below_drewN | apply below_drew1 | refine below_set ?_ GE303.out) | exact HB.out)) hb); have n2_ := Aside0.mk (hbox); have n3_ := Aside0.mk ((by rw [hg]; exact (below_size (by repeat (first | (with_reducible first | exact HB.out | apply below_alloc | apply pw_below_drewN | apply below_drew1 | refine below_set ?_ GE303.out) | exact HB.out))) : w.heap.size ≤ gb304)); have n4_ := Aside0.mk ((by rw [hg]; exact (below_size (by repeat (first | (with_reducible first | exact HB.out | apply below_alloc | apply pw_below_drewN | apply below_drew1 | refine below_set ?_ GE303.out) | exact HB.out))) : w.heap.size ≤ gb304)); have n5_ := Aside0.mk ((by rw [hg]; exact Nat.ne_of_lt (blk_lt (g := gb303) (o := .cells #[.string a0_0, .int .i64 a0_1, .int .i64 a0_2, .slice A0_3 l0_3.length c0_3] 107 (0, 0)) (by (with_reducible repeat (first | refine blk_drewN ?_ _ | refine blk_drew ?_ | refine blk_alloc ?_ _)); exact BK303.out)) : gb303 ≠ gb304)); have n6_ := Aside0.mk ((by rw [hg]; exact Nat.ne_of_gt (blk_lt (g := gb303) (o := .cells #[.string a0_0, .int .i64 a0_1, .int .i64 a0_2, .slice A0_3 l0_3.length c0_3] 107 (0, 0)) (by (with_reducible repeat (first | refine blk_drewN ?_ _ | refine blk_drew ?_ | refine blk_alloc ?_ _)); exact BK303.out)) : gb304 ≠ gb303)); clear BK303; clear HB; have BK303 := n0_; have HB := n1_; have BK304 := n2_; have GW304 := n3_; have GE304 := n4_; have NB303_304 := n5_; have NB304_303 := n6_; clear n0_ n1_ n2_ n3_ n4_ n5_ n6_; clear hb hbox hg; have hnb6 := NB303_304.out; have hnc6 := NB304_303.out; have hcz7_0 : w5.cell? ⟨gb303, 0, none⟩ = some (.string a0_0) := (blk_cell BK303.out 0).trans rfl; have hcz7_1 : w5.cell? ⟨gb303, 1, none⟩ = some (.int .i64 a0_1) := (blk_cell BK303.out 1).trans rfl; have hcz7_2 : w5.cell? ⟨gb303, 2, none⟩ = some (.int .i64 a0_2) := (blk_cell BK303.out 2).trans rfl; have hcz7_3 : w5.cell? ⟨gb303, 3, none⟩ = some (.slice A0_3 l0_3.length c0_3) := (blk_cell BK303.out 3).trans rfl; have hfz7_0 := blk_frozen BK303.out 0; have hfz7_1 := blk_frozen BK303.out 1; have hfz7_2 := blk_frozen BK303.out 2; have hfz7_3 := blk_frozen BK303.out 3; have hcz8_0 : w5.cell? ⟨gb304, 0, none⟩ = some (.string a1_0) := (blk_cell BK304.out 0).trans rfl; have hcz8_1 : w5.cell? ⟨gb304, 1, none⟩ = some (.int .i64 a1_1) := (blk_cell BK304.out 1).trans rfl; have hcz8_2 : w5.cell? ⟨gb304, 2, none⟩ = some (.int .i64 a1_2) := (blk_cell BK304.out 2).trans rfl; have hcz8_3 : w5.cell? ⟨gb304, 3, none⟩ = some (.slice A1_3 l1_3.length c1_3) := (blk_cell BK304.out 3).trans rfl; have hfz8_0 := blk_frozen BK304.out 0; have hfz8_1 := blk_frozen BK304.out 1; have hfz8_2 := blk_frozen BK304.out 2; have hfz8_3 := blk_frozen BK304.out 3))
 have H := HC3.out
 clear HC3
 by_cases c9 : a0_0.toList = a1_0.toList
 ·rw [if_pos c9] at H
  have c9b0 : (a0_0.toList == a1_0.toList) = true := beq_iff_eq.mpr c9
  have c9b1 : (a0_0.toList != a1_0.toList) = false := bne_eq_false_iff_eq.mpr c9
  clear c9
  (first | rw [c9b0] | rw [c9b1] | (simp only [i64_w, i32_w]; rw [c9b0]) | rw [c9b2] | skip)
  replace H := Option.bind_eq_some_iff.mp H
  obtain ⟨t305, A100, H⟩ := H
  replace H : (if t305 = true then ((laws_eqWaitS.f k l0_3 l1_3).bind fun t306 => (if t306 = true then (some true) else (some false))) else (some false)) = some r := H
  have A10 := Aside0.mk A100
  clear A100
  have HC11 := Aside0.mk H
  clear H
  have hnb12 := NB303_304.out
  have hnc12 := NB304_303.out
  have hcz13_0 : w5.cell? ⟨gb303, 0, none⟩ = some (.string a0_0) := (blk_cell BK303.out 0).trans rfl
  have hcz13_1 : w5.cell? ⟨gb303, 1, none⟩ = some (.int .i64 a0_1) := (blk_cell BK303.out 1).trans rfl
  have hcz13_2 : w5.cell? ⟨gb303, 2, none⟩ = some (.int .i64 a0_2) := (blk_cell BK303.out 2).trans rfl
  have hcz13_3 : w5.cell? ⟨gb303, 3, none⟩ = some (.slice A0_3 l0_3.length c0_3) := (blk_cell BK303.out 3).trans rfl
  have hfz13_0 := blk_frozen BK303.out 0
  have hfz13_1 := blk_frozen BK303.out 1
  have hfz13_2 := blk_frozen BK303.out 2
  have hfz13_3 := blk_frozen BK303.out 3
  have hcz14_0 : w5.cell? ⟨gb304, 0, none⟩ = some (.string a1_0) := (blk_cell BK304.out 0).trans rfl
  have hcz14_1 : w5.cell? ⟨gb304, 1, none⟩ = some (.int .i64 a1_1) := (blk_cell BK304.out 1).trans rfl
  have hcz14_2 : w5.cell? ⟨gb304, 2, none⟩ = some (.int .i64 a1_2) := (blk_cell BK304.out 2).trans rfl
  have hcz14_3 : w5.cell? ⟨gb304, 3, none⟩ = some (.slice A1_3 l1_3.length c1_3) := (blk_cell BK304.out 3).trans rfl
  have hfz14_0 := blk_frozen BK304.out 0
  have hfz14_1 := blk_frozen BK304.out 1
  have hfz14_2 := blk_frozen BK304.out 2
  have hfz14_3 := blk_frozen BK304.out 3
  go_upto_if 15 with (first | ((with_reducible refine gate_callee (f := 78) rfl ?_); refine goesL_ (some 14) rfl rfl Try.func78 (by kernel_rfl) rfl #[.agg #[.int .i64 a0_1, .int .i64 a0_2], .agg #[.int .i64 a1_1, .int .i64 a1_2]] rfl (by (try simp only [List.map_toArray, List.map_cons, List.map_nil]); first | done | rfl | (simp only [List.length_drop, List.length_take]; rfl)) ?_; (with_reducible refine (laws_eqId.calls a0_1 a0_2 a1_1 a1_2 t305 _ A10.out).mono ?_); rintro e w15 ⟨rfl, hb⟩; refine ⟨_, rfl, ?_⟩; have n0_ := Aside0.mk (blk_below (g := gb303) (o := .cells #[.string a0_0, .int .i64 a0_1, .int .i64 a0_2, .slice A0_3 l0_3.length c0_3] 107 (0, 0)) (by (with_reducible repeat (first | refine blk_drewN ?_ _ | refine blk_drew ?_ | refine blk_alloc ?_ _)); exact BK303.out) hb); have n1_ := Aside0.mk (blk_below (g := gb304) (o := .cells #[.string a1_0, .int .i64 a1_1, .int .i64 a1_2, .slice A1_3 l1_3.length c1_3] 107 (0, 0)) (by (with_reducible repeat (first | refine blk_drewN ?_ _ | refine blk_drew ?_ | refine blk_alloc ?_ _)); exact BK304.out) hb); have n2_ := Aside0.mk (below_step (by repeat (first | (with_reducible first | exact HB.out | apply below_alloc | apply pw_below_drewN | apply below_drew1 | refine below_set ?_ GE303.out | refine below_set ?_ GE304.out) | exact HB.out)) hb); clear BK303; clear BK304; clear HB; have BK303 := n0_; have BK304 := n1_; have HB := n2_; clear n0_ n1_ n2_; (try clear hb); (try clear hb2); (try clear hk); (try clear hi)))
  have H := HC11.out
  clear HC11
  by_cases c16 : t305 = true
  ·subst c16
   have H1 : ((laws_eqWaitS.f k l0_3 l1_3).bind fun t306 => (if t306 = true then (some true) else (some false))) = some r := by rw [if_pos rfl] at H; exact H
   clear H
   have H := H1
   clear H1
   replace H := Option.bind_eq_some_iff.mp H
   obtain ⟨t306, A170, H⟩ := H
   replace H : (if t306 = true then (some true) else (some false)) = some r := H
   have A17 := Aside0.mk A170
   clear A170
   have HC18 := Aside0.mk H
   clear H
   have hnb19 := NB303_304.out
   have hnc19 := NB304_303.out
   have hcz20_0 : w15.cell? ⟨gb303, 0, none⟩ = some (.string a0_0) := (blk_cell BK303.out 0).trans rfl
   have hcz20_1 : w15.cell? ⟨gb303, 1, none⟩ = some (.int .i64 a0_1) := (blk_cell BK303.out 1).trans rfl
   have hcz20_2 : w15.cell? ⟨gb303, 2, none⟩ = some (.int .i64 a0_2) := (blk_cell BK303.out 2).trans rfl
   have hcz20_3 : w15.cell? ⟨gb303, 3, none⟩ = some (.slice A0_3 l0_3.length c0_3) := (blk_cell BK303.out 3).trans rfl
   have hfz20_0 := blk_frozen BK303.out 0
   have hfz20_1 := blk_frozen BK303.out 1
   have hfz20_2 := blk_frozen BK303.out 2
   have hfz20_3 := blk_frozen BK303.out 3
   have hcz21_0 : w15.cell? ⟨gb304, 0, none⟩ = some (.string a1_0) := (blk_cell BK304.out 0).trans rfl
   have hcz21_1 : w15.cell? ⟨gb304, 1, none⟩ = some (.int .i64 a1_1) := (blk_cell BK304.out 1).trans rfl
   have hcz21_2 : w15.cell? ⟨gb304, 2, none⟩ = some (.int .i64 a1_2) := (blk_cell BK304.out 2).trans rfl
   have hcz21_3 : w15.cell? ⟨gb304, 3, none⟩ = some (.slice A1_3 l1_3.length c1_3) := (blk_cell BK304.out 3).trans rfl
   have hfz21_0 := blk_frozen BK304.out 0
   have hfz21_1 := blk_frozen BK304.out 1
   have hfz21_2 := blk_frozen BK304.out 2
   have hfz21_3 := blk_frozen BK304.out 3
   go_upto_if 21 with (first | ((with_reducible refine gate_callee (f := 50) rfl ?_); refine goesL_ (some 20) rfl rfl Try.func50 (by kernel_rfl) rfl #[.slice A0_3 l0_3.length c0_3, .slice A1_3 l1_3.length c1_3] rfl (by (try simp only [List.map_toArray, List.map_cons, List.map_nil]); first | done | rfl | (simp only [List.length_drop, List.length_take]; rfl)) ?_; (with_reducible refine (laws_eqWaitS.calls k _ _ l0_3 _ _ l1_3 t306 _ ?side1 ?side2 ?side3 ?side4 A17.out).mono ?_); (case side1 => repeat (first | exact (Kd.C_below HR0_3.out HB.out) | (with_reducible refine Kd.C_alloc ?_ _) | (with_reducible refine Kd.C_drewN ?_ _) | (with_reducible refine Kd.C_drew ?_))); (case side2 => exact HC0_3.out); (case side3 => repeat (first | exact (Kd.C_below HR1_3.out HB.out) | (with_reducible refine Kd.C_alloc ?_ _) | (with_reducible refine Kd.C_drewN ?_ _) | (with_reducible refine Kd.C_drew ?_))); (case side4 => exact HC1_3.out); rintro e w22 ⟨rfl, hb⟩; refine ⟨_, rfl, ?_⟩; have n0_ := Aside0.mk (blk_below (g := gb303) (o := .cells #[.string a0_0, .int .i64 a0_1, .int .i64 a0_2, .slice A0_3 l0_3.length c0_3] 107 (0, 0)) (by (with_reducible repeat (first | refine blk_drewN ?_ _ | refine blk_drew ?_ | refine blk_alloc ?_ _)); exact BK303.out) hb); have n1_ := Aside0.mk (blk_below (g := gb304) (o := .cells #[.string a1_0, .int .i64 a1_1, .int .i64 a1_2, .slice A1_3 l1_3.length c1_3] 107 (0, 0)) (by (with_reducible repeat (first | refine blk_drewN ?_ _ | refine blk_drew ?_ | refine blk_alloc ?_ _)); exact BK304.out) hb); have n2_ := Aside0.mk (below_step (by repeat (first | (with_reducible first | exact HB.out | apply below_alloc | apply pw_below_drewN | apply below_drew1 | refine below_set ?_ GE303.out | refine below_set ?_ GE304.out) | exact HB.out)) hb); clear BK303; clear BK304; clear HB; have BK303 := n0_; have BK304 := n1_; have HB := n2_; clear n0_ n1_ n2_; (try clear hb); (try clear hb2); (try clear hk); (try clear hi)))
   have H := HC18.out
   clear HC18
   by_cases c23 : t306 = true
   ·subst c23
    have H1 : (some true) = some r := by rw [if_pos rfl] at H; exact H
    clear H
    have H := H1
    clear H1
    obtain rfl := Option.some.inj H
    go_wp2
    go_ret
    exact ⟨by first | rfl | (simp [errW_none, errW_some] <;> rfl) | (simp [*, errW_none, errW_some] <;> rfl), by repeat (first | (with_reducible first | exact HB.out | apply below_alloc | apply pw_below_drewN | apply below_drew1 | refine below_set ?_ GE303.out | refine below_set ?_ GE304.out) | exact HB.out)⟩
   ·replace c23 := Bool.eq_false_iff.mpr c23
    subst c23
    have H1 : (some false) = some r := by rw [if_neg (show ¬ (false = true) by decide)] at H; exact H
    clear H
    have H := H1
    clear H1
    obtain rfl := Option.some.inj H
    go_wp2
    go_ret
    exact ⟨by first | rfl | (simp [errW_none, errW_some] <;> rfl) | (simp [*, errW_none, errW_some] <;> rfl), by repeat (first | (with_reducible first | exact HB.out | apply below_alloc | apply pw_below_drewN | apply below_drew1 | refine below_set ?_ GE303.out | refine below_set ?_ GE304.out) | exact HB.out)⟩
  ·replace c16 := Bool.eq_false_iff.mpr c16
   subst c16
   have H1 : (some false) = some r := by rw [if_neg (show ¬ (false = true) by decide)] at H; exact H
   clear H
   have H := H1
   clear H1
   obtain rfl := Option.some.inj H
   go_wp2
   go_ret
   exact ⟨by first | rfl | (simp [errW_none, errW_some] <;> rfl) | (simp [*, errW_none, errW_some] <;> rfl), by repeat (first | (with_reducible first | exact HB.out | apply below_alloc | apply pw_below_drewN | apply below_drew1 | refine below_set ?_ GE303.out | refine below_set ?_ GE304.out) | exact HB.out)⟩
 ·rw [if_neg c9] at H
  have c9b0 : (a0_0.toList == a1_0.toList) = false := beq_eq_false_iff_ne.mpr c9
  have c9b1 : (a0_0.toList != a1_0.toList) = true := bne_iff_ne.mpr c9
  (first | rw [c9b0] | rw [c9b1] | (simp only [i64_w, i32_w]; rw [c9b0]) | rw [c9b2] | skip)
  obtain rfl := Option.some.inj H
  go_wp2
  go_ret
  exact ⟨by first | rfl | (simp [errW_none, errW_some] <;> rfl) | (simp [*, errW_none, errW_some] <;> rfl), by repeat (first | (with_reducible first | exact HB.out | apply below_alloc | apply pw_below_drewN | apply below_drew1 | refine below_set ?_ GE303.out | refine below_set ?_ GE304.out) | exact HB.out)⟩
end Go.Proofs.Ytofiljboaegekaa.PFnExactStreamOk
namespace Go.Proofs.Ytofiljboaegekaa.PFnExactStreamOk
open Go.RowKit Go.Proofs.YtofiljboaegekaaW.PrintWords Go.Proofs.YtofiljboaegekaaW.PrintLast Go.Proofs.YtofiljboaegekaaW.PrintMore Go.Proofs.Ytofiljboaegekaa.Reg
attribute [local go_sem] max2_int min2_int max_two min_two max_three min_three max_four min_four
set_option linter.unusedVariables false
set_option linter.unusedSimpArgs false
def laws_eqGroupS.l0 : Nat → List (S107) → List (S107) → Int → Option (Bool)
 | 0, _, _, _ => none
 | k + 1, x0, x1, x5 => if x5 < (x0.length : Int) then (if 0 ≤ x5 then (if x5 < (x1.length : Int) then ((laws_eqGroup.f k ((rd_T107 x0 x5).f0) ((rd_T107 x0 x5).f1.f0) ((rd_T107 x0 x5).f1.f1) ((rd_T107 x0 x5).f2) ((rd_T107 x1 x5).f0) ((rd_T107 x1 x5).f1.f0) ((rd_T107 x1 x5).f1.f1) ((rd_T107 x1 x5).f2)).bind fun t309 => (if t309 = true then (laws_eqGroupS.l0 k x0 x1 (wrap64 (x5 + 1))) else (some false))) else (none)) else (none)) else (some true)
def laws_eqGroupS.f (k : Nat) (l0 : List (S107)) (l1 : List (S107)) : Option (Bool) := if (l0.length : Int) = (l1.length : Int) then (laws_eqGroupS.l0 k l0 l1 0) else (some false)
def laws_eqGroupS.T6 : Bool × List (List Nat × List Nat) := (true, [([], []), ([], []), ([0, 1], [0, 1]), ([2], [2]), ([], []), ([], []), ([4, 5], [4, 5]), ([6], [6]), ([3, 7], [3, 7]), ([8], [8])])
def laws_eqGroupS.B6 : List Nat := [0, 0, 3, 7, 0, 0, 48, 112, 255, 511]
theorem laws_eqGroupS.tab6 : rtab .any (opsOf Try.f79 6) = laws_eqGroupS.T6 := by kernel_rfl
theorem laws_eqGroupS.bits6 : waitsOk laws_eqGroupS.T6.2 laws_eqGroupS.B6 = true := by kernel_rfl
set_option maxHeartbeats 8000000 in
set_option maxRecDepth 100000 in
theorem laws_eqGroupS.calls (k : Nat) (A0 : Option Addr) (c0 : Nat) (l0 : List (S107)) (A1 : Option Addr) (c1 : Nat) (l1 : List (S107)) (r : Bool) (w : World) (hr0 : Kd.C k107 w A0 l0.length l0) (hc0 : l0.length ≤ c0) (hr1 : Kd.C k107 w A1 l1.length l1) (hc1 : l1.length ≤ c1) (h : laws_eqGroupS.f k l0 l1 = some r) :
  Calls Try.prog 79 #[.slice A0 l0.length c0, .slice A1 l1.length c1] w fun e w' => e = .returned (.bool r) ∧ Below w.heap.size w w' := by
 have hu107 := Try.underlying107
 have HR0 := Aside0.mk hr0
 have HC0 := Aside0.mk hc0
 clear hr0 hc0
 have HR1 := Aside0.mk hr1
 have HC1 := Aside0.mk hc1
 clear hr1 hc1
 have HB := Aside0.mk (Below.refl w.heap.size w)
 have H : (if (l0.length : Int) = (l1.length : Int) then (laws_eqGroupS.l0 k l0 l1 0) else (some false)) = some r := h
 clear h
 by_cases c3 : (l0.length : Int) = (l1.length : Int)
 ·rw [if_pos c3] at H
  have c3b0 : ((l0.length : Int) == (l1.length : Int)) = true := beq_iff_eq.mpr c3
  have c3b1 : ((l0.length : Int) != (l1.length : Int)) = false := bne_eq_false_iff_eq.mpr c3
  have c3b2 : (l0.length == l1.length) = true := by first | simpa using c3 | (simp at c3 ⊢; omega)
  clear c3
  have H' := Aside0.mk H
  clear H
  go_enter Try.func79, Try.ntmps79
  go_wp2
  go_loopg [5] k (fun kq v5 w' => ∃ (x5_1 : Int), v5 = .int .i64 x5_1 ∧ Aside0 (laws_eqGroupS.l0 kq l0 l1 x5_1 = some r) ∧ Aside0 (kq ≤ k) ∧ Aside0 (Below w.heap.size w w'))
  case atStart => exact ⟨(0), (by first | rfl | (simp; done) | (simp [*]; done)), H', ⟨Nat.le_refl _⟩, ⟨by repeat (first | (with_reducible first | exact HB.out | apply below_alloc | apply pw_below_drewN | apply below_drew1) | exact HB.out)⟩⟩
  case round =>
   clear H'
   try clear c1
   try clear p2
   try clear c3
   try clear c3b0
   try clear c3b1
   try clear c3b2
   obtain ⟨x5_1, rfl, HA, HK1, HB⟩ := hrel
   cases gk with
   | zero => exact absurd HA.out (by simp [laws_eqGroupS.l0])
   | succ k1 =>
    have H := HA.out
    clear HA
    simp only [laws_eqGroupS.l0] at H
    by_cases c4 : x5_1 < (l0.length : Int)
    ·rw [if_pos c4] at H
     have c4b0 : decide (x5_1 < (l0.length : Int)) = true := decide_eq_true c4
     clear c4
     by_cases c5 : 0 ≤ x5_1
     ·rw [if_pos c5] at H
      have c5b0 : decide (0 ≤ x5_1) = true := decide_eq_true c5
      clear c5
      by_cases c6 : x5_1 < (l1.length : Int)
      ·rw [if_pos c6] at H
       have c6b0 : decide (x5_1 < (l1.length : Int)) = true := decide_eq_true c6
       clear c6
       replace H := Option.bind_eq_some_iff.mp H
       obtain ⟨t309, A70, H⟩ := H
       replace H : (if t309 = true then (laws_eqGroupS.l0 k1 l0 l1 (wrap64 (x5_1 + 1))) else (some false)) = some r := H
       have A7 := Aside0.mk A70
       clear A70
       have HC8 := Aside0.mk H
       clear H
       try go_wp2
       replace HB := Aside0.mk (below_drew1 HB.out)
       have p307 := od (0 ≤ (x5_1 : Int))
       have q307 := od (x5_1 < (l0.length : Int))
       obtain ⟨ad307, A307_3, c307_3, e307, hx307_0, hx307_1, hx307_2, hx307_3, hl307_3, hi307_3⟩ := at_T107 HR0.out x5_1 p307 q307
       have hw307_3 := hx307_3
       have hw307_2 := hx307_2
       have hw307_1 := hx307_1
       have hw307_0 := hx307_0
       cases e307
       replace hx307_0 := (HB.out.cell (World.block_lt_of_cell? w _ hx307_0)).trans hx307_0
       replace hx307_1 := (HB.out.cell (World.block_lt_of_cell? w _ hx307_1)).trans hx307_1
       replace hx307_2 := (HB.out.cell (World.block_lt_of_cell? w _ hx307_2)).trans hx307_2
       replace hx307_3 := (HB.out.cell (World.block_lt_of_cell? w _ hx307_3)).trans hx307_3
       have HR307_3 := Aside0.mk hi307_3
       have HC307_3 := Aside0.mk hl307_3
       clear hi307_3 hl307_3
       replace p307 := eq_true p307
       replace q307 := eq_true q307
       have p308 := od (0 ≤ (x5_1 : Int))
       have q308 := od (x5_1 < (l1.length : Int))
       obtain ⟨ad308, A308_3, c308_3, e308, hx308_0, hx308_1, hx308_2, hx308_3, hl308_3, hi308_3⟩ := at_T107 HR1.out x5_1 p308 q308
       have hw308_3 := hx308_3
       have hw308_2 := hx308_2
       have hw308_1 := hx308_1
       have hw308_0 := hx308_0
       cases e308
       replace hx308_0 := (HB.out.cell (World.block_lt_of_cell? w _ hx308_0)).trans hx308_0
       replace hx308_1 := (HB.out.cell (World.block_lt_of_cell? w _ hx308_1)).trans hx308_1
       replace hx308_2 := (HB.out.cell (World.block_lt_of_cell? w _ hx308_2)).trans hx308_2
       replace hx308_3 := (HB.out.cell (World.block_lt_of_cell? w _ hx308_3)).trans hx308_3
       have HR308_3 := Aside0.mk hi308_3
       have HC308_3 := Aside0.mk hl308_3
       clear hi308_3 hl308_3
       replace p308 := eq_true p308
       replace q308 := eq_true q308
       refine start_ (n := 10) (S := fun w' => w'.cell? (ad307.add ((x5_1).toNat * 4)) = some (.string ((rd_T107 l0 x5_1).f0)) ∧ w'.cell? ⟨(ad307.add ((x5_1).toNat * 4)).block, (ad307.add ((x5_1).toNat * 4)).off + 1, none⟩ = some (.int .i64 ((rd_T107 l0 x5_1).f1.f0)) ∧ w'.cell? ⟨(ad307.add ((x5_1).toNat * 4)).block, (ad307.add ((x5_1).toNat * 4)).off + 2, none⟩ = some (.int .i64 ((rd_T107 l0 x5_1).f1.f1)) ∧ w'.cell? ⟨(ad307.add ((x5_1).toNat * 4)).block, (ad307.add ((x5_1).toNat * 4)).off + 3, none⟩ = some (.slice A307_3 ((rd_T107 l0 x5_1).f2).length c307_3) ∧ w'.cell? (ad308.add ((x5_1).toNat * 4)) = some (.string ((rd_T107 l1 x5_1).f0)) ∧ w'.cell? ⟨(ad308.add ((x5_1).toNat * 4)).block, (ad308.add ((x5_1).toNat * 4)).off + 1, none⟩ = some (.int .i64 ((rd_T107 l1 x5_1).f1.f0)) ∧ w'.cell? ⟨(ad308.add ((x5_1).toNat * 4)).block, (ad308.add ((x5_1).toNat * 4)).off + 2, none⟩ = some (.int .i64 ((rd_T107 l1 x5_1).f1.f1)) ∧ w'.cell? ⟨(ad308.add ((x5_1).toNat * 4)).block, (ad308.add ((x5_1).toNat * 4)).off + 3, none⟩ = some (.slice A308_3 ((rd_T107 l1 x5_1).f2).length c308_3)) (ds := []) _ (by kernel_rfl) rfl rfl ⟨((HB.out.cell (World.block_lt_of_cell? w _ hw307_0)).trans hw307_0), ((HB.out.cell (World.block_lt_of_cell? w _ hw307_1)).trans hw307_1), ((HB.out.cell (World.block_lt_of_cell? w _ hw307_2)).trans hw307_2), ((HB.out.cell (World.block_lt_of_cell? w _ hw307_3)).trans hw307_3), ((HB.out.cell (World.block_lt_of_cell? w _ hw308_0)).trans hw308_0), ((HB.out.cell (World.block_lt_of_cell? w _ hw308_1)).trans hw308_1), ((HB.out.cell (World.block_lt_of_cell? w _ hw308_2)).trans hw308_2), ((HB.out.cell (World.block_lt_of_cell? w _ hw308_3)).trans hw308_3)⟩ (fun hHeld => ?_); refine with_tabW laws_eqGroupS.tab6 laws_eqGroupS.bits6 (fun HT_ HW_ => ?_)
       generalize wr.drew = w9 at HB HR307_3 HR308_3 hx307_0 hx307_1 hx307_2 hx307_3 hx308_0 hx308_1 hx308_2 hx308_3 hHeld ⊢
       refine pu 0 17 ?_; refine pu 1 18 ?_; refine pu 2 19 ?_; refine pu 4 21 ?_; refine pu 5 22 ?_; refine pu 6 23 ?_; refine tk 3 20 ?_; refine tk 7 24 ?_
       refine on 8 (some 25) (fun K hK => ?_)
       refine ca Try.func132 (laws_eqGroup.calls k1 ((rd_T107 l0 x5_1).f0) ((rd_T107 l0 x5_1).f1.f0) ((rd_T107 l0 x5_1).f1.f1) _ _ ((rd_T107 l0 x5_1).f2) ((rd_T107 l1 x5_1).f0) ((rd_T107 l1 x5_1).f1.f0) ((rd_T107 l1 x5_1).f1.f1) _ _ ((rd_T107 l1 x5_1).f2) t309 _ ?side1 ?side2 ?side3 ?side4 A7.out) ?_
       (case side1 => repeat (first | exact (Kd.C_below HR307_3.out HB.out) | (with_reducible refine Kd.C_alloc ?_ _) | (with_reducible refine Kd.C_drewN ?_ _) | (with_reducible refine Kd.C_drew ?_)))
       (case side2 => exact HC307_3.out)
       (case side3 => repeat (first | exact (Kd.C_below HR308_3.out HB.out) | (with_reducible refine Kd.C_alloc ?_ _) | (with_reducible refine Kd.C_drewN ?_ _) | (with_reducible refine Kd.C_drew ?_)))
       (case side4 => exact HC308_3.out)
       rintro e w10 ⟨rfl, hb⟩
       refine ⟨_, rfl, ?_⟩
       replace HB := Aside0.mk (below_step (by repeat (first | (with_reducible first | exact HB.out | apply below_alloc | apply pw_below_drewN | apply below_drew1) | exact HB.out)) hb)
       (try clear hb)
       (try clear hb2)
       (try clear hk)
       (try clear hi)
       refine hK.out _ _ ⟨((HB.out.cell (World.block_lt_of_cell? w _ hw307_0)).trans hw307_0), ((HB.out.cell (World.block_lt_of_cell? w _ hw307_1)).trans hw307_1), ((HB.out.cell (World.block_lt_of_cell? w _ hw307_2)).trans hw307_2), ((HB.out.cell (World.block_lt_of_cell? w _ hw307_3)).trans hw307_3), ((HB.out.cell (World.block_lt_of_cell? w _ hw308_0)).trans hw308_0), ((HB.out.cell (World.block_lt_of_cell? w _ hw308_1)).trans hw308_1), ((HB.out.cell (World.block_lt_of_cell? w _ hw308_2)).trans hw308_2), ((HB.out.cell (World.block_lt_of_cell? w _ hw308_3)).trans hw308_3)⟩ (fun hHeld => ?_)
       clear hK K
       refine nm ?_; refine pu 9 26 ?_
       refine dn ?_
       go_upto_if 26 with (fail)
       have H := HC8.out
       clear HC8
       by_cases c11 : t309 = true
       ·subst c11
        have H1 : (laws_eqGroupS.l0 k1 l0 l1 (wrap64 (x5_1 + 1))) = some r := by rw [if_pos rfl] at H; exact H
        clear H
        have H := H1
        clear H1
        have H' := Aside0.mk H
        clear H
        go_wp2
        go_roundg k1
        case measure => have := HK1.out; omega
        case rel => exact ⟨(wrap64 (x5_1 + 1)), (by first | rfl | (simp; done) | (simp [*]; done)), H', ⟨by have := HK1.out; omega⟩, ⟨by repeat (first | (with_reducible first | exact HB.out | apply below_alloc | apply pw_below_drewN | apply below_drew1) | exact HB.out)⟩⟩
       ·replace c11 := Bool.eq_false_iff.mpr c11
        subst c11
        have H1 : (some false) = some r := by rw [if_neg (show ¬ (false = true) by decide)] at H; exact H
        clear H
        have H := H1
        clear H1
        obtain rfl := Option.some.inj H
        go_wp2
        go_ret
        exact ⟨by first | rfl | (simp [errW_none, errW_some] <;> rfl) | (simp [*, errW_none, errW_some] <;> rfl), by repeat (first | (with_reducible first | exact HB.out | apply below_alloc | apply pw_below_drewN | apply below_drew1) | exact HB.out)⟩
      ·rw [if_neg c6] at H
       exact absurd H (by simp)
     ·rw [if_neg c5] at H
      exact absurd H (by simp)
    ·rw [if_neg c4] at H
     have c4b0 : decide (x5_1 < (l0.length : Int)) = false := decide_eq_false c4
     clear c4
     obtain rfl := Option.some.inj H
     go_wp2
     go_ret
     exact ⟨by first | rfl | (simp [errW_none, errW_some] <;> rfl) | (simp [*, errW_none, errW_some] <;> rfl), by repeat (first | (with_reducible first | exact HB.out | apply below_alloc | apply pw_below_drewN | apply below_drew1) | exact HB.out)⟩
 ·rw [if_neg c3] at H
  have c3b0 : ((l0.length : Int) == (l1.length : Int)) = false := beq_eq_false_iff_ne.mpr c3
  have c3b1 : ((l0.length : Int) != (l1.length : Int)) = true := bne_iff_ne.mpr c3
  have c3b2 : (l0.length == l1.length) = false := by first | simpa using c3 | (simp at c3 ⊢; omega)
  obtain rfl := Option.some.inj H
  go_enter Try.func79, Try.ntmps79
  go_wp2
  go_ret
  exact ⟨by first | rfl | (simp [errW_none, errW_some] <;> rfl) | (simp [*, errW_none, errW_some] <;> rfl), by repeat (first | (with_reducible first | exact HB.out | apply below_alloc | apply pw_below_drewN | apply below_drew1) | exact HB.out)⟩
end Go.Proofs.Ytofiljboaegekaa.PFnExactStreamOk
namespace Go.Proofs.Ytofiljboaegekaa.PFnExactStreamOk
open Go.RowKit Go.Proofs.YtofiljboaegekaaW.PrintWords Go.Proofs.YtofiljboaegekaaW.PrintLast Go.Proofs.YtofiljboaegekaaW.PrintMore Go.Proofs.Ytofiljboaegekaa.Reg
attribute [local go_sem] max2_int min2_int max_two min_two max_three min_three max_four min_four
set_option linter.unusedVariables false
set_option linter.unusedSimpArgs false
def laws_eqStream.f (k : Nat) (a0_0 : Int) (a0_1 : Int) (l0_2 : List (S66)) (l0_3 : List (S107)) (a1_0 : Int) (a1_1 : Int) (l1_2 : List (S66)) (l1_3 : List (S107)) : Option (Bool) := (laws_eqId.f a0_0 a0_1 a1_0 a1_1).bind fun t312 => (if t312 = true then ((laws_eqItemS.f k l0_2 l1_2).bind fun t313 => (if t313 = true then ((laws_eqGroupS.f k l0_3 l1_3).bind fun t314 => (if t314 = true then (some true) else (some false))) else (some false))) else (some false))
set_option maxHeartbeats 8000000 in
set_option maxRecDepth 100000 in
theorem laws_eqStream.calls (k : Nat) (a0_0 : Int) (a0_1 : Int) (A0_2 : Option Addr) (c0_2 : Nat) (l0_2 : List (S66)) (A0_3 : Option Addr) (c0_3 : Nat) (l0_3 : List (S107)) (a1_0 : Int) (a1_1 : Int) (A1_2 : Option Addr) (c1_2 : Nat) (l1_2 : List (S66)) (A1_3 : Option Addr) (c1_3 : Nat) (l1_3 : List (S107)) (r : Bool) (w : World) (hr0_2 : Kd.C k66 w A0_2 l0_2.length l0_2) (hc0_2 : l0_2.length ≤ c0_2) (hr0_3 : Kd.C k107 w A0_3 l0_3.length l0_3) (hc0_3 : l0_3.length ≤ c0_3) (hr1_2 : Kd.C k66 w A1_2 l1_2.length l1_2) (hc1_2 : l1_2.length ≤ c1_2) (hr1_3 : Kd.C k107 w A1_3 l1_3.length l1_3) (hc1_3 : l1_3.length ≤ c1_3) (h : laws_eqStream.f k a0_0 a0_1 l0_2 l0_3 a1_0 a1_1 l1_2 l1_3 = some r) :
  Calls Try.prog 19 #[.agg #[.int .i64 a0_0, .int .i64 a0_1, .slice A0_2 l0_2.length c0_2, .slice A0_3 l0_3.length c0_3], .agg #[.int .i64 a1_0, .int .i64 a1_1, .slice A1_2 l1_2.length c1_2, .slice A1_3 l1_3.length c1_3]] w fun e w' => e = .returned (.bool r) ∧ Below w.heap.size w w' := by
 have hu34 := Try.underlying34
 have hu30 := Try.underlying30
 have HR0_2 := Aside0.mk hr0_2
 have HC0_2 := Aside0.mk hc0_2
 clear hr0_2 hc0_2
 have HR0_3 := Aside0.mk hr0_3
 have HC0_3 := Aside0.mk hc0_3
 clear hr0_3 hc0_3
 have HR1_2 := Aside0.mk hr1_2
 have HC1_2 := Aside0.mk hc1_2
 clear hr1_2 hc1_2
 have HR1_3 := Aside0.mk hr1_3
 have HC1_3 := Aside0.mk hc1_3
 clear hr1_3 hc1_3
 have HB := Aside0.mk (Below.refl w.heap.size w)
 have H : ((laws_eqId.f a0_0 a0_1 a1_0 a1_1).bind fun t312 => (if t312 = true then ((laws_eqItemS.f k l0_2 l1_2).bind fun t313 => (if t313 = true then ((laws_eqGroupS.f k l0_3 l1_3).bind fun t314 => (if t314 = true then (some true) else (some false))) else (some false))) else (some false))) = some r := h
 clear h
 replace H := Option.bind_eq_some_iff.mp H
 obtain ⟨t312, A30, H⟩ := H
 replace H : (if t312 = true then ((laws_eqItemS.f k l0_2 l1_2).bind fun t313 => (if t313 = true then ((laws_eqGroupS.f k l0_3 l1_3).bind fun t314 => (if t314 = true then (some true) else (some false))) else (some false))) else (some false)) = some r := H
 have A3 := Aside0.mk A30
 clear A30
 have HC4 := Aside0.mk H
 clear H
 go_enter Try.func19, Try.ntmps19
 go_upto_if 10 with (first | ((with_reducible refine gate_dst (N := 2) rfl ?_); refine box_event ?hg (N := 2) ?hd (cs := #[.int .i64 a0_0, .int .i64 a0_1, .slice A0_2 l0_2.length c0_2, .slice A0_3 l0_3.length c0_3]) (t := 34) ?hr ?_; (case hd => rfl); (case hg => rfl); (case hr => first | (go_simp; done) | (go_simp; rfl)); intro gb310 hg w5 hbox hb; have n0_ := Aside0.mk (below_step (by repeat (first | (with_reducible first | exact HB.out | apply below_alloc | apply pw_below_drewN | apply below_drew1) | exact HB.out)) hb); have n1_ := Aside0.mk (hbox); have n2_ := Aside0.mk ((by rw [hg]; exact (below_size (by repeat (first | (with_reducible first | exact HB.out | apply below_alloc | apply pw_below_drewN | apply below_drew1) | exact HB.out))) : w.heap.size ≤ gb310)); have n3_ := Aside0.mk ((by rw [hg]; exact (below_size (by repeat (first | (with_reducible first | exact HB.out | apply below_alloc | apply pw_below_drewN | apply below_drew1) | exact HB.out))) : w.heap.size ≤ gb310)); clear HB; have HB := n0_; have BK310 := n1_; have GW310 := n2_; have GE310 := n3_; clear n0_ n1_ n2_ n3_; clear hb hbox hg) | ((with_reducible refine gate_dst (N := 3) rfl ?_); refine box_event ?hg (N := 3) ?hd (cs := #[.int .i64 a1_0, .int .i64 a1_1, .slice A1_2 l1_2.length c1_2, .slice A1_3 l1_3.length c1_3]) (t := 34) ?hr ?_; (case hd => rfl); (case hg => rfl); (case hr => first | (go_simp; done) | (go_simp; rfl)); intro gb311 hg w6 hbox hb; have n0_ := Aside0.mk (blk_below (g := gb310) (o := .cells #[.int .i64 a0_0, .int .i64 a0_1, .slice A0_2 l0_2.length c0_2, .slice A0_3 l0_3.length c0_3] 34 (0, 0)) (by (with_reducible repeat (first | refine blk_drewN ?_ _ | refine blk_drew ?_ | refine blk_alloc ?_ _)); exact BK310.out) hb); have n1_ := Aside0.mk (below_step (by repeat (first | (with_reducible first | exact HB.out | apply below_alloc | apply pw_below_drewN | apply below_drew1 | refine below_set ?_ GE310.out) | exact HB.out)) hb); have n2_ := Aside0.mk (hbox); have n3_ := Aside0.mk ((by rw [hg]; exact (below_size (by repeat (first | (with_reducible first | exact HB.out | apply below_alloc | apply pw_below_drewN | apply below_drew1 | refine below_set ?_ GE310.out) | exact HB.out))) : w.heap.size ≤ gb311)); have n4_ := Aside0.mk ((by rw [hg]; exact (below_size (by repeat (first | (with_reducible first | exact HB.out | apply below_alloc | apply pw_below_drewN | apply below_drew1 | refine below_set ?_ GE310.out) | exact HB.out))) : w.heap.size ≤ gb311)); have n5_ := Aside0.mk ((by rw [hg]; exact Nat.ne_of_lt (blk_lt (g := gb310) (o := .cells #[.int .i64 a0_0, .int .i64 a0_1, .slice A0_2 l0_2.length c0_2, .slice A0_3 l0_3.length c0_3] 34 (0, 0)) (by (with_reducible repeat (first | refine blk_drewN ?_ _ | refine blk_drew ?_ | refine blk_alloc ?_ _)); exact BK310.out)) : gb310 ≠ gb311)); have n6_ := Aside0.mk ((by rw [hg]; exact Nat.ne_of_gt (blk_lt (g := gb310) (o := .cells #[.int .i64 a0_0, .int .i64 a0_1, .slice A0_2 l0_2.length c0_2, .slice A0_3 l0_3.length c0_3] 34 (0, 0)) (by (with_reducible repeat (first | refine blk_drewN ?_ _ | refine blk_drew ?_ | refine blk_alloc ?_ _)); exact BK310.out)) : gb311 ≠ gb310)); clear BK310; clear HB; have BK310 := n0_; have HB := n1_; have BK311 := n2_; have GW311 := n3_; have GE311 := n4_; have NB310_311 := n5_; have NB311_310 := n6_; clear n0_ n1_ n2_ n3_ n4_ n5_ n6_; clear hb hbox hg; have hnb7 := NB310_311.out; have hnc7 := NB311_310.out; have hcz8_0 : w6.cell? ⟨gb310, 0, none⟩ = some (.int .i64 a0_0) := (blk_cell BK310.out 0).trans rfl; have hcz8_1 : w6.cell? ⟨gb310, 1, none⟩ = some (.int .i64 a0_1) := (blk_cell BK310.out 1).trans rfl; have hcz8_2 : w6.cell? ⟨gb310, 2, none⟩ = some (.slice A0_2 l0_2.length c0_2) := (blk_cell BK310.out 2).trans rfl; have hcz8_3 : w6.cell? ⟨gb310, 3, none⟩ = some (.slice A0_3 l0_3.length c0_3) := (blk_cell BK310.out 3).trans rfl; have hfz8_0 := blk_frozen BK310.out 0; have hfz8_1 := blk_frozen BK310.out 1; have hfz8_2 := blk_frozen BK310.out 2; have hfz8_3 := blk_frozen BK310.out 3; have hcz9_0 : w6.cell? ⟨gb311, 0, none⟩ = some (.int .i64 a1_0) := (blk_cell BK311.out 0).trans rfl; have hcz9_1 : w6.cell? ⟨gb311, 1, none⟩ = some (.int .i64 a1_1) := (blk_cell BK311.out 1).trans rfl; have hcz9_2 : w6.cell? ⟨gb311, 2, none⟩ = some (.slice A1_2 l1_2.length c1_2) := (blk_cell BK311.out 2).trans rfl; have hcz9_3 : w6.cell? ⟨gb311, 3, none⟩ = some (.slice A1_3 l1_3.length c1_3) := (blk_cell BK311.out 3).trans rfl; have hfz9_0 := blk_frozen BK311.out 0; have hfz9_1 := blk_frozen BK311.out 1; have hfz9_2 := blk_frozen BK311.out 2; have hfz9_3 := blk_frozen BK311.out 3) | ((with_reducible refine gate_callee (f := 78) rfl ?_); refine goesL_ (some 9) rfl rfl Try.func78 (by kernel_rfl) rfl #[.agg #[.int .i64 a0_0, .int .i64 a0_1], .agg #[.int .i64 a1_0, .int .i64 a1_1]] rfl (by (try simp only [List.map_toArray, List.map_cons, List.map_nil]); first | done | rfl | (simp only [List.length_drop, List.length_take]; rfl)) ?_; (with_reducible refine (laws_eqId.calls a0_0 a0_1 a1_0 a1_1 t312 _ A3.out).mono ?_); rintro e w10 ⟨rfl, hb⟩; refine ⟨_, rfl, ?_⟩; have n0_ := Aside0.mk (blk_below (g := gb310) (o := .cells #[.int .i64 a0_0, .int .i64 a0_1, .slice A0_2 l0_2.length c0_2, .slice A0_3 l0_3.length c0_3] 34 (0, 0)) (by (with_reducible repeat (first | refine blk_drewN ?_ _ | refine blk_drew ?_ | refine blk_alloc ?_ _)); exact BK310.out) hb); have n1_ := Aside0.mk (blk_below (g := gb311) (o := .cells #[.int .i64 a1_0, .int .i64 a1_1, .slice A1_2 l1_2.length c1_2, .slice A1_3 l1_3.length c1_3] 34 (0, 0)) (by (with_reducible repeat (first | refine blk_drewN ?_ _ | refine blk_drew ?_ | refine blk_alloc ?_ _)); exact BK311.out) hb); have n2_ := Aside0.mk (below_step (by repeat (first | (with_reducible first | exact HB.out | apply below_alloc | apply pw_below_drewN | apply below_drew1 | refine below_set ?_ GE310.out | refine below_set ?_ GE311.out) | exact HB.out)) hb); clear BK310; clear BK311; clear HB; have BK310 := n0_; have BK311 := n1_; have HB := n2_; clear n0_ n1_ n2_; (try clear hb); (try clear hb2); (try clear hk); (try clear hi)))
 have H := HC4.out
 clear HC4
 by_cases c11 : t312 = true
 ·subst c11
  have H1 : ((laws_eqItemS.f k l0_2 l1_2).bind fun t313 => (if t313 = true then ((laws_eqGroupS.f k l0_3 l1_3).bind fun t314 => (if t314 = true then (some true) else (some false))) else (some false))) = some r := by rw [if_pos rfl] at H; exact H
  clear H
  have H := H1
  clear H1
  replace H := Option.bind_eq_some_iff.mp H
  obtain ⟨t313, A120, H⟩ := H
  replace H : (if t313 = true then ((laws_eqGroupS.f k l0_3 l1_3).bind fun t314 => (if t314 = true then (some true) else (some false))) else (some false)) = some r := H
  have A12 := Aside0.mk A120
  clear A120
  have HC13 := Aside0.mk H
  clear H
  have hnb14 := NB310_311.out
  have hnc14 := NB311_310.out
  have hcz15_0 : w10.cell? ⟨gb310, 0, none⟩ = some (.int .i64 a0_0) := (blk_cell BK310.out 0).trans rfl
  have hcz15_1 : w10.cell? ⟨gb310, 1, none⟩ = some (.int .i64 a0_1) := (blk_cell BK310.out 1).trans rfl
  have hcz15_2 : w10.cell? ⟨gb310, 2, none⟩ = some (.slice A0_2 l0_2.length c0_2) := (blk_cell BK310.out 2).trans rfl
  have hcz15_3 : w10.cell? ⟨gb310, 3, none⟩ = some (.slice A0_3 l0_3.length c0_3) := (blk_cell BK310.out 3).trans rfl
  have hfz15_0 := blk_frozen BK310.out 0
  have hfz15_1 := blk_frozen BK310.out 1
  have hfz15_2 := blk_frozen BK310.out 2
  have hfz15_3 := blk_frozen BK310.out 3
  have hcz16_0 : w10.cell? ⟨gb311, 0, none⟩ = some (.int .i64 a1_0) := (blk_cell BK311.out 0).trans rfl
  have hcz16_1 : w10.cell? ⟨gb311, 1, none⟩ = some (.int .i64 a1_1) := (blk_cell BK311.out 1).trans rfl
  have hcz16_2 : w10.cell? ⟨gb311, 2, none⟩ = some (.slice A1_2 l1_2.length c1_2) := (blk_cell BK311.out 2).trans rfl
  have hcz16_3 : w10.cell? ⟨gb311, 3, none⟩ = some (.slice A1_3 l1_3.length c1_3) := (blk_cell BK311.out 3).trans rfl
  have hfz16_0 := blk_frozen BK311.out 0
  have hfz16_1 := blk_frozen BK311.out 1
  have hfz16_2 := blk_frozen BK311.out 2
  have hfz16_3 := blk_frozen BK311.out 3
  go_upto_if 16 with (first | ((with_reducible refine gate_callee (f := 46) rfl ?_); refine goesL_ (some 15) rfl rfl Try.func46 (by kernel_rfl) rfl #[.slice A0_2 l0_2.length c0_2, .slice A1_2 l1_2.length c1_2] rfl (by (try simp only [List.map_toArray, List.map_cons, List.map_nil]); first | done | rfl | (simp only [List.length_drop, List.length_take]; rfl)) ?_; (with_reducible refine (laws_eqItemS.calls k _ _ l0_2 _ _ l1_2 t313 _ ?side1 ?side2 ?side3 ?side4 A12.out).mono ?_); (case side1 => repeat (first | exact (Kd.C_below HR0_2.out HB.out) | (with_reducible refine Kd.C_alloc ?_ _) | (with_reducible refine Kd.C_drewN ?_ _) | (with_reducible refine Kd.C_drew ?_))); (case side2 => exact HC0_2.out); (case side3 => repeat (first | exact (Kd.C_below HR1_2.out HB.out) | (with_reducible refine Kd.C_alloc ?_ _) | (with_reducible refine Kd.C_drewN ?_ _) | (with_reducible refine Kd.C_drew ?_))); (case side4 => exact HC1_2.out); rintro e w17 ⟨rfl, hb⟩; refine ⟨_, rfl, ?_⟩; have n0_ := Aside0.mk (blk_below (g := gb310) (o := .cells #[.int .i64 a0_0, .int .i64 a0_1, .slice A0_2 l0_2.length c0_2, .slice A0_3 l0_3.length c0_3] 34 (0, 0)) (by (with_reducible repeat (first | refine blk_drewN ?_ _ | refine blk_drew ?_ | refine blk_alloc ?_ _)); exact BK310.out) hb); have n1_ := Aside0.mk (blk_below (g := gb311) (o := .cells #[.int .i64 a1_0, .int .i64 a1_1, .slice A1_2 l1_2.length c1_2, .slice A1_3 l1_3.length c1_3] 34 (0, 0)) (by (with_reducible repeat (first | refine blk_drewN ?_ _ | refine blk_drew ?_ | refine blk_alloc ?_ _)); exact BK311.out) hb); have n2_ := Aside0.mk (below_step (by repeat (first | (with_reducible first | exact HB.out | apply below_alloc | apply pw_below_drewN | apply below_drew1 | refine below_set ?_ GE310.out | refine below_set ?_ GE311.out) | exact HB.out)) hb); clear BK310; clear BK311; clear HB; have BK310 := n0_; have BK311 := n1_; have HB := n2_; clear n0_ n1_ n2_; (try clear hb); (try clear hb2); (try clear hk); (try clear hi)))
  have H := HC13.out
  clear HC13
  by_cases c18 : t313 = true
  ·subst c18
   have H1 : ((laws_eqGroupS.f k l0_3 l1_3).bind fun t314 => (if t314 = true then (some true) else (some false))) = some r := by rw [if_pos rfl] at H; exact H
   clear H
   have H := H1
   clear H1
   replace H := Option.bind_eq_some_iff.mp H
   obtain ⟨t314, A190, H⟩ := H
   replace H : (if t314 = true then (some true) else (some false)) = some r := H
   have A19 := Aside0.mk A190
   clear A190
   have HC20 := Aside0.mk H
   clear H
   have hnb21 := NB310_311.out
   have hnc21 := NB311_310.out
   have hcz22_0 : w17.cell? ⟨gb310, 0, none⟩ = some (.int .i64 a0_0) := (blk_cell BK310.out 0).trans rfl
   have hcz22_1 : w17.cell? ⟨gb310, 1, none⟩ = some (.int .i64 a0_1) := (blk_cell BK310.out 1).trans rfl
   have hcz22_2 : w17.cell? ⟨gb310, 2, none⟩ = some (.slice A0_2 l0_2.length c0_2) := (blk_cell BK310.out 2).trans rfl
   have hcz22_3 : w17.cell? ⟨gb310, 3, none⟩ = some (.slice A0_3 l0_3.length c0_3) := (blk_cell BK310.out 3).trans rfl
   have hfz22_0 := blk_frozen BK310.out 0
   have hfz22_1 := blk_frozen BK310.out 1
   have hfz22_2 := blk_frozen BK310.out 2
   have hfz22_3 := blk_frozen BK310.out 3
   have hcz23_0 : w17.cell? ⟨gb311, 0, none⟩ = some (.int .i64 a1_0) := (blk_cell BK311.out 0).trans rfl
   have hcz23_1 : w17.cell? ⟨gb311, 1, none⟩ = some (.int .i64 a1_1) := (blk_cell BK311.out 1).trans rfl
   have hcz23_2 : w17.cell? ⟨gb311, 2, none⟩ = some (.slice A1_2 l1_2.length c1_2) := (blk_cell BK311.out 2).trans rfl
   have hcz23_3 : w17.cell? ⟨gb311, 3, none⟩ = some (.slice A1_3 l1_3.length c1_3) := (blk_cell BK311.out 3).trans rfl
   have hfz23_0 := blk_frozen BK311.out 0
   have hfz23_1 := blk_frozen BK311.out 1
   have hfz23_2 := blk_frozen BK311.out 2
   have hfz23_3 := blk_frozen BK311.out 3
   go_upto_if 22 with (first | ((with_reducible refine gate_callee (f := 79) rfl ?_); refine goesL_ (some 21) rfl rfl Try.func79 (by kernel_rfl) rfl #[.slice A0_3 l0_3.length c0_3, .slice A1_3 l1_3.length c1_3] rfl (by (try simp only [List.map_toArray, List.map_cons, List.map_nil]); first | done | rfl | (simp only [List.length_drop, List.length_take]; rfl)) ?_; (with_reducible refine (laws_eqGroupS.calls k _ _ l0_3 _ _ l1_3 t314 _ ?side1 ?side2 ?side3 ?side4 A19.out).mono ?_); (case side1 => repeat (first | exact (Kd.C_below HR0_3.out HB.out) | (with_reducible refine Kd.C_alloc ?_ _) | (with_reducible refine Kd.C_drewN ?_ _) | (with_reducible refine Kd.C_drew ?_))); (case side2 => exact HC0_3.out); (case side3 => repeat (first | exact (Kd.C_below HR1_3.out HB.out) | (with_reducible refine Kd.C_alloc ?_ _) | (with_reducible refine Kd.C_drewN ?_ _) | (with_reducible refine Kd.C_drew ?_))); (case side4 => exact HC1_3.out); rintro e w24 ⟨rfl, hb⟩; refine ⟨_, rfl, ?_⟩; have n0_ := Aside0.mk (blk_below (g := gb310) (o := .cells #[.int .i64 a0_0, .int .i64 a0_1, .slice A0_2 l0_2.length c0_2, .slice A0_3 l0_3.length c0_3] 34 (0, 0)) (by (with_reducible repeat (first | refine blk_drewN ?_ _ | refine blk_drew ?_ | refine blk_alloc ?_ _)); exact BK310.out) hb); have n1_ := Aside0.mk (blk_below (g := gb311) (o := .cells #[.int .i64 a1_0, .int .i64 a1_1, .slice A1_2 l1_2.length c1_2, .slice A1_3 l1_3.length c1_3] 34 (0, 0)) (by (with_reducible repeat (first | refine blk_drewN ?_ _ | refine blk_drew ?_ | refine blk_alloc ?_ _)); exact BK311.out) hb); have n2_ := Aside0.mk (below_step (by repeat (first | (with_reducible first | exact HB.out | apply below_alloc | apply pw_below_drewN | apply below_drew1 | refine below_set ?_ GE310.out | refine below_set ?_ GE311.out) | exact HB.out)) hb); clear BK310; clear BK311; clear HB; have BK310 := n0_; have BK311 := n1_; have HB := n2_; clear n0_ n1_ n2_; (try clear hb); (try clear hb2); (try clear hk); (try clear hi)))
   have H := HC20.out
   clear HC20
   by_cases c25 : t314 = true
   ·subst c25
    have H1 : (some true) = some r := by rw [if_pos rfl] at H; exact H
    clear H
    have H := H1
    clear H1
    obtain rfl := Option.some.inj H
    go_wp2
    go_ret
    exact ⟨by first | rfl | (simp [errW_none, errW_some] <;> rfl) | (simp [*, errW_none, errW_some] <;> rfl), by repeat (first | (with_reducible first | exact HB.out | apply below_alloc | apply pw_below_drewN | apply below_drew1 | refine below_set ?_ GE310.out | refine below_set ?_ GE311.out) | exact HB.out)⟩
   ·replace c25 := Bool.eq_false_iff.mpr c25
    subst c25
    have H1 : (some false) = some r := by rw [if_neg (show ¬ (false = true) by decide)] at H; exact H
    clear H
    have H := H1
    clear H1
    obtain rfl := Option.some.inj H
    go_wp2
    go_ret
    exact ⟨by first | rfl | (simp [errW_none, errW_some] <;> rfl) | (simp [*, errW_none, errW_some] <;> rfl), by repeat (first | (with_reducible first | exact HB.out | apply below_alloc | apply pw_below_drewN | apply below_drew1 | refine below_set ?_ GE310.out | refine below_set ?_ GE311.out) | exact HB.out)⟩
  ·replace c18 := Bool.eq_false_iff.mpr c18
   subst c18
   have H1 : (some false) = some r := by rw [if_neg (show ¬ (false = true) by decide)] at H; exact H
   clear H
   have H := H1
   clear H1
   obtain rfl := Option.some.inj H
   go_wp2
   go_ret
   exact ⟨by first | rfl | (simp [errW_none, errW_some] <;> rfl) | (simp [*, errW_none, errW_some] <;> rfl), by repeat (first | (with_reducible first | exact HB.out | apply below_alloc | apply pw_below_drewN | apply below_drew1 | refine below_set ?_ GE310.out | refine below_set ?_ GE311.out) | exact HB.out)⟩
 ·replace c11 := Bool.eq_false_iff.mpr c11
  subst c11
  have H1 : (some false) = some r := by rw [if_neg (show ¬ (false = true) by decide)] at H; exact H
  clear H
  have H := H1
  clear H1
  obtain rfl := Option.some.inj H
  go_wp2
  go_ret
  exact ⟨by first | rfl | (simp [errW_none, errW_some] <;> rfl) | (simp [*, errW_none, errW_some] <;> rfl), by repeat (first | (with_reducible first | exact HB.out | apply below_alloc | apply pw_below_drewN | apply below_drew1 | refine below_set ?_ GE310.out | refine below_set ?_ GE311.out) | exact HB.out)⟩
end Go.Proofs.Ytofiljboaegekaa.PFnExactStreamOk
namespace Go.Proofs.Ytofiljboaegekaa.PFnExactStreamOk
open Go.RowKit Go.Proofs.YtofiljboaegekaaW.PrintWords Go.Proofs.YtofiljboaegekaaW.PrintLast Go.Proofs.YtofiljboaegekaaW.PrintMore Go.Proofs.Ytofiljboaegekaa.Reg
attribute [local go_sem] run_store_v max2_int min2_int max_two min_two max_three min_three max_four min_four
set_option linter.unusedVariables false
set_option linter.unusedSimpArgs false
def laws_FnExactStreamOk.f (k : Nat) (a0_0 : Int) (a0_1 : Int) (l0_2 : List (S163)) (l0_3 : List (S167)) : Option (Bool) := (laws_szStream.f k a0_0 a0_1 l0_2 l0_3 1048576).bind fun t316 => (if t316 < 0 then (some true) else ((laws_toStream.f k a0_0 a0_1 l0_2 l0_3).bind fun bt317 => ((spec_StreamOk.f k bt317.1 bt317.2.1 bt317.2.2.1 bt317.2.2.2).bind fun t325 => ((laws_toStream.f k a0_0 a0_1 l0_2 l0_3).bind fun bt326 => ((impl_StreamOk.f k bt326.1 bt326.2.1 bt326.2.2.1 bt326.2.2.2).bind fun t335 => (if (t335 != t325) = true then (some false) else ((laws_toStream.f k a0_0 a0_1 l0_2 l0_3).bind fun bt336 => ((laws_eqStream.f k bt326.1 bt326.2.1 bt326.2.2.1 bt326.2.2.2 bt336.1 bt336.2.1 bt336.2.2.1 bt336.2.2.2).bind fun t344 => (if t344 = true then (some true) else (some false))))))))))
set_option maxHeartbeats 8000000 in
set_option maxRecDepth 100000 in
theorem laws_FnExactStreamOk.calls (k : Nat) (a0_0 : Int) (a0_1 : Int) (A0_2 : Option Addr) (c0_2 : Nat) (l0_2 : List (S163)) (A0_3 : Option Addr) (c0_3 : Nat) (l0_3 : List (S167)) (r : Bool) (w : World) (hr0_2 : Kd.C k163 w A0_2 l0_2.length l0_2) (hc0_2 : l0_2.length ≤ c0_2) (hr0_3 : Kd.C k167 w A0_3 l0_3.length l0_3) (hc0_3 : l0_3.length ≤ c0_3) (h : laws_FnExactStreamOk.f k a0_0 a0_1 l0_2 l0_3 = some r) :
  Calls Try.prog 3 #[.agg #[.int .i64 a0_0, .int .i64 a0_1, .slice A0_2 l0_2.length c0_2, .slice A0_3 l0_3.length c0_3]] w fun e w' => e = .returned (.bool r) ∧ Below w.heap.size w w' := by
 have hu27 := Try.underlying27
 have hu34 := Try.underlying34
 have HR0_2 := Aside0.mk hr0_2
 have HC0_2 := Aside0.mk hc0_2
 clear hr0_2 hc0_2
 have HR0_3 := Aside0.mk hr0_3
 have HC0_3 := Aside0.mk hc0_3
 clear hr0_3 hc0_3
 have HB := Aside0.mk (Below.refl w.heap.size w)
 have H : ((laws_szStream.f k a0_0 a0_1 l0_2 l0_3 1048576).bind fun t316 => (if t316 < 0 then (some true) else ((laws_toStream.f k a0_0 a0_1 l0_2 l0_3).bind fun bt317 => ((spec_StreamOk.f k bt317.1 bt317.2.1 bt317.2.2.1 bt317.2.2.2).bind fun t325 => ((laws_toStream.f k a0_0 a0_1 l0_2 l0_3).bind fun bt326 => ((impl_StreamOk.f k bt326.1 bt326.2.1 bt326.2.2.1 bt326.2.2.2).bind fun t335 => (if (t335 != t325) = true then (some false) else ((laws_toStream.f k a0_0 a0_1 l0_2 l0_3).bind fun bt336 => ((laws_eqStream.f k bt326.1 bt326.2.1 bt326.2.2.1 bt326.2.2.2 bt336.1 bt336.2.1 bt336.2.2.1 bt336.2.2.2).bind fun t344 => (if t344 = true then (some true) else (some false))))))))))) = some r := h
 clear h
 replace H := Option.bind_eq_some_iff.mp H
 obtain ⟨t316, A20, H⟩ := H
 replace H : (if t316 < 0 then (some true) else ((laws_toStream.f k a0_0 a0_1 l0_2 l0_3).bind fun bt317 => ((spec_StreamOk.f k bt317.1 bt317.2.1 bt317.2.2.1 bt317.2.2.2).bind fun t325 => ((laws_toStream.f k a0_0 a0_1 l0_2 l0_3).bind fun bt326 => ((impl_StreamOk.f k bt326.1 bt326.2.1 bt326.2.2.1 bt326.2.2.2).bind fun t335 => (if (t335 != t325) = true then (some false) else ((laws_toStream.f k a0_0 a0_1 l0_2 l0_3).bind fun bt336 => ((laws_eqStream.f k bt326.1 bt326.2.1 bt326.2.2.1 bt326.2.2.2 bt336.1 bt336.2.1 bt336.2.2.1 bt336.2.2.2).bind fun t344 => (if t344 = true then (some true) else (some false)))))))))) = some r := H
 have A2 := Aside0.mk A20
 clear A20
 have HC3 := Aside0.mk H
 clear H
 go_enter Try.func3, Try.ntmps3
 go_upto_if 11 with (first | ((with_reducible refine gate_dst (N := 1) rfl ?_); refine box_event ?hg (N := 1) ?hd (cs := #[.int .i64 a0_0, .int .i64 a0_1, .slice A0_2 l0_2.length c0_2, .slice A0_3 l0_3.length c0_3]) (t := 27) ?hr ?_; (case hd => rfl); (case hg => rfl); (case hr => first | (go_simp; done) | (go_simp; rfl)); intro gb315 hg w4 hbox hb; have n0_ := Aside0.mk (below_step (by repeat (first | (with_reducible first | exact HB.out | apply below_alloc | apply pw_below_drewN | apply below_drew1) | exact HB.out)) hb); have n1_ := Aside0.mk (hbox); have n2_ := Aside0.mk ((by rw [hg]; exact (below_size (by repeat (first | (with_reducible first | exact HB.out | apply below_alloc | apply pw_below_drewN | apply below_drew1) | exact HB.out))) : w.heap.size ≤ gb315)); have n3_ := Aside0.mk ((by rw [hg]; exact (below_size (by repeat (first | (with_reducible first | exact HB.out | apply below_alloc | apply pw_below_drewN | apply below_drew1) | exact HB.out))) : w.heap.size ≤ gb315)); clear HB; have HB := n0_; have BK315 := n1_; have GW315 := n2_; have GE315 := n3_; clear n0_ n1_ n2_ n3_; clear hb hbox hg; have hcz5_0 : w4.cell? ⟨gb315, 0, none⟩ = some (.int .i64 a0_0) := (blk_cell BK315.out 0).trans rfl; have hcz5_1 : w4.cell? ⟨gb315, 1, none⟩ = some (.int .i64 a0_1) := (blk_cell BK315.out 1).trans rfl; have hcz5_2 : w4.cell? ⟨gb315, 2, none⟩ = some (.slice A0_2 l0_2.length c0_2) := (blk_cell BK315.out 2).trans rfl; have hcz5_3 : w4.cell? ⟨gb315, 3, none⟩ = some (.slice A0_3 l0_3.length c0_3) := (blk_cell BK315.out 3).trans rfl; have hfz5_0 := blk_frozen BK315.out 0; have hfz5_1 := blk_frozen BK315.out 1; have hfz5_2 := blk_frozen BK315.out 2; have hfz5_3 := blk_frozen BK315.out 3) | ((with_reducible refine gate_callee (f := 15) rfl ?_); refine goesL_ (some 9) rfl rfl Try.func15 (by kernel_rfl) rfl #[.agg #[.int .i64 a0_0, .int .i64 a0_1, .slice A0_2 l0_2.length c0_2, .slice A0_3 l0_3.length c0_3], .int .i64 1048576] rfl (by (try simp only [List.map_toArray, List.map_cons, List.map_nil]); first | done | rfl | (simp only [List.length_drop, List.length_take]; rfl)) ?_; (with_reducible refine (laws_szStream.calls k a0_0 a0_1 _ _ l0_2 _ _ l0_3 1048576 t316 _ ?side1 ?side2 ?side3 ?side4 A2.out).mono ?_); (case side1 => repeat (first | exact (Kd.C_below HR0_2.out HB.out) | (with_reducible refine Kd.C_alloc ?_ _) | (with_reducible refine Kd.C_drewN ?_ _) | (with_reducible refine Kd.C_drew ?_))); (case side2 => exact HC0_2.out); (case side3 => repeat (first | exact (Kd.C_below HR0_3.out HB.out) | (with_reducible refine Kd.C_alloc ?_ _) | (with_reducible refine Kd.C_drewN ?_ _) | (with_reducible refine Kd.C_drew ?_))); (case side4 => exact HC0_3.out); rintro e w6 ⟨rfl, hb⟩; refine ⟨_, rfl, ?_⟩; have n0_ := Aside0.mk (blk_below (g := gb315) (o := .cells #[.int .i64 a0_0, .int .i64 a0_1, .slice A0_2 l0_2.length c0_2, .slice A0_3 l0_3.length c0_3] 27 (0, 0)) (by (with_reducible repeat (first | refine blk_drewN ?_ _ | refine blk_drew ?_ | refine blk_alloc ?_ _)); exact BK315.out) hb); have n1_ := Aside0.mk (below_step (by repeat (first | (with_reducible first | exact HB.out | apply below_alloc | apply pw_below_drewN | apply below_drew1 | refine below_set ?_ GE315.out) | exact HB.out)) hb); clear BK315; clear HB; have BK315 := n0_; have HB := n1_; clear n0_ n1_; (try clear hb); (try clear hb2); (try clear hk); (try clear hi)))
 have H := HC3.out
 clear HC3
 by_cases c7 : t316 < 0
 ·rw [if_pos c7] at H
  have c7b0 : decide (t316 < 0) = true := decide_eq_true c7
  clear c7
  (first | rw [c7b0] | rw [c7b1] | (simp only [i64_w, i32_w]; rw [c7b0]) | rw [c7b2] | skip)
  obtain rfl := Option.some.inj H
  go_wp2
  go_ret
  exact ⟨by first | rfl | (simp [errW_none, errW_some] <;> rfl) | (simp [*, errW_none, errW_some] <;> rfl), by repeat (first | (with_reducible first | exact HB.out | apply below_alloc | apply pw_below_drewN | apply below_drew1 | refine below_set ?_ GE315.out) | exact HB.out)⟩
 ·rw [if_neg c7] at H
  have c7b0 : decide (t316 < 0) = false := decide_eq_false c7
  clear c7
  (first | rw [c7b0] | rw [c7b1] | (simp only [i64_w, i32_w]; rw [c7b0]) | rw [c7b2] | skip)
  replace H := Option.bind_eq_some_iff.mp H
  obtain ⟨⟨t317, t318, t319, t322⟩, A80, H⟩ := H
  replace H : ((spec_StreamOk.f k t317 t318 t319 t322).bind fun t325 => ((laws_toStream.f k a0_0 a0_1 l0_2 l0_3).bind fun bt326 => ((impl_StreamOk.f k bt326.1 bt326.2.1 bt326.2.2.1 bt326.2.2.2).bind fun t335 => (if (t335 != t325) = true then (some false) else ((laws_toStream.f k a0_0 a0_1 l0_2 l0_3).bind fun bt336 => ((laws_eqStream.f k bt326.1 bt326.2.1 bt326.2.2.1 bt326.2.2.2 bt336.1 bt336.2.1 bt336.2.2.1 bt336.2.2.2).bind fun t344 => (if t344 = true then (some true) else (some false)))))))) = some r := H
  have A8 := Aside0.mk A80
  clear A80
  replace H := Option.bind_eq_some_iff.mp H
  obtain ⟨t325, A90, H⟩ := H
  replace H : ((laws_toStream.f k a0_0 a0_1 l0_2 l0_3).bind fun bt326 => ((impl_StreamOk.f k bt326.1 bt326.2.1 bt326.2.2.1 bt326.2.2.2).bind fun t335 => (if (t335 != t325) = true then (some false) else ((laws_toStream.f k a0_0 a0_1 l0_2 l0_3).bind fun bt336 => ((laws_eqStream.f k bt326.1 bt326.2.1 bt326.2.2.1 bt326.2.2.2 bt336.1 bt336.2.1 bt336.2.2.1 bt336.2.2.2).bind fun t344 => (if t344 = true then (some true) else (some false))))))) = some r := H
  have A9 := Aside0.mk A90
  clear A90
  replace H := Option.bind_eq_some_iff.mp H
  obtain ⟨⟨t326, t327, t328, t331⟩, A100, H⟩ := H
  replace H : ((impl_StreamOk.f k t326 t327 t328 t331).bind fun t335 => (if (t335 != t325) = true then (some false) else ((laws_toStream.f k a0_0 a0_1 l0_2 l0_3).bind fun bt336 => ((laws_eqStream.f k t326 t327 t328 t331 bt336.1 bt336.2.1 bt336.2.2.1 bt336.2.2.2).bind fun t344 => (if t344 = true then (some true) else (some false)))))) = some r := H
  have A10 := Aside0.mk A100
  clear A100
  replace H := Option.bind_eq_some_iff.mp H
  obtain ⟨t335, A110, H⟩ := H
  replace H : (if (t335 != t325) = true then (some false) else ((laws_toStream.f k a0_0 a0_1 l0_2 l0_3).bind fun bt336 => ((laws_eqStream.f k t326 t327 t328 t331 bt336.1 bt336.2.1 bt336.2.2.1 bt336.2.2.2).bind fun t344 => (if t344 = true then (some true) else (some false))))) = some r := H
  have A11 := Aside0.mk A110
  clear A110
  have HC12 := Aside0.mk H
  clear H
  have hcz13_0 : w6.cell? ⟨gb315, 0, none⟩ = some (.int .i64 a0_0) := (blk_cell BK315.out 0).trans rfl
  have hcz13_1 : w6.cell? ⟨gb315, 1, none⟩ = some (.int .i64 a0_1) := (blk_cell BK315.out 1).trans rfl
  have hcz13_2 : w6.cell? ⟨gb315, 2, none⟩ = some (.slice A0_2 l0_2.length c0_2) := (blk_cell BK315.out 2).trans rfl
  have hcz13_3 : w6.cell? ⟨gb315, 3, none⟩ = some (.slice A0_3 l0_3.length c0_3) := (blk_cell BK315.out 3).trans rfl
  have hfz13_0 := blk_frozen BK315.out 0
  have hfz13_1 := blk_frozen BK315.out 1
  have hfz13_2 := blk_frozen BK315.out 2
  have hfz13_3 := blk_frozen BK315.out 3
  go_upto_if 21 with (first | ((with_reducible refine gate_callee (f := 17) rfl ?_); refine goesL_ (some 13) rfl rfl Try.func17 (by kernel_rfl) rfl #[.agg #[.int .i64 a0_0, .int .i64 a0_1, .slice A0_2 l0_2.length c0_2, .slice A0_3 l0_3.length c0_3]] rfl (by (try simp only [List.map_toArray, List.map_cons, List.map_nil]); first | done | rfl | (simp only [List.length_drop, List.length_take]; rfl)) ?_; (with_reducible refine (laws_toStream.calls k a0_0 a0_1 _ _ l0_2 _ _ l0_3 t317 t318 t319 t322 _ ?side1 ?side2 ?side3 ?side4 A8.out).mono ?_); (case side1 => repeat (first | exact (Kd.C_below HR0_2.out HB.out) | (with_reducible refine Kd.C_alloc ?_ _) | (with_reducible refine Kd.C_drewN ?_ _) | (with_reducible refine Kd.C_drew ?_))); (case side2 => exact HC0_2.out); (case side3 => repeat (first | exact (Kd.C_below HR0_3.out HB.out) | (with_reducible refine Kd.C_alloc ?_ _) | (with_reducible refine Kd.C_drewN ?_ _) | (with_reducible refine Kd.C_drew ?_))); (case side4 => exact HC0_3.out); rintro e w14 ⟨v320, v323, rfl, ho0, ho1, hb⟩; refine ⟨_, rfl, ?_⟩; (try have hone_ := (Kd.R_val ho0).2); have n0_ := Aside0.mk (Kd.S_lower ho0 (below_size (by repeat (first | (with_reducible first | exact HB.out | apply below_alloc | apply pw_below_drewN | apply below_drew1 | refine below_set ?_ GE315.out) | exact HB.out)))); have n1_ := Aside0.mk (Kd.S_lower ho1 (below_size (by repeat (first | (with_reducible first | exact HB.out | apply below_alloc | apply pw_below_drewN | apply below_drew1 | refine below_set ?_ GE315.out) | exact HB.out)))); have n2_ := Aside0.mk (blk_below (g := gb315) (o := .cells #[.int .i64 a0_0, .int .i64 a0_1, .slice A0_2 l0_2.length c0_2, .slice A0_3 l0_3.length c0_3] 27 (0, 0)) (by (with_reducible repeat (first | refine blk_drewN ?_ _ | refine blk_drew ?_ | refine blk_alloc ?_ _)); exact BK315.out) hb); have n3_ := Aside0.mk (below_step (by repeat (first | (with_reducible first | exact HB.out | apply below_alloc | apply pw_below_drewN | apply below_drew1 | refine below_set ?_ GE315.out) | exact HB.out)) hb); clear BK315; clear HB; have HO321 := n0_; have HO324 := n1_; have BK315 := n2_; have HB := n3_; clear n0_ n1_ n2_ n3_; (try clear hb); (try clear hb2); (try clear hk); (try clear hi); (try clear ho0); (try clear ho1); obtain ⟨Ao15, co15, eo15⟩ := Kd.S_slice HO321.out; subst eo15; obtain ⟨Ao16, co16, eo16⟩ := Kd.S_slice HO324.out; subst eo16) | ((with_reducible refine gate_callee (f := 16) rfl ?_); refine goesL_ (some 14) rfl rfl Try.func16 (by kernel_rfl) rfl #[.agg #[.int .i64 t317, .int .i64 t318, .slice Ao15 t319.length co15, .slice Ao16 t322.length co16]] rfl (by (try simp only [List.map_toArray, List.map_cons, List.map_nil]); first | done | rfl | (simp only [List.length_drop, List.length_take]; rfl)) ?_; (with_reducible refine (spec_StreamOk.calls k t317 t318 _ _ t319 _ _ t322 t325 _ ?side1 ?side2 ?side3 ?side4 A9.out).mono ?_); (case side1 => repeat (first | exact (Kd.S_reads' HO321.out).2.2 | (with_reducible refine Kd.C_alloc ?_ _) | (with_reducible refine Kd.C_drewN ?_ _) | (with_reducible refine Kd.C_drew ?_))); (case side2 => exact (Kd.S_reads' HO321.out).2.1); (case side3 => repeat (first | exact (Kd.S_reads' HO324.out).2.2 | (with_reducible refine Kd.C_alloc ?_ _) | (with_reducible refine Kd.C_drewN ?_ _) | (with_reducible refine Kd.C_drew ?_))); (case side4 => exact (Kd.S_reads' HO324.out).2.1); rintro e w17 ⟨rfl, hb⟩; refine ⟨_, rfl, ?_⟩; have n0_ := Aside0.mk (Kd.S_below (by (with_reducible repeat (first | apply Kd.S_alloc | apply Kd.S_drewN | apply Kd.S_drew)); exact HO321.out) hb); have n1_ := Aside0.mk (Kd.S_below (by (with_reducible repeat (first | apply Kd.S_alloc | apply Kd.S_drewN | apply Kd.S_drew)); exact HO324.out) hb); have n2_ := Aside0.mk (blk_below (g := gb315) (o := .cells #[.int .i64 a0_0, .int .i64 a0_1, .slice A0_2 l0_2.length c0_2, .slice A0_3 l0_3.length c0_3] 27 (0, 0)) (by (with_reducible repeat (first | refine blk_drewN ?_ _ | refine blk_drew ?_ | refine blk_alloc ?_ _)); exact BK315.out) hb); have n3_ := Aside0.mk (below_step (by repeat (first | (with_reducible first | exact HB.out | apply below_alloc | apply pw_below_drewN | apply below_drew1 | refine below_set ?_ GE315.out) | exact HB.out)) hb); clear HO321; clear HO324; clear BK315; clear HB; have HO321 := n0_; have HO324 := n1_; have BK315 := n2_; have HB := n3_; clear n0_ n1_ n2_ n3_; (try clear hb); (try clear hb2); (try clear hk); (try clear hi); have hcz18_0 : w17.cell? ⟨gb315, 0, none⟩ = some (.int .i64 a0_0) := (blk_cell BK315.out 0).trans rfl; have hcz18_1 : w17.cell? ⟨gb315, 1, none⟩ = some (.int .i64 a0_1) := (blk_cell BK315.out 1).trans rfl; have hcz18_2 : w17.cell? ⟨gb315, 2, none⟩ = some (.slice A0_2 l0_2.length c0_2) := (blk_cell BK315.out 2).trans rfl; have hcz18_3 : w17.cell? ⟨gb315, 3, none⟩ = some (.slice A0_3 l0_3.length c0_3) := (blk_cell BK315.out 3).trans rfl; have hfz18_0 := blk_frozen BK315.out 0; have hfz18_1 := blk_frozen BK315.out 1; have hfz18_2 := blk_frozen BK315.out 2; have hfz18_3 := blk_frozen BK315.out 3) | ((with_reducible refine gate_callee (f := 17) rfl ?_); refine goesL_ (some 16) rfl rfl Try.func17 (by kernel_rfl) rfl #[.agg #[.int .i64 a0_0, .int .i64 a0_1, .slice A0_2 l0_2.length c0_2, .slice A0_3 l0_3.length c0_3]] rfl (by (try simp only [List.map_toArray, List.map_cons, List.map_nil]); first | done | rfl | (simp only [List.length_drop, List.length_take]; rfl)) ?_; (with_reducible refine (laws_toStream.calls k a0_0 a0_1 _ _ l0_2 _ _ l0_3 t326 t327 t328 t331 _ ?side1 ?side2 ?side3 ?side4 A10.out).mono ?_); (case side1 => repeat (first | exact (Kd.C_below HR0_2.out HB.out) | (with_reducible refine Kd.C_alloc ?_ _) | (with_reducible refine Kd.C_drewN ?_ _) | (with_reducible refine Kd.C_drew ?_))); (case side2 => exact HC0_2.out); (case side3 => repeat (first | exact (Kd.C_below HR0_3.out HB.out) | (with_reducible refine Kd.C_alloc ?_ _) | (with_reducible refine Kd.C_drewN ?_ _) | (with_reducible refine Kd.C_drew ?_))); (case side4 => exact HC0_3.out); rintro e w19 ⟨v329, v332, rfl, ho0, ho1, hb⟩; refine ⟨_, rfl, ?_⟩; (try have hone_ := (Kd.R_val ho0).2); have n0_ := Aside0.mk (Kd.S_elder' (by (with_reducible repeat (first | apply Kd.S_alloc | apply Kd.S_drewN | apply Kd.S_drew)); exact HO321.out) (Kd.S_base ho0) hb); have n1_ := Aside0.mk (Kd.S_elder' (by (with_reducible repeat (first | apply Kd.S_alloc | apply Kd.S_drewN | apply Kd.S_drew)); exact HO324.out) (Kd.S_base ho1) hb); have n2_ := Aside0.mk (Kd.S_lower (Kd.S_new' ho0 (Kd.S_lt (by (with_reducible repeat (first | apply Kd.S_alloc | apply Kd.S_drewN | apply Kd.S_drew)); exact HO321.out))) (below_size (by repeat (first | (with_reducible first | exact HB.out | apply below_alloc | apply pw_below_drewN | apply below_drew1 | refine below_set ?_ GE315.out) | exact HB.out)))); have n3_ := Aside0.mk (Kd.S_lower (Kd.S_new' ho1 (Kd.S_lt (by (with_reducible repeat (first | apply Kd.S_alloc | apply Kd.S_drewN | apply Kd.S_drew)); exact HO324.out))) (below_size (by repeat (first | (with_reducible first | exact HB.out | apply below_alloc | apply pw_below_drewN | apply below_drew1 | refine below_set ?_ GE315.out) | exact HB.out)))); have n4_ := Aside0.mk (blk_below (g := gb315) (o := .cells #[.int .i64 a0_0, .int .i64 a0_1, .slice A0_2 l0_2.length c0_2, .slice A0_3 l0_3.length c0_3] 27 (0, 0)) (by (with_reducible repeat (first | refine blk_drewN ?_ _ | refine blk_drew ?_ | refine blk_alloc ?_ _)); exact BK315.out) hb); have n5_ := Aside0.mk (below_step (by repeat (first | (with_reducible first | exact HB.out | apply below_alloc | apply pw_below_drewN | apply below_drew1 | refine below_set ?_ GE315.out) | exact HB.out)) hb); clear HO321; clear HO324; clear BK315; clear HB; have HO321 := n0_; have HO324 := n1_; have HO330 := n2_; have HO333 := n3_; have BK315 := n4_; have HB := n5_; clear n0_ n1_ n2_ n3_ n4_ n5_; (try clear hb); (try clear hb2); (try clear hk); (try clear hi); (try clear ho0); (try clear ho1)) | ((with_reducible refine gate_dst (N := 5) rfl ?_); refine box_event ?hg (N := 5) ?hd (cs := #[.int .i64 0, .int .i64 0, .slice none 0 0, .slice none 0 0]) (t := 34) ?hr ?_; (case hd => rfl); (case hg => rfl); (case hr => first | (go_simp; done) | (go_simp; rfl)); intro gb334 hg w20 hbox hb; have n0_ := Aside0.mk (Kd.S_below (by (with_reducible repeat (first | apply Kd.S_alloc | apply Kd.S_drewN | apply Kd.S_drew)); exact HO321.out) hb); have n1_ := Aside0.mk (Kd.S_below (by (with_reducible repeat (first | apply Kd.S_alloc | apply Kd.S_drewN | apply Kd.S_drew)); exact HO324.out) hb); have n2_ := Aside0.mk (Kd.S_below (by (with_reducible repeat (first | apply Kd.S_alloc | apply Kd.S_drewN | apply Kd.S_drew)); exact HO330.out) hb); have n3_ := Aside0.mk (Kd.S_below (by (with_reducible repeat (first | apply Kd.S_alloc | apply Kd.S_drewN | apply Kd.S_drew)); exact HO333.out) hb); have n4_ := Aside0.mk (blk_below (g := gb315) (o := .cells #[.int .i64 a0_0, .int .i64 a0_1, .slice A0_2 l0_2.length c0_2, .slice A0_3 l0_3.length c0_3] 27 (0, 0)) (by (with_reducible repeat (first | refine blk_drewN ?_ _ | refine blk_drew ?_ | refine blk_alloc ?_ _)); exact BK315.out) hb); have n5_ := Aside0.mk (below_step (by repeat (first | (with_reducible first | exact HB.out | apply below_alloc | apply pw_below_drewN | apply below_drew1 | refine below_set ?_ GE315.out) | exact HB.out)) hb); have n6_ := Aside0.mk (hbox); have n7_ := Aside0.mk ((by rw [hg]; exact (below_size (by repeat (first | (with_reducible first | exact HB.out | apply below_alloc | apply pw_below_drewN | apply below_drew1 | refine below_set ?_ GE315.out) | exact HB.out))) : w.heap.size ≤ gb334)); have n8_ := Aside0.mk ((by rw [hg]; exact (below_size (by repeat (first | (with_reducible first | exact HB.out | apply below_alloc | apply pw_below_drewN | apply below_drew1 | refine below_set ?_ GE315.out) | exact HB.out))) : w.heap.size ≤ gb334)); have n9_ := Aside0.mk ((by rw [hg]; exact Nat.ne_of_lt (blk_lt (g := gb315) (o := .cells #[.int .i64 a0_0, .int .i64 a0_1, .slice A0_2 l0_2.length c0_2, .slice A0_3 l0_3.length c0_3] 27 (0, 0)) (by (with_reducible repeat (first | refine blk_drewN ?_ _ | refine blk_drew ?_ | refine blk_alloc ?_ _)); exact BK315.out)) : gb315 ≠ gb334)); have n10_ := Aside0.mk ((by rw [hg]; exact Nat.ne_of_gt (blk_lt (g := gb315) (o := .cells #[.int .i64 a0_0, .int .i64 a0_1, .slice A0_2 l0_2.length c0_2, .slice A0_3 l0_3.length c0_3] 27 (0, 0)) (by (with_reducible repeat (first | refine blk_drewN ?_ _ | refine blk_drew ?_ | refine blk_alloc ?_ _)); exact BK315.out)) : gb334 ≠ gb315)); clear HO321; clear HO324; clear HO330; clear HO333; clear BK315; clear HB; have HO321 := n0_; have HO324 := n1_; have HO330 := n2_; have HO333 := n3_; have BK315 := n4_; have HB := n5_; have BK334 := n6_; have GW334 := n7_; have GE334 := n8_; have NB315_334 := n9_; have NB334_315 := n10_; clear n0_ n1_ n2_ n3_ n4_ n5_ n6_ n7_ n8_ n9_ n10_; clear hb hbox hg; have hnb21 := NB334_315.out; have hnc21 := NB315_334.out; have hcz22_0 : w20.cell? ⟨gb334, 0, none⟩ = some (.int .i64 0) := (blk_cell BK334.out 0).trans rfl; have hcz22_1 : w20.cell? ⟨gb334, 1, none⟩ = some (.int .i64 0) := (blk_cell BK334.out 1).trans rfl; have hcz22_2 : w20.cell? ⟨gb334, 2, none⟩ = some (.slice none 0 0) := (blk_cell BK334.out 2).trans rfl; have hcz22_3 : w20.cell? ⟨gb334, 3, none⟩ = some (.slice none 0 0) := (blk_cell BK334.out 3).trans rfl; have hfz22_0 := blk_frozen BK334.out 0; have hfz22_1 := blk_frozen BK334.out 1; have hfz22_2 := blk_frozen BK334.out 2; have hfz22_3 := blk_frozen BK334.out 3; obtain ⟨Ao23, co23, eo23⟩ := Kd.S_slice HO330.out; subst eo23; obtain ⟨Ao24, co24, eo24⟩ := Kd.S_slice HO333.out; subst eo24) | ((with_reducible refine gate_callee (f := 18) rfl ?_); refine goesL_ (some 18) rfl rfl Try.func18 (by kernel_rfl) rfl #[.agg #[.int .i64 t326, .int .i64 t327, .slice Ao23 t328.length co23, .slice Ao24 t331.length co24]] rfl (by (try simp only [List.map_toArray, List.map_cons, List.map_nil]); first | done | rfl | (simp only [List.length_drop, List.length_take]; rfl)) ?_; (with_reducible refine (impl_StreamOk.calls k t326 t327 _ _ t328 _ _ t331 t335 _ ?side1 ?side2 ?side3 ?side4 A11.out).mono ?_); (case side1 => refine (Kd.S_reads' (e := 66) (base := w.heap.size) (ok := fun k_ => (True ∧ some k_ ≠ (.slice Ao15 t319.length co15 : Value).ownBlock)) (n := t328.length) (c := co23) ?_).2.2; exact (by (with_reducible repeat (first | apply Kd.S_alloc | apply Kd.S_drewN | apply Kd.S_drew)); exact (Kd.S_mono (Kd.S_far (p := ⟨gb334, 3, none⟩) (Kd.S_far (p := ⟨gb334, 2, none⟩) (Kd.S_far (p := ⟨gb334, 1, none⟩) (Kd.S_far (p := ⟨gb334, 0, none⟩) (Kd.S_types HO330.out BK334.out (by decide)) (fun _ hk => hk.2) (.int .i64 t326)) (fun _ hk => hk.2) (.int .i64 t327)) (fun _ hk => hk.2) (.slice Ao23 t328.length co23)) (fun _ hk => hk.2) (.slice Ao24 t331.length co24)) (fun _ h_ => h_.1)))); (case side2 => exact (Kd.S_reads' HO330.out).2.1); (case side3 => refine (Kd.S_reads' (e := 107) (base := w.heap.size) (ok := fun k_ => (True ∧ some k_ ≠ (.slice Ao16 t322.length co16 : Value).ownBlock)) (n := t331.length) (c := co24) ?_).2.2; exact (by (with_reducible repeat (first | apply Kd.S_alloc | apply Kd.S_drewN | apply Kd.S_drew)); exact (Kd.S_mono (Kd.S_far (p := ⟨gb334, 3, none⟩) (Kd.S_far (p := ⟨gb334, 2, none⟩) (Kd.S_far (p := ⟨gb334, 1, none⟩) (Kd.S_far (p := ⟨gb334, 0, none⟩) (Kd.S_types HO333.out BK334.out (by decide)) (fun _ hk => hk.2) (.int .i64 t326)) (fun _ hk => hk.2) (.int .i64 t327)) (fun _ hk => hk.2) (.slice Ao23 t328.length co23)) (fun _ hk => hk.2) (.slice Ao24 t331.length co24)) (fun _ h_ => h_.1)))); (case side4 => exact (Kd.S_reads' HO333.out).2.1); rintro e w25 ⟨rfl, hb⟩; refine ⟨_, rfl, ?_⟩; have n0_ := Aside0.mk (Kd.S_below (by (with_reducible repeat (first | apply Kd.S_alloc | apply Kd.S_drewN | apply Kd.S_drew)); exact (Kd.S_mono (Kd.S_far (p := ⟨gb334, 3, none⟩) (Kd.S_far (p := ⟨gb334, 2, none⟩) (Kd.S_far (p := ⟨gb334, 1, none⟩) (Kd.S_far (p := ⟨gb334, 0, none⟩) (Kd.S_types HO321.out BK334.out (by decide)) (fun _ hk => hk.2) (.int .i64 t326)) (fun _ hk => hk.2) (.int .i64 t327)) (fun _ hk => hk.2) (.slice Ao23 t328.length co23)) (fun _ hk => hk.2) (.slice Ao24 t331.length co24)) (fun _ h_ => h_.1))) hb); have n1_ := Aside0.mk (Kd.S_below (by (with_reducible repeat (first | apply Kd.S_alloc | apply Kd.S_drewN | apply Kd.S_drew)); exact (Kd.S_mono (Kd.S_far (p := ⟨gb334, 3, none⟩) (Kd.S_far (p := ⟨gb334, 2, none⟩) (Kd.S_far (p := ⟨gb334, 1, none⟩) (Kd.S_far (p := ⟨gb334, 0, none⟩) (Kd.S_types HO324.out BK334.out (by decide)) (fun _ hk => hk.2) (.int .i64 t326)) (fun _ hk => hk.2) (.int .i64 t327)) (fun _ hk => hk.2) (.slice Ao23 t328.length co23)) (fun _ hk => hk.2) (.slice Ao24 t331.length co24)) (fun _ h_ => h_.1))) hb); have n2_ := Aside0.mk (Kd.S_below (by (with_reducible repeat (first | apply Kd.S_alloc | apply Kd.S_drewN | apply Kd.S_drew)); exact (Kd.S_mono (Kd.S_far (p := ⟨gb334, 3, none⟩) (Kd.S_far (p := ⟨gb334, 2, none⟩) (Kd.S_far (p := ⟨gb334, 1, none⟩) (Kd.S_far (p := ⟨gb334, 0, none⟩) (Kd.S_types HO330.out BK334.out (by decide)) (fun _ hk => hk.2) (.int .i64 t326)) (fun _ hk => hk.2) (.int .i64 t327)) (fun _ hk => hk.2) (.slice Ao23 t328.length co23)) (fun _ hk => hk.2) (.slice Ao24 t331.length co24)) (fun _ h_ => h_.1))) hb); have n3_ := Aside0.mk (Kd.S_below (by (with_reducible repeat (first | apply Kd.S_alloc | apply Kd.S_drewN | apply Kd.S_drew)); exact (Kd.S_mono (Kd.S_far (p := ⟨gb334, 3, none⟩) (Kd.S_far (p := ⟨gb334, 2, none⟩) (Kd.S_far (p := ⟨gb334, 1, none⟩) (Kd.S_far (p := ⟨gb334, 0, none⟩) (Kd.S_types HO333.out BK334.out (by decide)) (fun _ hk => hk.2) (.int .i64 t326)) (fun _ hk => hk.2) (.int .i64 t327)) (fun _ hk => hk.2) (.slice Ao23 t328.length co23)) (fun _ hk => hk.2) (.slice Ao24 t331.length co24)) (fun _ h_ => h_.1))) hb); have n4_ := Aside0.mk (blk_below (g := gb315) (o := .cells #[.int .i64 a0_0, .int .i64 a0_1, .slice A0_2 l0_2.length c0_2, .slice A0_3 l0_3.length c0_3] 27 (0, 0)) (by (with_reducible repeat (first | refine blk_drewN ?_ _ | refine blk_drew ?_ | refine blk_alloc ?_ _)); refine blk_far ?_ NB315_334.out _; (with_reducible repeat (first | refine blk_drewN ?_ _ | refine blk_drew ?_ | refine blk_alloc ?_ _)); refine blk_far ?_ NB315_334.out _; (with_reducible repeat (first | refine blk_drewN ?_ _ | refine blk_drew ?_ | refine blk_alloc ?_ _)); refine blk_far ?_ NB315_334.out _; (with_reducible repeat (first | refine blk_drewN ?_ _ | refine blk_drew ?_ | refine blk_alloc ?_ _)); refine blk_far ?_ NB315_334.out _; (with_reducible repeat (first | refine blk_drewN ?_ _ | refine blk_drew ?_ | refine blk_alloc ?_ _)); exact BK315.out) hb); have n5_ := Aside0.mk (blk_below (g := gb334) (o := .cells #[.int .i64 t326, .int .i64 t327, .slice Ao23 t328.length co23, .slice Ao24 t331.length co24] 34 (0, 0)) (by (with_reducible repeat (first | refine blk_drewN ?_ _ | refine blk_drew ?_ | refine blk_alloc ?_ _)); refine blk_put (cs := #[.int .i64 t326, .int .i64 t327, .slice Ao23 t328.length co23, .slice none 0 0]) ?_ 3 _ rfl; (with_reducible repeat (first | refine blk_drewN ?_ _ | refine blk_drew ?_ | refine blk_alloc ?_ _)); refine blk_put (cs := #[.int .i64 t326, .int .i64 t327, .slice none 0 0, .slice none 0 0]) ?_ 2 _ rfl; (with_reducible repeat (first | refine blk_drewN ?_ _ | refine blk_drew ?_ | refine blk_alloc ?_ _)); refine blk_put (cs := #[.int .i64 t326, .int .i64 0, .slice none 0 0, .slice none 0 0]) ?_ 1 _ rfl; (with_reducible repeat (first | refine blk_drewN ?_ _ | refine blk_drew ?_ | refine blk_alloc ?_ _)); refine blk_put (cs := #[.int .i64 0, .int .i64 0, .slice none 0 0, .slice none 0 0]) ?_ 0 _ rfl; (with_reducible repeat (first | refine blk_drewN ?_ _ | refine blk_drew ?_ | refine blk_alloc ?_ _)); exact BK334.out) hb); have n6_ := Aside0.mk (below_step (by repeat (first | (with_reducible first | exact HB.out | apply below_alloc | apply pw_below_drewN | apply below_drew1 | refine below_set ?_ GE315.out | refine below_set ?_ GE334.out) | exact HB.out)) hb); clear HO321; clear HO324; clear HO330; clear HO333; clear BK315; clear BK334; clear HB; have HO321 := n0_; have HO324 := n1_; have HO330 := n2_; have HO333 := n3_; have BK315 := n4_; have BK334 := n5_; have HB := n6_; clear n0_ n1_ n2_ n3_ n4_ n5_ n6_; (try clear hb); (try clear hb2); (try clear hk); (try clear hi)))
  have H := HC12.out
  clear HC12
  by_cases c26 : (t335 != t325) = true
  ·rw [if_pos c26] at H
   have c26b0 : (t335 != t325) = true := c26
   (try (have c26b1 : decide (t335 = t325) = false := by simpa using c26))
   (try (have c26b2 : (t335 == t325) = false := by simpa using c26))
   (try (have c26b3 : ¬ (t335 = t325) := by simpa using c26))
   clear c26
   (first | rw [c26b0] | rw [c26b1] | (simp only [i64_w, i32_w]; rw [c26b0]) | rw [c26b2] | skip)
   obtain rfl := Option.some.inj H
   go_wp2
   go_ret
   exact ⟨by first | rfl | (simp [errW_none, errW_some] <;> rfl) | (simp [*, errW_none, errW_some] <;> rfl), by repeat (first | (with_reducible first | exact HB.out | apply below_alloc | apply pw_below_drewN | apply below_drew1 | refine below_set ?_ GE315.out | refine below_set ?_ GE334.out) | exact HB.out)⟩
  ·rw [if_neg c26] at H
   have c26b0 : (t335 != t325) = false := by simpa using c26
   (try (have c26b1 : decide (t335 = t325) = true := by simpa using c26))
   (try (have c26b2 : (t335 == t325) = true := by simpa using c26))
   clear c26
   (first | rw [c26b0] | rw [c26b1] | (simp only [i64_w, i32_w]; rw [c26b0]) | rw [c26b2] | skip)
   replace H := Option.bind_eq_some_iff.mp H
   obtain ⟨⟨t336, t337, t338, t341⟩, A270, H⟩ := H
   replace H : ((laws_eqStream.f k t326 t327 t328 t331 t336 t337 t338 t341).bind fun t344 => (if t344 = true then (some true) else (some false))) = some r := H
   have A27 := Aside0.mk A270
   clear A270
   replace H := Option.bind_eq_some_iff.mp H
   obtain ⟨t344, A280, H⟩ := H
   replace H : (if t344 = true then (some true) else (some false)) = some r := H
   have A28 := Aside0.mk A280
   clear A280
   have HC29 := Aside0.mk H
   clear H
   try go_wp2
   replace HO321 := Aside0.mk (Kd.S_drew HO321.out)
   replace HO324 := Aside0.mk (Kd.S_drew HO324.out)
   replace HO330 := Aside0.mk (Kd.S_drew HO330.out)
   replace HO333 := Aside0.mk (Kd.S_drew HO333.out)
   replace BK315 := Aside0.mk (blk_drew BK315.out)
   replace BK334 := Aside0.mk (blk_drew BK334.out)
   replace HB := Aside0.mk (below_drew1 HB.out)
   refine start_ (n := 5) (S := fun w' => w'.cell? ⟨gb334, 0, none⟩ = some (.int .i64 t326) ∧ w'.cell? ⟨gb334, 1, none⟩ = some (.int .i64 t327) ∧ w'.cell? ⟨gb334, 2, none⟩ = some (.slice Ao23 t328.length co23) ∧ w'.cell? ⟨gb334, 3, none⟩ = some (.slice Ao24 t331.length co24) ∧ w'.cell? ⟨gb315, 0, none⟩ = some (.int .i64 a0_0) ∧ w'.cell? ⟨gb315, 1, none⟩ = some (.int .i64 a0_1) ∧ w'.cell? ⟨gb315, 2, none⟩ = some (.slice A0_2 l0_2.length c0_2) ∧ w'.cell? ⟨gb315, 3, none⟩ = some (.slice A0_3 l0_3.length c0_3)) (ds := []) _ (by kernel_rfl) rfl rfl ⟨(blk_cell BK334.out 0).trans rfl, (blk_cell BK334.out 1).trans rfl, (blk_cell BK334.out 2).trans rfl, (blk_cell BK334.out 3).trans rfl, (blk_cell BK315.out 0).trans rfl, (blk_cell BK315.out 1).trans rfl, (blk_cell BK315.out 2).trans rfl, (blk_cell BK315.out 3).trans rfl⟩ (fun hHeld => ?_)
   generalize w25.drew = w30 at HO321 HO324 HO330 HO333 BK315 BK334 HB hHeld ⊢
   refine take_ (i := 0) (N := some 22) (v := ?_) (a' := ?_) #[true, false, false, false, false] rfl rfl (by kernel_rfl) (fun _ _ _ h => h) (Or.inl ⟨by rfl, ?_⟩) hHeld ?_ ?_
   rotate_left
   ·rintro w' ⟨s0, s1, s2, s3, s4, s5, s6, s7⟩
    go_simp
    with_reducible rfl
   rotate_left
   ·simp only [Act.put, List.setIfInBounds_toArray, List.set_cons_zero, List.set_cons_succ, i64_w, i32_w]
    rfl
   refine take_ (i := 1) (N := some 23) (v := ?_) (a' := ?_) #[true, true, false, false, false] rfl rfl (by kernel_rfl) (fun _ _ _ h => h) (Or.inl ⟨by rfl, ?_⟩) hHeld ?_ ?_
   rotate_left
   ·rintro w' ⟨s0, s1, s2, s3, s4, s5, s6, s7⟩
    go_simp
    with_reducible rfl
   rotate_left
   ·simp only [Act.put, List.setIfInBounds_toArray, List.set_cons_zero, List.set_cons_succ, i64_w, i32_w]
    rfl
   refine one_ (i := 2) (N := some 24) #[true, true, true, false, false] rfl rfl (by kernel_rfl) (by decide) (fun K hK => ?_)
   refine ca Try.func17 (laws_toStream.calls k a0_0 a0_1 _ _ l0_2 _ _ l0_3 t336 t337 t338 t341 _ ?side1 ?side2 ?side3 ?side4 A27.out) ?_
   (case side1 => repeat (first | exact (Kd.C_below HR0_2.out HB.out) | (with_reducible refine Kd.C_alloc ?_ _) | (with_reducible refine Kd.C_drewN ?_ _) | (with_reducible refine Kd.C_drew ?_)))
   (case side2 => exact HC0_2.out)
   (case side3 => repeat (first | exact (Kd.C_below HR0_3.out HB.out) | (with_reducible refine Kd.C_alloc ?_ _) | (with_reducible refine Kd.C_drewN ?_ _) | (with_reducible refine Kd.C_drew ?_)))
   (case side4 => exact HC0_3.out)
   rintro e w31 ⟨v339, v342, rfl, ho0, ho1, hb⟩
   refine ⟨_, rfl, ?_⟩
   have n0_ := Aside0.mk (Kd.S_elder' (by (with_reducible repeat (first | apply Kd.S_alloc | apply Kd.S_drewN | apply Kd.S_drew)); exact HO321.out) (Kd.S_base ho0) hb)
   have n1_ := Aside0.mk (Kd.S_elder' (by (with_reducible repeat (first | apply Kd.S_alloc | apply Kd.S_drewN | apply Kd.S_drew)); exact HO324.out) (Kd.S_base ho1) hb)
   have n2_ := Aside0.mk (Kd.S_elder' (by (with_reducible repeat (first | apply Kd.S_alloc | apply Kd.S_drewN | apply Kd.S_drew)); exact HO330.out) (Kd.S_base ho0) hb)
   have n3_ := Aside0.mk (Kd.S_elder' (by (with_reducible repeat (first | apply Kd.S_alloc | apply Kd.S_drewN | apply Kd.S_drew)); exact HO333.out) (Kd.S_base ho1) hb)
   have n4_ := Aside0.mk (Kd.S_lower (Kd.S_new' (Kd.S_new' ho0 (Kd.S_lt (by (with_reducible repeat (first | apply Kd.S_alloc | apply Kd.S_drewN | apply Kd.S_drew)); exact HO321.out))) (Kd.S_lt (by (with_reducible repeat (first | apply Kd.S_alloc | apply Kd.S_drewN | apply Kd.S_drew)); exact HO330.out))) (below_size (by repeat (first | (with_reducible first | exact HB.out | apply below_alloc | apply pw_below_drewN | apply below_drew1 | refine below_set ?_ GE315.out | refine below_set ?_ GE334.out) | exact HB.out))))
   have n5_ := Aside0.mk (Kd.S_lower (Kd.S_new' (Kd.S_new' ho1 (Kd.S_lt (by (with_reducible repeat (first | apply Kd.S_alloc | apply Kd.S_drewN | apply Kd.S_drew)); exact HO324.out))) (Kd.S_lt (by (with_reducible repeat (first | apply Kd.S_alloc | apply Kd.S_drewN | apply Kd.S_drew)); exact HO333.out))) (below_size (by repeat (first | (with_reducible first | exact HB.out | apply below_alloc | apply pw_below_drewN | apply below_drew1 | refine below_set ?_ GE315.out | refine below_set ?_ GE334.out) | exact HB.out))))
   have n6_ := Aside0.mk (blk_below (g := gb315) (o := .cells #[.int .i64 a0_0, .int .i64 a0_1, .slice A0_2 l0_2.length c0_2, .slice A0_3 l0_3.length c0_3] 27 (0, 0)) (by (with_reducible repeat (first | refine blk_drewN ?_ _ | refine blk_drew ?_ | refine blk_alloc ?_ _)); exact BK315.out) hb)
   have n7_ := Aside0.mk (blk_below (g := gb334) (o := .cells #[.int .i64 t326, .int .i64 t327, .slice Ao23 t328.length co23, .slice Ao24 t331.length co24] 34 (0, 0)) (by (with_reducible repeat (first | refine blk_drewN ?_ _ | refine blk_drew ?_ | refine blk_alloc ?_ _)); exact BK334.out) hb)
   have n8_ := Aside0.mk (below_step (by repeat (first | (with_reducible first | exact HB.out | apply below_alloc | apply pw_below_drewN | apply below_drew1 | refine below_set ?_ GE315.out | refine below_set ?_ GE334.out) | exact HB.out)) hb)
   clear HO321 HO324 HO330 HO333 BK315 BK334 HB
   have HO321 := n0_
   have HO324 := n1_
   have HO330 := n2_
   have HO333 := n3_
   have HO340 := n4_
   have HO343 := n5_
   have BK315 := n6_
   have BK334 := n7_
   have HB := n8_
   clear n0_ n1_ n2_ n3_ n4_ n5_ n6_ n7_ n8_
   (try clear hb)
   (try clear hb2)
   (try clear hk)
   (try clear hi)
   (try clear ho0)
   (try clear ho1)
   obtain ⟨Ao32, co32, eo32⟩ := Kd.S_slice HO340.out
   (first | subst eo32 | (injection eo32 with f1_ f2_ f3_; have f4_ := f1_.symm; have f5_ := f3_.symm; clear f1_ f2_ f3_; subst f4_; subst f5_))
   obtain ⟨Ao33, co33, eo33⟩ := Kd.S_slice HO343.out
   (first | subst eo33 | (injection eo33 with f1_ f2_ f3_; have f4_ := f1_.symm; have f5_ := f3_.symm; clear f1_ f2_ f3_; subst f4_; subst f5_))
   refine hK.out _ _ ⟨(blk_cell BK334.out 0).trans rfl, (blk_cell BK334.out 1).trans rfl, (blk_cell BK334.out 2).trans rfl, (blk_cell BK334.out 3).trans rfl, (blk_cell BK315.out 0).trans rfl, (blk_cell BK315.out 1).trans rfl, (blk_cell BK315.out 2).trans rfl, (blk_cell BK315.out 3).trans rfl⟩ (fun hHeld => ?_)
   clear hK K
   refine nm ?_
   refine one_ (i := 3) (N := some 25) #[true, true, true, true, false] rfl rfl (by kernel_rfl) (by decide) (fun K hK => ?_)
   refine ca Try.func19 (laws_eqStream.calls k t326 t327 _ _ t328 _ _ t331 t336 t337 _ _ t338 _ _ t341 t344 _ ?side1 ?side2 ?side3 ?side4 ?side5 ?side6 ?side7 ?side8 A28.out) ?_
   (case side1 => repeat (first | exact (Kd.S_reads' HO330.out).2.2 | (with_reducible refine Kd.C_alloc ?_ _) | (with_reducible refine Kd.C_drewN ?_ _) | (with_reducible refine Kd.C_drew ?_)))
   (case side2 => exact (Kd.S_reads' HO330.out).2.1)
   (case side3 => repeat (first | exact (Kd.S_reads' HO333.out).2.2 | (with_reducible refine Kd.C_alloc ?_ _) | (with_reducible refine Kd.C_drewN ?_ _) | (with_reducible refine Kd.C_drew ?_)))
   (case side4 => exact (Kd.S_reads' HO333.out).2.1)
   (case side5 => repeat (first | exact (Kd.S_reads' HO340.out).2.2 | (with_reducible refine Kd.C_alloc ?_ _) | (with_reducible refine Kd.C_drewN ?_ _) | (with_reducible refine Kd.C_drew ?_)))
   (case side6 => exact (Kd.S_reads' HO340.out).2.1)
   (case side7 => repeat (first | exact (Kd.S_reads' HO343.out).2.2 | (with_reducible refine Kd.C_alloc ?_ _) | (with_reducible refine Kd.C_drewN ?_ _) | (with_reducible refine Kd.C_drew ?_)))
   (case side8 => exact (Kd.S_reads' HO343.out).2.1)
   rintro e w34 ⟨rfl, hb⟩
   refine ⟨_, rfl, ?_⟩
   replace HO321 := Aside0.mk (Kd.S_below (by (with_reducible repeat (first | apply Kd.S_alloc | apply Kd.S_drewN | apply Kd.S_drew)); exact HO321.out) hb)
   replace HO324 := Aside0.mk (Kd.S_below (by (with_reducible repeat (first | apply Kd.S_alloc | apply Kd.S_drewN | apply Kd.S_drew)); exact HO324.out) hb)
   replace HO330 := Aside0.mk (Kd.S_below (by (with_reducible repeat (first | apply Kd.S_alloc | apply Kd.S_drewN | apply Kd.S_drew)); exact HO330.out) hb)
   replace HO333 := Aside0.mk (Kd.S_below (by (with_reducible repeat (first | apply Kd.S_alloc | apply Kd.S_drewN | apply Kd.S_drew)); exact HO333.out) hb)
   replace HO340 := Aside0.mk (Kd.S_below (by (with_reducible repeat (first | apply Kd.S_alloc | apply Kd.S_drewN | apply Kd.S_drew)); exact HO340.out) hb)
   replace HO343 := Aside0.mk (Kd.S_below (by (with_reducible repeat (first | apply Kd.S_alloc | apply Kd.S_drewN | apply Kd.S_drew)); exact HO343.out) hb)
   replace BK315 := Aside0.mk (blk_below (g := gb315) (o := .cells #[.int .i64 a0_0, .int .i64 a0_1, .slice A0_2 l0_2.length c0_2, .slice A0_3 l0_3.length c0_3] 27 (0, 0)) (by (with_reducible repeat (first | refine blk_drewN ?_ _ | refine blk_drew ?_ | refine blk_alloc ?_ _)); exact BK315.out) hb)
   replace BK334 := Aside0.mk (blk_below (g := gb334) (o := .cells #[.int .i64 t326, .int .i64 t327, .slice Ao23 t328.length co23, .slice Ao24 t331.length co24] 34 (0, 0)) (by (with_reducible repeat (first | refine blk_drewN ?_ _ | refine blk_drew ?_ | refine blk_alloc ?_ _)); exact BK334.out) hb)
   replace HB := Aside0.mk (below_step (by repeat (first | (with_reducible first | exact HB.out | apply below_alloc | apply pw_below_drewN | apply below_drew1 | refine below_set ?_ GE315.out | refine below_set ?_ GE334.out) | exact HB.out)) hb)
   (try clear hb)
   (try clear hb2)
   (try clear hk)
   (try clear hi)
   refine hK.out _ _ ⟨(blk_cell BK334.out 0).trans rfl, (blk_cell BK334.out 1).trans rfl, (blk_cell BK334.out 2).trans rfl, (blk_cell BK334.out 3).trans rfl, (blk_cell BK315.out 0).trans rfl, (blk_cell BK315.out 1).trans rfl, (blk_cell BK315.out 2).trans rfl, (blk_cell BK315.out 3).trans rfl⟩ (fun hHeld => ?_)
   clear hK K
   refine nm ?_
   refine pure_ (i := 4) (N := some 26) (v := ?_) (a' := ?_) #[true, true, true, true, true] rfl rfl (by kernel_rfl) (fun _ _ _ h => h) (Or.inl ⟨by rfl, ?_⟩) ?_ ?_
   rotate_left
   ·intro w'
    go_simp
    with_reducible rfl
   rotate_left
   ·simp only [Act.put, List.setIfInBounds_toArray, List.set_cons_zero, List.set_cons_succ, i64_w, i32_w]
    rfl
   refine done_ (by kernel_rfl) ?_
   go_upto_if 26 with (fail)
   have H := HC29.out
   clear HC29
   by_cases c35 : t344 = true
   ·subst c35
    have H1 : (some true) = some r := by rw [if_pos rfl] at H; exact H
    clear H
    have H := H1
    clear H1
    obtain rfl := Option.some.inj H
    go_wp2
    go_ret
    exact ⟨by first | rfl | (simp [errW_none, errW_some] <;> rfl) | (simp [*, errW_none, errW_some] <;> rfl), by repeat (first | (with_reducible first | exact HB.out | apply below_alloc | apply pw_below_drewN | apply below_drew1 | refine below_set ?_ GE315.out | refine below_set ?_ GE334.out) | exact HB.out)⟩
   ·replace c35 := Bool.eq_false_iff.mpr c35
    subst c35
    have H1 : (some false) = some r := by rw [if_neg (show ¬ (false = true) by decide)] at H; exact H
    clear H
    have H := H1
    clear H1
    obtain rfl := Option.some.inj H
    go_wp2
    go_ret
    exact ⟨by first | rfl | (simp [errW_none, errW_some] <;> rfl) | (simp [*, errW_none, errW_some] <;> rfl), by repeat (first | (with_reducible first | exact HB.out | apply below_alloc | apply pw_below_drewN | apply below_drew1 | refine below_set ?_ GE315.out | refine below_set ?_ GE334.out) | exact HB.out)⟩
end Go.Proofs.Ytofiljboaegekaa.PFnExactStreamOk
namespace Go.Proofs.Ytofiljboaegekaa.Opens
open Go.ChangeShapes Go.WideShapes Go.RowKit Go.Proofs.YtofiljboaegekaaW.PrintWords
structure Opn (P : Program) (t : TypeId) {α : Type} (d : Kd α) (G : α → Prop) : Prop where
  op : ∀ {H : Type} {enc : TypeId × Value → H} {W : World} {fuel : Nat} {cs : List Value} {D : DataW H} {ps : List MemPlace},
    DataW.trod enc P W 0 (fun _ => true) true fuel t cs = some (D, ps) → (∀ n ∈ DataW.weights P t D, n ≤ reachBytes) → ∃ x, d.K W x cs ∧ G x
section
variable {P : Program} {t : TypeId}
theorem Opn.int {k : IntKind} (hu : P.underlying t = some (.int k)) : Opn P t (Kd.int k) (fun x => (Lit.int k x).wf = true) where
  op := fun h _ => by
    obtain ⟨m, rfl, _, hw⟩ := DataW.trod_int hu h
    exact ⟨m, rfl, hw⟩
theorem Opn.bool (hu : P.underlying t = some .bool) : Opn P t Kd.bool (fun _ => True) where
  op := fun h _ => by
    obtain ⟨m, rfl, _⟩ := DataW.trod_bool hu h
    exact ⟨m, rfl, trivial⟩
theorem Opn.string (hu : P.underlying t = some .string) : Opn P t Kd.string (fun x => x.size ≤ 140737488351232) where
  op := fun h hz => by
    obtain ⟨m, rfl, e, _⟩ := DataW.trod_string hu h
    obtain ⟨rfl, _⟩ := Prod.mk.inj e
    refine ⟨m, rfl, ?_⟩
    have := hz m.data.toList.length (by simp [DataW.weights])
    simpa [reachBytes] using this
theorem Opn.slice {e : TypeId} {α : Type} {d : Kd α} {G : α → Prop} (he : Opn P e d G) (hu : P.underlying t = some (.slice e)) (hc : P.cellsOf e = d.sz) {B : Nat} (hB : P.bytesOf e = B) :
    Opn P t (Kd.slice e d) (fun xs => xs.length * B ≤ 140737488351232 ∧ ∀ x ∈ xs, G x) where
  op := fun {H enc W fuel cs D ps} h hz => by
    rcases DataW.trod_slice hu h with ⟨rfl, _⟩ | ⟨a, len, cap, elems, rest, n, _, rfl, hx, _, hl, hm, hlen, hel, hsp, _⟩
    · exact ⟨[], ⟨none, 0, rfl, Nat.le_refl _, rfl, by simp, fun hn => absurd hn (by simp)⟩, by simp, by simp⟩
    · obtain ⟨rfl, _⟩ := Prod.mk.inj hx
      have hw0 := hz ((elems.map (·.1)).length + (rest.map (·.1)).length |>.mul (P.bytesOf e)) (by simp [DataW.weights, hu])
      have each : ∀ i, i < len → ∃ x c, d.K W x c ∧ G x ∧ c.length = d.sz ∧ ∀ j u, c[j]? = some u → W.cell? (a.add (i * d.sz + j)) = some u := by
        intro i hi
        have h1 := hel i hi
        have hil : i < elems.length := by omega
        rw [List.getElem?_eq_getElem hil] at h1
        rw [Option.bind_eq_some_iff] at h1
        obtain ⟨c, hcs, hy⟩ := h1
        have hD : ∀ m ∈ DataW.weights P e (elems[i]).1, m ≤ reachBytes := by
          intro m hmem
          refine hz m ?_
          simp only [DataW.weights, hu]
          refine List.mem_cons_of_mem _ (List.mem_append_left _ ?_)
          have : ∀ (l : List (DataW H)) (y : DataW H), y ∈ l → m ∈ DataW.weights P e y → m ∈ DataW.weightsAll P e l := by
            intro l
            induction l with
            | nil => intro y hy; cases hy
            | cons z l ih =>
              intro y hy hm2
              simp only [DataW.weightsAll, List.mem_append]
              rcases List.mem_cons.1 hy with rfl | hy
              · exact Or.inl hm2
              · exact Or.inr (ih y hy hm2)
          exact this _ _ (List.mem_map.2 ⟨elems[i], List.getElem_mem hil, rfl⟩) hmem
        obtain ⟨x, hK, hG⟩ := he.op (show DataW.trod enc P W 0 (fun _ => true) true n e c = some ((elems[i]).1, (elems[i]).2) from hy) hD
        obtain ⟨hb1, hb2, hb3⟩ := World.cells?_some hcs
        refine ⟨x, c, hK, hG, d.K_len hK, fun j u hu2 => ?_⟩
        have hj := (List.getElem?_eq_some_iff.1 hu2).1
        have h3 := hb3 j (by have := d.K_len hK; rw [hc]; omega)
        rw [hu2] at h3
        rw [← h3, hc, Addr.add_add]
      have pick : ∀ l, l ≤ len → ∃ xs : List α, xs.length = l ∧ (∀ x ∈ xs, G x) ∧ ∀ j p, xs[j]? = some p → ∃ c, c.length = d.sz ∧ d.K W p c ∧ ∀ i u, c[i]? = some u → W.cell? (a.add (j * d.sz + i)) = some u := by
        intro l
        induction l with
        | zero => exact fun _ => ⟨[], rfl, by simp, fun j p h => by simp at h⟩
        | succ l ih =>
          intro hll
          obtain ⟨xs, h1, h2, h3⟩ := ih (by omega)
          obtain ⟨x, c, q1, q2, q3, q4⟩ := each l (by omega)
          refine ⟨xs ++ [x], by simp [h1], ?_, ?_⟩
          · intro y hy
            rcases List.mem_append.1 hy with hy | hy
            · exact h2 y hy
            · obtain rfl := List.mem_singleton.1 hy
              exact q2
          · intro j p hj
            by_cases hjl : j < xs.length
            · exact h3 j p (by rwa [List.getElem?_append_left hjl] at hj)
            · rw [List.getElem?_append_right (by omega)] at hj
              have : j - xs.length = 0 := by
                have := (List.getElem?_eq_some_iff.1 hj).1
                simpa using this
              rw [this] at hj
              have hjl2 : j = l := by omega
              subst hjl2
              obtain rfl : x = p := by simpa using hj
              exact ⟨c, q3, q1, q4⟩
      obtain ⟨xs, h1, h2, h3⟩ := pick len (Nat.le_refl _)
      subst h1
      refine ⟨xs, ⟨some a, cap, rfl, hl, rfl, by simp only [maxLen] at hm; omega, fun _ => ⟨a, rfl, h3⟩⟩, ?_, h2⟩
      have hw1 : (elems.length + rest.length) * P.bytesOf e ≤ reachBytes := by simpa using hw0
      rw [hB] at hw1
      rw [← hlen]
      exact Nat.le_trans (Nat.mul_le_mul_right _ (Nat.le_add_right _ _)) hw1
structure OpnF (P : Program) (fs : List Field) (o : Nat) {α : Type} (d : Kd α) (G : α → Prop) : Prop where
  op : ∀ {H : Type} {enc : TypeId × Value → H} {W : World} {fuel : Nat} {cs : List Value} {xs : List (DataW H × List MemPlace)},
    xs.length = fs.length → (∀ (i : Nat) (f : Field), fs[i]? = some f → DataW.trod enc P W 0 (fun _ => true) true fuel f.type ((cs.drop f.offset).take (P.cellsOf f.type)) = xs[i]?) →
    (∀ n ∈ DataW.weightsEach P (fs.map (·.type)) (xs.map (·.1)), n ≤ reachBytes) → cs.length = o + d.sz → ∃ x, d.K W x (cs.drop o) ∧ G x
theorem OpnF.one {f : Field} {o : Nat} {α : Type} {d : Kd α} {G : α → Prop} (he : Opn P f.type d G) (ho : f.offset = o) (hc : P.cellsOf f.type = d.sz) : OpnF P [f] o d G where
  op := fun {H enc W fuel cs xs} hx h hz hl => by
    match xs, hx with
    | [y], _ =>
      have hy := h 0 f rfl
      rw [ho, hc, List.take_of_length_le (by simp; omega)] at hy
      exact he.op (show _ = some (y.1, y.2) from hy) (fun n hn => hz n (by simp only [List.map_cons, List.map_nil, DataW.weightsEach]; exact List.mem_append_left _ hn))
theorem OpnF.cons {f : Field} {r : List Field} {o : Nat} {α β : Type} {d : Kd α} {d2 : Kd β} {G : α → Prop} {G2 : β → Prop} (he : Opn P f.type d G) (ho : f.offset = o) (hc : P.cellsOf f.type = d.sz) (hr : OpnF P r (o + d.sz) d2 G2) :
    OpnF P (f :: r) o (Kd.pair d d2) (fun x => G x.1 ∧ G2 x.2) where
  op := fun {H enc W fuel cs xs} hx h hz hl => by
    match xs, hx with
    | y :: ys, hx =>
      have hl2 : cs.length = o + d.sz + d2.sz := by rw [hl]; show o + (d.sz + d2.sz) = _; omega
      have hy := h 0 f rfl
      rw [ho, hc] at hy
      obtain ⟨x, hK, hG⟩ := he.op (show _ = some (y.1, y.2) from hy) (fun n hn => hz n (by simp only [List.map_cons, DataW.weightsEach]; exact List.mem_append_left _ hn))
      obtain ⟨x2, hK2, hG2⟩ := hr.op (xs := ys) (by simpa using hx) (fun i g hg => h (i + 1) g hg) (fun n hn => hz n (by simp only [List.map_cons, DataW.weightsEach]; exact List.mem_append_right _ hn)) hl2
      refine ⟨(x, x2), ⟨_, _, ?_, hK, hK2⟩, hG, hG2⟩
      rw [← List.drop_drop, List.take_append_drop]
theorem Opn.struct {fs : Array Field} {α β : Type} {d : Kd α} {G : α → Prop} {f : β → α} (g : α → β) (hf : OpnF P fs.toList 0 d G) (hu : P.underlying t = some (.struct fs)) (hg : ∀ a, f (g a) = a) (hc : P.cellsOf t = d.sz) :
    Opn P t (Kd.iso d f) (fun x => G (f x)) where
  op := fun {H enc W fuel cs D ps} h hz => by
    obtain ⟨xs, n, _, hx, hl, hm, he⟩ := DataW.trod_struct hu h
    obtain ⟨rfl, _⟩ := Prod.mk.inj hx
    obtain ⟨x, hK, hG⟩ := hf.op (xs := xs) (by simpa using hm) (fun i f hf => he i f (by simpa using hf)) (fun n hn => hz n (by simp only [DataW.weights, hu]; exact hn)) (by omega)
    exact ⟨g x, by show d.K W (f (g x)) cs; rw [hg]; simpa using hK, by rw [hg]; exact hG⟩
end
theorem each_of {H : Type} {P : Program} {ts : List TypeId} {ds : List (DataW H)} (h : (DataW.weightsEach P ts ds).all (· ≤ reachBytes) = true) {j : Nat} {t : TypeId} {D : DataW H} (ht : ts[j]? = some t) (hd : ds[j]? = some D) : ∀ n ∈ DataW.weights P t D, n ≤ reachBytes := by
  intro n hn
  have := List.all_eq_true.1 h _ (DataW.weights_mem_each ht hd n hn)
  simpa using this
end Go.Proofs.Ytofiljboaegekaa.Opens
namespace Go.Proofs.Ytofiljboaegekaa.PFnExactStreamOk
open Go.RowKit Go.Proofs.YtofiljboaegekaaW.PrintWords Go.Proofs.YtofiljboaegekaaW.PrintLast Go.Proofs.YtofiljboaegekaaW.PrintMore
open Go.Proofs.Ytofiljboaegekaa.Opens
attribute [local go_sem] max2_int min2_int max_two min_two max_three min_three max_four min_four
set_option linter.unusedVariables false
set_option linter.unusedSimpArgs false
def good23 (x : S23) : Prop := (fun x : Int => (Lit.int .i64 x).wf = true) x.f0 ∧ (fun x : Int => (Lit.int .i64 x).wf = true) x.f1
set_option maxRecDepth 100000 in
theorem opn23 : Opn Try.prog 23 k23 good23 := by have h_ := Opn.struct (f := fun x : S23 => (x.f0, x.f1)) (fun a => (⟨a.1, a.2⟩ : S23)) (OpnF.cons (Opn.int Try.underlying3) (by kernel_rfl) (by kernel_rfl) (OpnF.one (Opn.int Try.underlying3) (by kernel_rfl) (by kernel_rfl))) Try.underlying23 (fun _ => rfl) (by kernel_rfl); exact h_
def good213 (x : S213) : Prop := (fun x : ByteArray => x.size ≤ 140737488351232) x.f0 ∧ (fun x : ByteArray => x.size ≤ 140737488351232) x.f1
set_option maxRecDepth 100000 in
theorem opn213 : Opn Try.prog 213 k213 good213 := by have h_ := Opn.struct (f := fun x : S213 => (x.f0, x.f1)) (fun a => (⟨a.1, a.2⟩ : S213)) (OpnF.cons (Opn.string Try.underlying9) (by kernel_rfl) (by kernel_rfl) (OpnF.one (Opn.string Try.underlying9) (by kernel_rfl) (by kernel_rfl))) Try.underlying213 (fun _ => rfl) (by kernel_rfl); exact h_
def good163 (x : S163) : Prop := good23 x.f0 ∧ (fun xs : List (S213) => xs.length * 32 ≤ 140737488351232 ∧ ∀ x ∈ xs, good213 x) x.f1
set_option maxRecDepth 100000 in
theorem opn163 : Opn Try.prog 163 k163 good163 := by have h_ := Opn.struct (f := fun x : S163 => (x.f0, x.f1)) (fun a => (⟨a.1, a.2⟩ : S163)) (OpnF.cons opn23 (by kernel_rfl) (by kernel_rfl) (OpnF.one (Opn.slice opn213 Try.underlying161 (by kernel_rfl) (B := 32) (by kernel_rfl)) (by kernel_rfl) (by kernel_rfl))) Try.underlying163 (fun _ => rfl) (by kernel_rfl); exact h_
def good216 (x : S216) : Prop := good23 x.f0 ∧ (fun x : ByteArray => x.size ≤ 140737488351232) x.f1 ∧ (fun x : Int => (Lit.int .i64 x).wf = true) x.f2 ∧ (fun x : Int => (Lit.int .i64 x).wf = true) x.f3
set_option maxRecDepth 100000 in
theorem opn216 : Opn Try.prog 216 k216 good216 := by have h_ := Opn.struct (f := fun x : S216 => (x.f0, x.f1, x.f2, x.f3)) (fun a => (⟨a.1, a.2.1, a.2.2.1, a.2.2.2⟩ : S216)) (OpnF.cons opn23 (by kernel_rfl) (by kernel_rfl) (OpnF.cons (Opn.string Try.underlying9) (by kernel_rfl) (by kernel_rfl) (OpnF.cons (Opn.int Try.underlying3) (by kernel_rfl) (by kernel_rfl) (OpnF.one (Opn.int Try.underlying3) (by kernel_rfl) (by kernel_rfl))))) Try.underlying216 (fun _ => rfl) (by kernel_rfl); exact h_
def good167 (x : S167) : Prop := (fun x : ByteArray => x.size ≤ 140737488351232) x.f0 ∧ good23 x.f1 ∧ (fun xs : List (S216) => xs.length * 48 ≤ 140737488351232 ∧ ∀ x ∈ xs, good216 x) x.f2
set_option maxRecDepth 100000 in
theorem opn167 : Opn Try.prog 167 k167 good167 := by have h_ := Opn.struct (f := fun x : S167 => (x.f0, x.f1, x.f2)) (fun a => (⟨a.1, a.2.1, a.2.2⟩ : S167)) (OpnF.cons (Opn.string Try.underlying9) (by kernel_rfl) (by kernel_rfl) (OpnF.cons opn23 (by kernel_rfl) (by kernel_rfl) (OpnF.one (Opn.slice opn216 Try.underlying165 (by kernel_rfl) (B := 48) (by kernel_rfl)) (by kernel_rfl) (by kernel_rfl)))) Try.underlying167 (fun _ => rfl) (by kernel_rfl); exact h_
def good27 (x : S27) : Prop := good23 x.f0 ∧ (fun xs : List (S163) => xs.length * 40 ≤ 140737488351232 ∧ ∀ x ∈ xs, good163 x) x.f1 ∧ (fun xs : List (S167) => xs.length * 56 ≤ 140737488351232 ∧ ∀ x ∈ xs, good167 x) x.f2
set_option maxRecDepth 100000 in
theorem opn27 : Opn Try.prog 27 k27 good27 := by have h_ := Opn.struct (f := fun x : S27 => (x.f0, x.f1, x.f2)) (fun a => (⟨a.1, a.2.1, a.2.2⟩ : S27)) (OpnF.cons opn23 (by kernel_rfl) (by kernel_rfl) (OpnF.cons (Opn.slice opn163 Try.underlying24 (by kernel_rfl) (B := 40) (by kernel_rfl)) (by kernel_rfl) (by kernel_rfl) (OpnF.one (Opn.slice opn167 Try.underlying25 (by kernel_rfl) (B := 56) (by kernel_rfl)) (by kernel_rfl) (by kernel_rfl)))) Try.underlying27 (fun _ => rfl) (by kernel_rfl); exact h_
def laws_FnExactStreamOk.Pure : Prop := ∀ (a0_0 : Int) (a0_1 : Int) (l0_2 : List (S163)) (l0_3 : List (S167)), good27 (⟨(⟨a0_0, a0_1⟩ : S23), l0_2, l0_3⟩ : S27) → ∃ k, laws_FnExactStreamOk.f k a0_0 a0_1 l0_2 l0_3 = some true
end Go.Proofs.Ytofiljboaegekaa.PFnExactStreamOk
namespace Go.Proofs.Ytofiljboaegekaa.Base
open Go.RowKit Go.Proofs.YtofiljboaegekaaW.PrintWords Go.Proofs.YtofiljboaegekaaW.PrintLast Go.Proofs.YtofiljboaegekaaW.PrintMore
theorem w64 {n : Int} (h0 : -9223372036854775808 ≤ n) (h1 : n ≤ 9223372036854775807) : wrap64 n = n := by unfold wrap64; omega
theorem Ev.all {α : Type} {g : Nat → Option α} {r : α} (h : ∀ k, g k = some r) : Ev g r := ⟨0, fun k _ => h k⟩
theorem Ev.one {α : Type} {g : Nat → Option α} {r : α} (h : ∀ k, g (k + 1) = some r) : Ev g r := ⟨1, fun k hk => by obtain ⟨m, rfl⟩ : ∃ m, k = m + 1 := ⟨k - 1, by omega⟩; exact h m⟩
theorem Ev.pure {α β : Type} {x : Option α} {a : α} {f : Nat → α → Option β} {r : β} (h : x = some a) (k : Ev (fun n => f n a) r) : Ev (fun n => x.bind (f n)) r := by
  subst h
  exact k
end Go.Proofs.Ytofiljboaegekaa.Base
namespace Go.Proofs.Ytofiljboaegekaa.Base
open Go.RowKit Go.Proofs.YtofiljboaegekaaW.PrintWords Go.Proofs.YtofiljboaegekaaW.PrintLast Go.Proofs.YtofiljboaegekaaW.PrintMore
theorem Ev.ite {α : Type} {c : Prop} [Decidable c] {A B : Nat → Option α} {r : α} (h1 : c → Ev A r) (h2 : ¬ c → Ev B r) : Ev (fun k => if c then A k else B k) r := by
  by_cases h : c
  · obtain ⟨K, hK⟩ := h1 h
    exact ⟨K, fun k hk => (if_pos h).trans (hK k hk)⟩
  · obtain ⟨K, hK⟩ := h2 h
    exact ⟨K, fun k hk => (if_neg h).trans (hK k hk)⟩
theorem Ev.pos {α : Type} {c : Prop} [Decidable c] {A B : Nat → Option α} {r : α} (h : c) (h1 : Ev A r) : Ev (fun k => if c then A k else B k) r := Ev.ite (fun _ => h1) (fun x => absurd h x)
theorem Ev.neg {α : Type} {c : Prop} [Decidable c] {A B : Nat → Option α} {r : α} (h : ¬ c) (h1 : Ev B r) : Ev (fun k => if c then A k else B k) r := Ev.ite (fun x => absurd x h) (fun _ => h1)
theorem Ev.eq {α : Type} {g : Nat → Option α} {r r' : α} (h : Ev g r) (e : r = r') : Ev g r' := e ▸ h
theorem Ev.loopInv {σ β : Type} {g : Nat → σ → Int → Option β} {I : Nat → σ → Prop} {R : β → Prop} (n : Nat) (hend : ∀ s, I n s → ∃ r, R r ∧ Ev (fun k => g k s (n : Int)) r)
    (hstep : ∀ i : Nat, i < n → ∀ s, I i s → (∀ s', I (i + 1) s' → ∃ r, R r ∧ Ev (fun k => g k s' ((i : Int) + 1)) r) → ∃ r, R r ∧ Ev (fun k => g k s (i : Int)) r) : ∀ s, I 0 s → ∃ r, R r ∧ Ev (fun k => g k s 0) r := by
  have key : ∀ m, m ≤ n → ∀ s, I (n - m) s → ∃ r, R r ∧ Ev (fun k => g k s ((n - m : Nat) : Int)) r := by
    intro m
    induction m with
    | zero => intro _ s hs; exact hend s hs
    | succ m ih =>
      intro hm s hs
      refine hstep (n - (m + 1)) (by omega) s hs (fun s' hs' => ?_)
      have e : n - (m + 1) + 1 = n - m := by omega
      rw [e] at hs'
      have := ih (by omega) s' hs'
      have e2 : ((n - (m + 1) : Nat) : Int) + 1 = ((n - m : Nat) : Int) := by omega
      rw [e2]
      exact this
  intro s hs
  have := key n (Nat.le_refl _) s (by rw [Nat.sub_self]; exact hs)
  rw [Nat.sub_self] at this
  exact this
def allI (n : Nat) (p : Nat → Bool) : Bool := (List.range n).all p
theorem Ev.loopAll {g : Nat → Int → Option Bool} {p : Nat → Bool} {r : Bool} (n : Nat) (hend : Ev (fun k => g k (n : Int)) r)
    (hstep : ∀ i : Nat, i < n → ∀ b, Ev (fun k => g k ((i : Int) + 1)) b → Ev (fun k => g k (i : Int)) (p i && b)) : Ev (fun k => g k 0) (allI n p && r) := by
  have key : ∀ m, m ≤ n → Ev (fun k => g k ((n - m : Nat) : Int)) ((List.range' (n - m) m).all p && r) := by
    intro m
    induction m with
    | zero => intro _; simpa using hend
    | succ m ih =>
      intro hm
      have e : n - (m + 1) + 1 = n - m := by omega
      have e2 : ((n - (m + 1) : Nat) : Int) + 1 = ((n - m : Nat) : Int) := by omega
      have := hstep (n - (m + 1)) (by omega) ((List.range' (n - m) m).all p && r) (by rw [e2]; exact ih (by omega))
      rw [List.range'_succ, List.all_cons, e, Bool.and_assoc]
      exact this
  have := key n (Nat.le_refl _)
  rw [Nat.sub_self] at this
  unfold allI
  rw [List.range_eq_range']
  exact this
theorem getD_eq {α : Type} {d : α} {l : List α} {i : Nat} (h : i < l.length) : l.getD i d = l[i] := by
  rw [List.getD_eq_getElem?_getD, List.getElem?_eq_getElem h]; rfl
theorem fill_set {α β : Type} (c : α → β) (l : List α) (z : β) (d : α) {i : Nat} (hi : i < l.length) : ((l.take i).map c ++ List.replicate (l.length - i) z).set i (c (l.getD i d)) = (l.take (i + 1)).map c ++ List.replicate (l.length - (i + 1)) z := by
  have e : l.length - i = (l.length - (i + 1)) + 1 := by omega
  rw [e, List.replicate_succ, List.set_append_right _ _ (by rw [List.length_map, List.length_take]; omega), getD_eq hi]
  have e2 : i - ((l.take i).map c).length = 0 := by rw [List.length_map, List.length_take]; omega
  rw [e2, List.set_cons_zero, List.take_succ_eq_append_getElem hi, List.map_append, List.append_assoc]
  rfl
theorem fill_length {α β : Type} (c : α → β) (l : List α) (z : β) {i : Nat} (hi : i ≤ l.length) : ((l.take i).map c ++ List.replicate (l.length - i) z).length = l.length := by
  rw [List.length_append, List.length_map, List.length_take, List.length_replicate]; omega
theorem Ev.loopFill {α β : Type} {g : Nat → List β → Int → Option (List β)} (c : α → β) (l : List α) (z : β) (d : α) (hend : ∀ s : List β, s.length = l.length → Ev (fun k => g k s (l.length : Int)) s)
    (hstep : ∀ i : Nat, i < l.length → ∀ s : List β, s.length = l.length → ∀ r, Ev (fun k => g k (s.set i (c (l.getD i d))) ((i : Int) + 1)) r → Ev (fun k => g k s (i : Int)) r) : Ev (fun k => g k (List.replicate l.length z) 0) (l.map c) := by
  obtain ⟨r, hr, hE⟩ := Ev.loopInv (g := g) (I := fun i s => s = (l.take i).map c ++ List.replicate (l.length - i) z) (R := fun r => r = l.map c) l.length
    (fun s hs => ⟨s, by subst hs; simp, hend s (by subst hs; exact fill_length c l z (Nat.le_refl _))⟩)
    (fun i hi s hs ih => by
      obtain ⟨r, hr, hE⟩ := ih _ rfl
      refine ⟨r, hr, hstep i hi s (by subst hs; exact fill_length c l z (by omega)) r ?_⟩
      subst hs
      rw [fill_set c l z d hi]
      exact hE) (List.replicate l.length z) (by simp)
  subst hr
  exact hE
end Go.Proofs.Ytofiljboaegekaa.Base
namespace Go.Proofs.Ytofiljboaegekaa.UFnExactStreamOk
open Go.RowKit Go.Proofs.Ytofiljboaegekaa.PFnExactStreamOk Go.Proofs.Ytofiljboaegekaa.Base Go.Proofs.YtofiljboaegekaaW.PrintWords Go.Proofs.YtofiljboaegekaaW.PrintLast Go.Proofs.YtofiljboaegekaaW.PrintMore
abbrev SPair := S136
abbrev SItem := S66
abbrev SWait := S57
abbrev SGroup := S107
def inB (x a b : Int) : Bool := decide (a ≤ x ∧ x ≤ b)
theorem within_eq (x a b : Int) : impl_within.f x a b = some (inB x a b) := by
  unfold impl_within.f inB
  by_cases h : x ≥ a
  · rw [if_pos h]; simp; omega
  · rw [if_neg h]; simp; omega
theorem l1In_eq (x a b : Int) : spec_l1In.f x a b = some (inB x a b) := by
  unfold spec_l1In.f inB
  by_cases h : x ≥ a
  · rw [if_pos h]; simp; omega
  · rw [if_neg h]; simp; omega
def idB (a b : Int) : Bool := inB a 0 1000000 && inB b 0 1000000000
theorem idOk_eq (a b : Int) : impl_idOk.f a b = some (idB a b) := by
  unfold impl_idOk.f idB
  rw [within_eq, within_eq]
  cases inB a 0 1000000 <;> rfl
theorem l9Id_eq (a b : Int) : spec_l9Id.f a b = some (idB a b) := by
  unfold spec_l9Id.f idB
  rw [l1In_eq, l1In_eq]
  cases inB a 0 1000000 <;> rfl
def keyB (s : ByteArray) : Bool := inB s.size 1 12
theorem keyOk_eq (s : ByteArray) : impl_keyOk.f s = some (keyB s) := by unfold impl_keyOk.f; rw [within_eq]; rfl
theorem l4Key_eq (s : ByteArray) : spec_l4Key.f s = some (keyB s) := by unfold spec_l4Key.f; rw [l1In_eq]; rfl
def lessB (a b c d : Int) : Bool := decide (a < c ∨ a = c ∧ b < d)
theorem spec_less (a b c d : Int) : spec_IdLess.f a b c d = some (lessB a b c d) := by
  unfold spec_IdLess.f lessB
  by_cases h1 : a < c
  · simp [h1]
  · by_cases h2 : a = c <;> simp [h1, h2]
theorem compare_eq (a b : Int) : cmp_Compare_int.f a b = some (if a < b then -1 else if a > b then 1 else 0) := by
  simp [cmp_Compare_int.f, cmp_isNaN_int.f]
  split <;> (try split) <;> rfl
theorem or_eq (a b : Int) : Ev (fun k => cmp_Or_int.f k [a, b]) (if a = 0 then b else a) := by
  have w1 : wrap64 1 = 1 := by unfold wrap64; omega
  have w2 : wrap64 2 = 2 := by unfold wrap64; omega
  refine ⟨3, fun k hk => ?_⟩
  obtain ⟨m, rfl⟩ : ∃ m, k = m + 3 := ⟨k - 3, by omega⟩
  by_cases ha : a = 0
  · by_cases hb : b = 0 <;> simp [cmp_Or_int.f, cmp_Or_int.l0, rd, ha, hb, w1, w2]
  · simp [cmp_Or_int.f, cmp_Or_int.l0, rd, ha]
def ordI (a b c d : Int) : Int := if a < c then -1 else if a > c then 1 else if b < d then -1 else if b > d then 1 else 0
theorem order_ev (a b c d : Int) : Ev (fun k => impl_idOrder.f k a b c d) (ordI a b c d) := by
  unfold impl_idOrder.f
  refine Ev.pure (compare_eq a c) (Ev.pure (compare_eq b d) (Ev.bind (or_eq _ _) (Ev.all fun k => ?_)))
  unfold ordI
  by_cases h1 : a < c
  · simp [h1]
  · by_cases h2 : a > c
    · simp [h1, h2]
    · simp [h1, h2]
theorem ord_less (a b c d : Int) : decide (ordI a b c d < 0) = lessB a b c d := by
  unfold ordI lessB
  by_cases h1 : a < c
  · simp [h1]
  · by_cases h2 : a > c
    · have : a ≠ c := by omega
      simp [h1, h2, this]
    · have : a = c := by omega
      subst this
      by_cases h3 : b < d
      · simp [h3]
      · by_cases h4 : b > d <;> simp [h3, h4]
theorem less_ev (a b c d : Int) : Ev (fun k => impl_IdLess.f k a b c d) (lessB a b c d) := by
  unfold impl_IdLess.f
  exact Ev.bind (order_ev a b c d) (Ev.all fun k => by rw [ord_less])
def prevI (i : Nat) (p : Nat → Nat → Bool) : Bool := match i with | 0 => true | j + 1 => p j (j + 1)
def pairP (l : List SPair) (i : Nat) : Bool := decide (((rd_T136 l i).f0).size ≤ 40) && decide (((rd_T136 l i).f1).size ≤ 40) && prevI i fun a b => Op.bytesLess ((rd_T136 l a).f0).toList ((rd_T136 l b).f0).toList
def fieldsB (l : List SPair) : Bool := allI l.length (pairP l) && decide (l.length ≤ 16)
theorem prev_w (j : Nat) (h : j < 2 ^ 60) : wrap64 (((j + 1 : Nat) : Int) - 1) = (j : Int) := by rw [w64 (by omega) (by omega)]; omega
theorem spec_fields (l : List SPair) (hl : l.length < 2 ^ 60) : Ev (fun k => spec_FieldsOk.f k l) (fieldsB l) := by
  unfold spec_FieldsOk.f fieldsB
  refine Ev.loopAll (g := fun k i => spec_FieldsOk.l0 k l i) l.length (Ev.step (f := fun _ => some (decide (l.length ≤ 16))) (fun k => ?_) (Ev.now _)) (fun i hi b hb => ?_)
  · rw [spec_FieldsOk.l0, if_neg (by omega)]
    congr 2
    exact propext (by omega)
  refine Ev.step (fun k => by rw [spec_FieldsOk.l0, if_pos (by omega : (i : Int) < (l.length : Int)), if_pos (by omega : (0 : Int) ≤ (i : Int))]) ?_
  have hj : ∀ q : Bool, Ev (fun k => spec_FieldsOk.j1 k l i (!q)) (q && b) := by
    intro q
    cases q
    · exact Ev.one fun k => by rw [spec_FieldsOk.j1]; rfl
    · refine Ev.step (fun k => by rw [spec_FieldsOk.j1, if_neg (by decide), w64 (by omega) (by omega)]) ?_
      simpa using hb
  unfold pairP
  refine Ev.ite (fun h => ?_) (fun h1 => Ev.ite (fun h => ?_) (fun h2 => ?_))
  · rw [decide_eq_false (by omega)]; exact hj false
  · rw [decide_eq_true (by omega), decide_eq_false (by omega)]; exact hj false
  · rw [decide_eq_true (by omega), decide_eq_true (by omega)]
    cases i with
    | zero => exact Ev.neg (by omega) (hj true)
    | succ j =>
      refine Ev.pos (by omega) ?_
      rw [prev_w j (by omega)]
      exact Ev.pos (by omega) (Ev.pos (by omega) (hj _))
theorem impl_fields (l : List SPair) (hl : l.length < 2 ^ 60) : Ev (fun k => impl_FieldsOk.f k l) (fieldsB l) := by
  unfold impl_FieldsOk.f fieldsB
  refine Ev.loopAll (g := fun k i => impl_FieldsOk.l0 k l l (l.length : Int) i) l.length (Ev.step (f := fun _ => some (decide (l.length ≤ 16))) (fun k => ?_) (Ev.now _)) (fun i hi b hb => ?_)
  · rw [impl_FieldsOk.l0, if_neg (by omega)]
    congr 2
    exact propext (by omega)
  refine Ev.step (fun k => by rw [impl_FieldsOk.l0, if_pos (by omega : (i : Int) < (l.length : Int)), if_pos (by omega : (0 : Int) ≤ (i : Int)), if_pos (by omega : (i : Int) < (l.length : Int))]) ?_
  have hj : ∀ q : Bool, Ev (fun k => impl_FieldsOk.j1 k l l (l.length : Int) i (!q)) (q && b) := by
    intro q
    cases q
    · exact Ev.one fun k => by rw [impl_FieldsOk.j1]; rfl
    · refine Ev.step (fun k => by rw [impl_FieldsOk.j1, if_neg (by decide), w64 (by omega) (by omega)]) ?_
      simpa using hb
  unfold pairP
  refine Ev.ite (fun h => ?_) (fun h1 => Ev.ite (fun h => ?_) (fun h2 => ?_))
  · rw [decide_eq_false (by omega)]; exact hj false
  · rw [decide_eq_true (by omega), decide_eq_false (by omega)]; exact hj false
  · rw [decide_eq_true (by omega), decide_eq_true (by omega)]
    cases i with
    | zero => exact Ev.neg (by omega) (hj true)
    | succ j =>
      refine Ev.pos (by omega) ?_
      rw [prev_w j (by omega)]
      exact Ev.pos (by omega) (Ev.pos (by omega) (hj _))
theorem impl_full (l : List SPair) (hl : l.length < 2 ^ 60) : Ev (fun k => impl_fieldsFull.f k l) (decide (l.length ≠ 0) && fieldsB l) := by
  unfold impl_fieldsFull.f
  refine Ev.ite (fun h => ?_) (fun h => ?_)
  · rw [decide_eq_true (by omega)]
    exact Ev.bind (impl_fields l hl) (Ev.all fun k => by simp)
  · rw [decide_eq_false (by omega)]
    exact Ev.all fun k => by simp
def waitP (a b : Int) (l : List SWait) (i : Nat) : Bool := idB (rd_T57 l i).f0.f0 (rd_T57 l i).f0.f1 && !lessB a b (rd_T57 l i).f0.f0 (rd_T57 l i).f0.f1 && keyB (rd_T57 l i).f1 && inB (rd_T57 l i).f2 0 1000000 && inB (rd_T57 l i).f3 1 1000000000 &&
  prevI i fun x y => lessB (rd_T57 l x).f0.f0 (rd_T57 l x).f0.f1 (rd_T57 l y).f0.f0 (rd_T57 l y).f0.f1
def groupB (n : ByteArray) (a b : Int) (l : List SWait) : Bool := allI l.length (waitP a b l) && (keyB n && idB a b && decide (l.length ≤ 16))
theorem ord_ge (a b c d : Int) : (ordI a b c d ≥ 0) ↔ lessB a b c d = false := by
  have := ord_less a b c d
  rw [← this, decide_eq_false_iff_not]
  omega
theorem impl_group (n : ByteArray) (a b : Int) (l : List SWait) (hl : l.length < 2 ^ 60) : Ev (fun k => impl_groupOk.f k n a b l) (groupB n a b l) := by
  unfold impl_groupOk.f groupB
  refine Ev.loopAll (g := fun k i => impl_groupOk.l0 k l (l.length : Int) i n a b l) l.length (Ev.step (fun k => by rw [impl_groupOk.l0, if_neg (by omega), keyOk_eq, idOk_eq]) ?_) (fun i hi q hq => ?_)
  · refine Ev.all fun k => ?_
    cases keyB n <;> cases idB a b <;> simp
    omega
  refine Ev.step (fun k => by rw [impl_groupOk.l0, if_pos (by omega : (i : Int) < (l.length : Int)), if_pos (by omega : (0 : Int) ≤ (i : Int)), if_pos (by omega : (i : Int) < (l.length : Int)), idOk_eq]) ?_
  have hj2 : ∀ x : Bool, Ev (fun k => impl_groupOk.j2 k l (l.length : Int) i (!x) n a b l) (x && q) := by
    intro x
    cases x
    · exact Ev.one fun k => by rw [impl_groupOk.j2]; rfl
    · refine Ev.step (fun k => by rw [impl_groupOk.j2, if_neg (by decide), w64 (by omega) (by omega)]) ?_
      simpa using hq
  have hj1 : ∀ (x : Bool) (e0 e1 : Int) (w : ByteArray) (e3 e4 : Int), Ev (fun k => impl_groupOk.j1 k l (l.length : Int) i (!x) n a b l e0 e1 w e3 e4) (x && (keyB w && (inB e3 0 1000000 && (inB e4 1 1000000000 && q)))) := by
    intro x e0 e1 w e3 e4
    cases x
    · exact Ev.one fun k => by rw [impl_groupOk.j1]; rfl
    · refine Ev.step (fun k => by rw [impl_groupOk.j1, if_neg (by decide), keyOk_eq, within_eq, within_eq]) ?_
      rw [Bool.true_and]
      cases keyB w
      · exact hj2 false
      cases inB e3 0 1000000
      · exact hj2 false
      exact hj2 _
  unfold waitP
  cases idB (rd_T57 l i).f0.f0 (rd_T57 l i).f0.f1
  · exact hj1 false _ _ _ _ _
  refine Ev.pure rfl (Ev.pos rfl ?_)
  cases i with
  | zero =>
    refine Ev.neg (by omega) (Ev.bind (less_ev _ _ _ _) ?_)
    have := hj1 (!lessB a b (rd_T57 l (0 : Nat)).f0.f0 (rd_T57 l (0 : Nat)).f0.f1) (rd_T57 l (0 : Nat)).f0.f0 (rd_T57 l (0 : Nat)).f0.f1 (rd_T57 l (0 : Nat)).f1 (rd_T57 l (0 : Nat)).f2 (rd_T57 l (0 : Nat)).f3
    rw [Bool.not_not] at this
    exact Ev.eq this (by simp [prevI, Bool.and_assoc])
  | succ j =>
    refine Ev.pos (by omega) ?_
    rw [prev_w j (by omega)]
    refine Ev.pos (by omega) (Ev.pos (by omega) (Ev.bind (order_ev _ _ _ _) (Ev.ite (fun h => ?_) (fun h => Ev.bind (less_ev _ _ _ _) ?_))))
    · rw [ord_ge] at h
      have e : prevI (j + 1) (fun x y => lessB (rd_T57 l x).f0.f0 (rd_T57 l x).f0.f1 (rd_T57 l y).f0.f0 (rd_T57 l y).f0.f1) = false := h
      rw [e]
      exact Ev.eq (hj1 false _ _ _ _ _) (by simp)
    · rw [ord_ge, Bool.not_eq_false] at h
      have e : prevI (j + 1) (fun x y => lessB (rd_T57 l x).f0.f0 (rd_T57 l x).f0.f1 (rd_T57 l y).f0.f0 (rd_T57 l y).f0.f1) = true := h
      rw [e]
      have := hj1 (!lessB a b (rd_T57 l (j + 1 : Nat)).f0.f0 (rd_T57 l (j + 1 : Nat)).f0.f1) (rd_T57 l (j + 1 : Nat)).f0.f0 (rd_T57 l (j + 1 : Nat)).f0.f1 (rd_T57 l (j + 1 : Nat)).f1 (rd_T57 l (j + 1 : Nat)).f2 (rd_T57 l (j + 1 : Nat)).f3
      rw [Bool.not_not] at this
      exact Ev.eq this (by simp [Bool.and_assoc])
theorem spec_group (c d : Int) (it : List SItem) (gr : List SGroup) (n : ByteArray) (a b : Int) (l : List SWait) (hl : l.length < 2 ^ 60) : Ev (fun k => spec_l9Group.f k c d it gr n a b l) (groupB n a b l && !lessB c d a b) := by
  have key : (groupB n a b l && !lessB c d a b) = (allI l.length (waitP a b l) && ((keyB n && idB a b && decide (l.length ≤ 16)) && !lessB c d a b)) := by unfold groupB; rw [Bool.and_assoc]
  rw [key]
  unfold spec_l9Group.f
  refine Ev.loopAll (g := fun k i => spec_l9Group.l0 k i c d it gr n a b l) l.length (Ev.step (fun k => by rw [spec_l9Group.l0, if_neg (by omega), l4Key_eq, l9Id_eq, spec_less]) ?_) (fun i hi q hq => ?_)
  · refine Ev.all fun k => ?_
    cases keyB n <;> cases idB a b <;> cases lessB c d a b <;> simp
    omega
  have hj : ∀ x : Bool, Ev (fun k => spec_l9Group.j1 k i (!x) c d it gr n a b l) (x && q) := by
    intro x
    cases x
    · exact Ev.one fun k => by rw [spec_l9Group.j1]; rfl
    · refine Ev.step (fun k => by rw [spec_l9Group.j1, if_neg (by decide), w64 (by omega) (by omega)]) ?_
      simpa using hq
  refine Ev.step (fun k => by rw [spec_l9Group.l0, if_pos (by omega : (i : Int) < (l.length : Int)), if_pos (by omega : (0 : Int) ≤ (i : Int)), l9Id_eq, spec_less, l4Key_eq, l1In_eq, l1In_eq]) ?_
  unfold waitP
  cases idB (rd_T57 l i).f0.f0 (rd_T57 l i).f0.f1
  · exact hj false
  cases lessB a b (rd_T57 l i).f0.f0 (rd_T57 l i).f0.f1
  rotate_left
  · exact hj false
  cases keyB (rd_T57 l i).f1
  · exact hj false
  cases inB (rd_T57 l i).f2 0 1000000
  · exact hj false
  cases inB (rd_T57 l i).f3 1 1000000000
  · exact hj false
  show Ev (fun k => if (i : Int) > 0 then _ else _) _
  cases i with
  | zero => exact Ev.neg (by omega) (hj true)
  | succ j =>
    refine Ev.pos (by omega) ?_
    rw [prev_w j (by omega)]
    refine Ev.pos (by omega) (Ev.pos (by omega) ?_)
    simp only [spec_less, Option.bind_some]
    exact hj _
def itemP (a b : Int) (l : List SItem) (i : Nat) : Bool := idB (rd_T66 l i).f0.f0 (rd_T66 l i).f0.f1 && !lessB a b (rd_T66 l i).f0.f0 (rd_T66 l i).f0.f1 && fieldsB (rd_T66 l i).f1 && decide ((rd_T66 l i).f1.length ≠ 0) &&
  prevI i fun x y => lessB (rd_T66 l x).f0.f0 (rd_T66 l x).f0.f1 (rd_T66 l y).f0.f0 (rd_T66 l y).f0.f1
def groupP (a b : Int) (l : List SGroup) (i : Nat) : Bool := groupB (rd_T107 l i).f0 (rd_T107 l i).f1.f0 (rd_T107 l i).f1.f1 (rd_T107 l i).f2 && !lessB a b (rd_T107 l i).f1.f0 (rd_T107 l i).f1.f1 &&
  prevI i fun x y => Op.bytesLess ((rd_T107 l x).f0).toList ((rd_T107 l y).f0).toList
def okB (a b : Int) (it : List SItem) (gr : List SGroup) : Bool := idB a b && decide (it.length ≤ 16) && decide (gr.length ≤ 3) && allI it.length (itemP a b it) && allI gr.length (groupP a b gr)
structure Fits (it : List SItem) (gr : List SGroup) : Prop where
  items : it.length < 2 ^ 60
  fields : ∀ x ∈ it, x.f1.length < 2 ^ 60
  groups : gr.length < 2 ^ 60
  waits : ∀ x ∈ gr, x.f2.length < 2 ^ 60
theorem Fits.field {it : List SItem} {gr : List SGroup} (h : Fits it gr) {i : Nat} (hi : i < it.length) : (rd_T66 it i).f1.length < 2 ^ 60 := h.fields _ (by
  unfold rd_T66
  rw [Int.toNat_natCast, getD_eq hi]
  exact List.getElem_mem hi)
theorem Fits.wait {it : List SItem} {gr : List SGroup} (h : Fits it gr) {i : Nat} (hi : i < gr.length) : (rd_T107 gr i).f2.length < 2 ^ 60 := h.waits _ (by
  unfold rd_T107
  rw [Int.toNat_natCast, getD_eq hi]
  exact List.getElem_mem hi)
theorem impl_ok (a b : Int) (it : List SItem) (gr : List SGroup) (h : Fits it gr) : Ev (fun k => impl_StreamOk.f k a b it gr) (okB a b it gr) := by
  have e : okB a b it gr = ((idB a b && (decide (it.length ≤ 16) && decide (gr.length ≤ 3))) && (allI it.length (itemP a b it) && allI gr.length (groupP a b gr))) := by unfold okB; simp only [Bool.and_assoc]
  rw [e]
  have hg := h.groups
  have hi' := h.items
  have h1 : Ev (fun k => impl_StreamOk.l1 k gr (gr.length : Int) 0 a b it gr) (allI gr.length (groupP a b gr)) := by
    refine Ev.eq (Ev.loopAll (g := fun k i => impl_StreamOk.l1 k gr (gr.length : Int) i a b it gr) (r := true) (p := groupP a b gr) gr.length (Ev.one fun k => by rw [impl_StreamOk.l1, if_neg (by omega)]) (fun i hi q hq => ?_)) (by simp)
    have hj : ∀ x : Bool, Ev (fun k => impl_StreamOk.j4 k gr (gr.length : Int) i (!x) a b it gr) (x && q) := by
      intro x
      cases x
      · exact Ev.one fun k => by rw [impl_StreamOk.j4]; rfl
      · refine Ev.step (fun k => by rw [impl_StreamOk.j4, if_neg (by decide), w64 (by omega) (by omega)]) ?_
        simpa using hq
    refine Ev.step (fun k => by rw [impl_StreamOk.l1, if_pos (by omega : (i : Int) < (gr.length : Int)), if_pos (by omega : (0 : Int) ≤ (i : Int)), if_pos (by omega : (i : Int) < (gr.length : Int))]) ?_
    refine Ev.bind (impl_group _ _ _ _ (h.wait hi)) ?_
    unfold groupP
    cases groupB (rd_T107 gr i).f0 (rd_T107 gr i).f1.f0 (rd_T107 gr i).f1.f1 (rd_T107 gr i).f2
    · exact hj false
    refine Ev.pos rfl ?_
    have hl := less_ev a b (rd_T107 gr i).f1.f0 (rd_T107 gr i).f1.f1
    have hq2 := hj (!lessB a b (rd_T107 gr i).f1.f0 (rd_T107 gr i).f1.f1)
    rw [Bool.not_not] at hq2
    cases i with
    | zero => exact Ev.neg (by omega) (Ev.eq (Ev.bind hl hq2) (by simp [prevI]))
    | succ j =>
      refine Ev.pos (by omega) ?_
      rw [prev_w j (by omega)]
      refine Ev.pos (by omega) (Ev.pos (by omega) (Ev.ite (fun h => Ev.eq (Ev.bind hl hq2) ?_) (fun h => Ev.eq (hj false) ?_)))
      · show _ = (true && _ && Op.bytesLess _ _ && _)
        rw [h]; simp
      · show _ = (true && _ && Op.bytesLess _ _ && _)
        rw [Bool.not_eq_true] at h
        rw [h]; simp
  have h0 : Ev (fun k => impl_StreamOk.l0 k it (it.length : Int) 0 a b it gr) (allI it.length (itemP a b it) && allI gr.length (groupP a b gr)) := by
    refine Ev.loopAll (g := fun k i => impl_StreamOk.l0 k it (it.length : Int) i a b it gr) it.length (Ev.step (fun k => by rw [impl_StreamOk.l0, if_neg (by omega)]) h1) (fun i hi q hq => ?_)
    have hj : ∀ x : Bool, Ev (fun k => impl_StreamOk.j2 k it (it.length : Int) i (!x) a b it gr) (x && q) := by
      intro x
      cases x
      · exact Ev.one fun k => by rw [impl_StreamOk.j2]; rfl
      · refine Ev.step (fun k => by rw [impl_StreamOk.j2, if_neg (by decide), w64 (by omega) (by omega)]) ?_
        simpa using hq
    refine Ev.step (fun k => by rw [impl_StreamOk.l0, if_pos (by omega : (i : Int) < (it.length : Int)), if_pos (by omega : (0 : Int) ≤ (i : Int)), if_pos (by omega : (i : Int) < (it.length : Int)), idOk_eq]) ?_
    unfold itemP
    cases idB (rd_T66 it i).f0.f0 (rd_T66 it i).f0.f1
    · exact hj false
    have hf := impl_full _ (h.field hi)
    have hl := less_ev a b (rd_T66 it i).f0.f0 (rd_T66 it i).f0.f1
    have tail : Ev (fun k => (impl_IdLess.f k a b (rd_T66 it i).f0.f0 (rd_T66 it i).f0.f1).bind fun t => if t = true then impl_StreamOk.j2 k it (it.length : Int) i true a b it gr else (impl_fieldsFull.f k (rd_T66 it i).f1).bind fun t => impl_StreamOk.j2 k it (it.length : Int) i (!t) a b it gr)
        (!lessB a b (rd_T66 it i).f0.f0 (rd_T66 it i).f0.f1 && fieldsB (rd_T66 it i).f1 && decide ((rd_T66 it i).f1.length ≠ 0) && q) := by
      refine Ev.bind hl (Ev.ite (fun h => Ev.eq (hj false) ?_) (fun h => Ev.eq (Ev.bind hf (hj _)) ?_))
      · rw [h]; simp
      · rw [Bool.not_eq_true] at h
        rw [h, Bool.not_false, Bool.true_and, Bool.and_comm (decide _)]
    refine Ev.pure rfl (Ev.pos rfl ?_)
    cases i with
    | zero => exact Ev.neg (by omega) (Ev.eq tail (by simp [prevI]))
    | succ j =>
      refine Ev.pos (by omega) ?_
      rw [prev_w j (by omega)]
      refine Ev.pos (by omega) (Ev.pos (by omega) (Ev.bind (order_ev _ _ _ _) (Ev.ite (fun h => Ev.eq (hj false) ?_) (fun h => Ev.eq tail ?_))))
      · rw [ord_ge] at h
        show _ = (true && _ && _ && _ && lessB _ _ _ _ && _)
        rw [h]; simp
      · rw [ord_ge, Bool.not_eq_false] at h
        show _ = (true && _ && _ && _ && lessB _ _ _ _ && _)
        rw [h]; simp
  have hj : ∀ x : Bool, Ev (fun k => impl_StreamOk.j0 k (!x) a b it gr) (x && (allI it.length (itemP a b it) && allI gr.length (groupP a b gr))) := by
    intro x
    cases x
    · exact Ev.one fun k => by rw [impl_StreamOk.j0]; rfl
    · refine Ev.step (fun k => by rw [impl_StreamOk.j0, if_neg (by decide)]) ?_
      simpa using h0
  unfold impl_StreamOk.f
  refine Ev.pure (idOk_eq a b) ?_
  cases idB a b
  · exact hj false
  refine Ev.pos rfl (Ev.ite (fun h => Ev.eq (hj false) ?_) (fun h => ?_))
  · rw [decide_eq_false (by omega : ¬ it.length ≤ 16)]; simp
  · have e2 : decide ((gr.length : Int) > 3) = !decide (gr.length ≤ 3) := by
      by_cases q : gr.length ≤ 3
      · rw [decide_eq_true q, decide_eq_false (by omega)]; rfl
      · rw [decide_eq_false q, decide_eq_true (by omega)]; rfl
    rw [e2, decide_eq_true (by omega : it.length ≤ 16)]
    exact hj _
theorem spec_ok (a b : Int) (it : List SItem) (gr : List SGroup) (h : Fits it gr) : Ev (fun k => spec_StreamOk.f k a b it gr) (okB a b it gr) := by
  have e : okB a b it gr = (allI it.length (itemP a b it) && (allI gr.length (groupP a b gr) && (idB a b && (decide (it.length ≤ 16) && decide (gr.length ≤ 3))))) := by
    unfold okB
    cases idB a b <;> cases decide (it.length ≤ 16) <;> cases decide (gr.length ≤ 3) <;> cases allI it.length (itemP a b it) <;> cases allI gr.length (groupP a b gr) <;> rfl
  rw [e]
  have hg := h.groups
  have hi' := h.items
  have h1 : Ev (fun k => spec_StreamOk.l1 k 0 a b it gr) (allI gr.length (groupP a b gr) && (idB a b && (decide (it.length ≤ 16) && decide (gr.length ≤ 3)))) := by
    refine Ev.loopAll (g := fun k i => spec_StreamOk.l1 k i a b it gr) gr.length (Ev.step (fun k => by rw [spec_StreamOk.l1, if_neg (by omega), l9Id_eq]) ?_) (fun i hi q hq => ?_)
    · refine Ev.all fun k => ?_
      cases idB a b
      · rfl
      by_cases q : it.length ≤ 16
      · rw [decide_eq_true q]
        show (if (it.length : Int) ≤ 16 then _ else _) = _
        rw [if_pos (by omega)]
        simp
        omega
      · rw [decide_eq_false q]
        show (if (it.length : Int) ≤ 16 then _ else _) = _
        rw [if_neg (by omega)]
        rfl
    have hj : ∀ x : Bool, Ev (fun k => spec_StreamOk.j3 k i (!x) a b it gr) (x && q) := by
      intro x
      cases x
      · exact Ev.one fun k => by rw [spec_StreamOk.j3]; rfl
      · refine Ev.step (fun k => by rw [spec_StreamOk.j3, if_neg (by decide), w64 (by omega) (by omega)]) ?_
        simpa using hq
    refine Ev.step (fun k => by rw [spec_StreamOk.l1, if_pos (by omega : (i : Int) < (gr.length : Int)), if_pos (by omega : (0 : Int) ≤ (i : Int))]) ?_
    refine Ev.bind (spec_group a b it gr _ _ _ _ (h.wait hi)) ?_
    unfold groupP
    cases (groupB (rd_T107 gr i).f0 (rd_T107 gr i).f1.f0 (rd_T107 gr i).f1.f1 (rd_T107 gr i).f2 && !lessB a b (rd_T107 gr i).f1.f0 (rd_T107 gr i).f1.f1)
    · exact hj false
    refine Ev.pos rfl ?_
    cases i with
    | zero => exact Ev.neg (by omega) (hj true)
    | succ j =>
      refine Ev.pos (by omega) ?_
      rw [prev_w j (by omega)]
      exact Ev.pos (by omega) (Ev.pos (by omega) (hj _))
  unfold spec_StreamOk.f
  refine Ev.loopAll (g := fun k i => spec_StreamOk.l0 k i a b it gr) it.length (Ev.step (fun k => by rw [spec_StreamOk.l0, if_neg (by omega)]) h1) (fun i hi q hq => ?_)
  have hj : ∀ x : Bool, Ev (fun k => spec_StreamOk.j1 k i (!x) a b it gr) (x && q) := by
    intro x
    cases x
    · exact Ev.one fun k => by rw [spec_StreamOk.j1]; rfl
    · refine Ev.step (fun k => by rw [spec_StreamOk.j1, if_neg (by decide), w64 (by omega) (by omega)]) ?_
      simpa using hq
  refine Ev.step (fun k => by rw [spec_StreamOk.l0, if_pos (by omega : (i : Int) < (it.length : Int)), if_pos (by omega : (0 : Int) ≤ (i : Int)), l9Id_eq, spec_less]) ?_
  unfold itemP
  cases idB (rd_T66 it i).f0.f0 (rd_T66 it i).f0.f1
  · exact hj false
  cases lessB a b (rd_T66 it i).f0.f0 (rd_T66 it i).f0.f1
  rotate_left
  · exact hj false
  show Ev (fun k => (spec_FieldsOk.f k (rd_T66 it i).f1).bind _) _
  refine Ev.bind (spec_fields _ (h.field hi)) ?_
  cases fieldsB (rd_T66 it i).f1
  · exact hj false
  refine Ev.pos rfl (Ev.ite (fun h => ?_) (fun h => ?_))
  · rw [decide_eq_false (by omega)]
    exact Ev.eq (hj false) (by simp)
  rw [decide_eq_true (by omega)]
  cases i with
  | zero => exact Ev.neg (by omega) (hj true)
  | succ j =>
    refine Ev.pos (by omega) ?_
    rw [prev_w j (by omega)]
    refine Ev.pos (by omega) (Ev.pos (by omega) ?_)
    simp only [spec_less, Option.bind_some]
    exact hj _
end Go.Proofs.Ytofiljboaegekaa.UFnExactStreamOk
namespace Go.Proofs.Ytofiljboaegekaa.UFnExactStreamOk
open Go.RowKit Go.Proofs.Ytofiljboaegekaa.PFnExactStreamOk Go.Proofs.Ytofiljboaegekaa.Base Go.Proofs.YtofiljboaegekaaW.PrintWords Go.Proofs.YtofiljboaegekaaW.PrintLast Go.Proofs.YtofiljboaegekaaW.PrintMore
theorem Ev.loopTrue {g : Nat → Int → Option Bool} (n : Nat) (hend : Ev (fun k => g k (n : Int)) true) (hstep : ∀ i : Nat, i < n → Ev (fun k => g k ((i : Int) + 1)) true → Ev (fun k => g k (i : Int)) true) : Ev (fun k => g k 0) true := by
  obtain ⟨r, rfl, hr⟩ := Ev.loopInv (g := fun k (_ : Unit) i => g k i) (I := fun _ _ => True) (R := fun r => r = true) n (fun _ _ => ⟨true, rfl, hend⟩) (fun i hi s _ ih => by
    obtain ⟨r, rfl, hr⟩ := ih () trivial
    exact ⟨true, rfl, hstep i hi hr⟩) () trivial
  exact hr
theorem eqId_self (a b : Int) : laws_eqId.f a b a b = some true := by simp [laws_eqId.f]
theorem eqPair_self (a b : ByteArray) : laws_eqPair.f a b a b = some true := by simp [laws_eqPair.f]
theorem eqPairS_self (l : List SPair) (h : l.length < 2 ^ 60) : Ev (fun k => laws_eqPairS.f k l l) true := by
  unfold laws_eqPairS.f
  refine Ev.pos rfl (Ev.loopTrue (g := fun k i => laws_eqPairS.l0 k l l i) l.length (Ev.one fun k => by rw [laws_eqPairS.l0, if_neg (by omega)]) (fun i hi hr => ?_))
  refine Ev.step (fun k => by rw [laws_eqPairS.l0, if_pos (by omega : (i : Int) < (l.length : Int)), if_pos (by omega : (0 : Int) ≤ (i : Int)), if_pos (by omega : (i : Int) < (l.length : Int))]) (Ev.pure (eqPair_self _ _) (Ev.pos rfl ?_))
  rw [w64 (by omega) (by omega)]
  exact hr
theorem eqItem_self (a b : Int) (l : List SPair) (h : l.length < 2 ^ 60) : Ev (fun k => laws_eqItem.f k a b l a b l) true := by
  unfold laws_eqItem.f
  exact Ev.pure (eqId_self a b) (Ev.pos rfl (Ev.bind (eqPairS_self l h) (Ev.pos rfl (Ev.now _))))
theorem eqWait_self (a b : Int) (s : ByteArray) (c d : Int) : laws_eqWait.f a b s c d a b s c d = some true := by
  unfold laws_eqWait.f
  rw [eqId_self]
  simp
theorem eqWaitS_self (l : List SWait) (h : l.length < 2 ^ 60) : Ev (fun k => laws_eqWaitS.f k l l) true := by
  unfold laws_eqWaitS.f
  refine Ev.pos rfl (Ev.loopTrue (g := fun k i => laws_eqWaitS.l0 k l l i) l.length (Ev.one fun k => by rw [laws_eqWaitS.l0, if_neg (by omega)]) (fun i hi hr => ?_))
  refine Ev.step (fun k => by rw [laws_eqWaitS.l0, if_pos (by omega : (i : Int) < (l.length : Int)), if_pos (by omega : (0 : Int) ≤ (i : Int)), if_pos (by omega : (i : Int) < (l.length : Int))]) (Ev.pure (eqWait_self _ _ _ _ _) (Ev.pos rfl ?_))
  rw [w64 (by omega) (by omega)]
  exact hr
theorem eqGroup_self (n : ByteArray) (a b : Int) (l : List SWait) (h : l.length < 2 ^ 60) : Ev (fun k => laws_eqGroup.f k n a b l n a b l) true := by
  unfold laws_eqGroup.f
  exact Ev.pos rfl (Ev.pure (eqId_self a b) (Ev.pos rfl (Ev.bind (eqWaitS_self l h) (Ev.pos rfl (Ev.now _)))))
theorem eqItemS_self (l : List SItem) (h : l.length < 2 ^ 60) (h2 : ∀ i : Nat, i < l.length → (rd_T66 l i).f1.length < 2 ^ 60) : Ev (fun k => laws_eqItemS.f k l l) true := by
  unfold laws_eqItemS.f
  refine Ev.pos rfl (Ev.loopTrue (g := fun k i => laws_eqItemS.l0 k l l i) l.length (Ev.one fun k => by rw [laws_eqItemS.l0, if_neg (by omega)]) (fun i hi hr => ?_))
  refine Ev.step (fun k => by rw [laws_eqItemS.l0, if_pos (by omega : (i : Int) < (l.length : Int)), if_pos (by omega : (0 : Int) ≤ (i : Int)), if_pos (by omega : (i : Int) < (l.length : Int))]) (Ev.bind (eqItem_self _ _ _ (h2 i hi)) (Ev.pos rfl ?_))
  rw [w64 (by omega) (by omega)]
  exact hr
theorem eqGroupS_self (l : List SGroup) (h : l.length < 2 ^ 60) (h2 : ∀ i : Nat, i < l.length → (rd_T107 l i).f2.length < 2 ^ 60) : Ev (fun k => laws_eqGroupS.f k l l) true := by
  unfold laws_eqGroupS.f
  refine Ev.pos rfl (Ev.loopTrue (g := fun k i => laws_eqGroupS.l0 k l l i) l.length (Ev.one fun k => by rw [laws_eqGroupS.l0, if_neg (by omega)]) (fun i hi hr => ?_))
  refine Ev.step (fun k => by rw [laws_eqGroupS.l0, if_pos (by omega : (i : Int) < (l.length : Int)), if_pos (by omega : (0 : Int) ≤ (i : Int)), if_pos (by omega : (i : Int) < (l.length : Int))]) (Ev.bind (eqGroup_self _ _ _ _ (h2 i hi)) (Ev.pos rfl ?_))
  rw [w64 (by omega) (by omega)]
  exact hr
theorem eqStream_self (a b : Int) (it : List SItem) (gr : List SGroup) (h : Fits it gr) : Ev (fun k => laws_eqStream.f k a b it gr a b it gr) true := by
  unfold laws_eqStream.f
  exact Ev.pure (eqId_self a b) (Ev.pos rfl (Ev.bind (eqItemS_self it h.items (fun i hi => h.field hi)) (Ev.pos rfl (Ev.bind (eqGroupS_self gr h.groups (fun i hi => h.wait hi)) (Ev.pos rfl (Ev.now _))))))
end Go.Proofs.Ytofiljboaegekaa.UFnExactStreamOk
namespace Go.Proofs.Ytofiljboaegekaa.UFnExactStreamOk
open Go.RowKit Go.Proofs.Ytofiljboaegekaa.PFnExactStreamOk Go.Proofs.Ytofiljboaegekaa.Base Go.Proofs.YtofiljboaegekaaW.PrintWords Go.Proofs.YtofiljboaegekaaW.PrintLast Go.Proofs.YtofiljboaegekaaW.PrintMore
def cPair (x : S213) : S136 := ⟨x.f0, x.f1⟩
def cId (x : S23) : S30 := ⟨x.f0, x.f1⟩
def cItem (x : S163) : S66 := ⟨cId x.f0, x.f1.map cPair⟩
def cWait (x : S216) : S57 := ⟨cId x.f0, x.f1, x.f2, x.f3⟩
def cGroup (x : S167) : S107 := ⟨x.f0, cId x.f1, x.f2.map cWait⟩
theorem toPairS_ev (l : List S213) (h : l.length ≤ 8796093022208) : Ev (fun k => laws_toPairS.f k l) (l.map cPair) := by
  unfold laws_toPairS.f
  refine Ev.pos (by omega) (Ev.pos (by rw [Int.toNat_natCast]; exact h) ?_)
  rw [Int.toNat_natCast]
  refine Ev.loopFill (g := fun k s i => laws_toPairS.l0 k l s i) cPair l _ z213 (fun s hs => Ev.one fun k => by rw [laws_toPairS.l0, if_neg (by omega)]) (fun i hi s hs r hr => ?_)
  refine Ev.step (fun k => by rw [laws_toPairS.l0, if_pos (by omega : (i : Int) < (l.length : Int)), if_pos (by omega : (0 : Int) ≤ (i : Int))]) ?_
  refine Ev.pure rfl (Ev.pos (by omega) ?_)
  rw [w64 (by omega) (by omega)]
  exact hr
theorem toItem_ev (x : S163) (h : x.f1.length ≤ 8796093022208) : Ev (fun k => laws_toItem.f k x.f0.f0 x.f0.f1 x.f1) (x.f0.f0, x.f0.f1, x.f1.map cPair) := by
  unfold laws_toItem.f
  exact Ev.pure rfl (Ev.bind (toPairS_ev _ h) (Ev.now _))
theorem toItemS_ev (l : List S163) (h : l.length ≤ 7036874417766) (h2 : ∀ x ∈ l, x.f1.length ≤ 8796093022208) : Ev (fun k => laws_toItemS.f k l) (l.map cItem) := by
  unfold laws_toItemS.f
  refine Ev.pos (by omega) (Ev.pos (by rw [Int.toNat_natCast]; exact h) ?_)
  rw [Int.toNat_natCast]
  refine Ev.loopFill (g := fun k s i => laws_toItemS.l0 k l s i) cItem l _ z163 (fun s hs => Ev.one fun k => by rw [laws_toItemS.l0, if_neg (by omega)]) (fun i hi s hs r hr => ?_)
  refine Ev.step (fun k => by rw [laws_toItemS.l0, if_pos (by omega : (i : Int) < (l.length : Int)), if_pos (by omega : (0 : Int) ≤ (i : Int))]) ?_
  refine Ev.bind (toItem_ev (rd_T163 l i) (h2 _ ?_)) (Ev.pos (by omega) ?_)
  · unfold rd_T163
    rw [Int.toNat_natCast, getD_eq hi]
    exact List.getElem_mem hi
  rw [w64 (by omega) (by omega)]
  exact hr
theorem toWaitS_ev (l : List S216) (h : l.length ≤ 5864062014805) : Ev (fun k => laws_toWaitS.f k l) (l.map cWait) := by
  unfold laws_toWaitS.f
  refine Ev.pos (by omega) (Ev.pos (by rw [Int.toNat_natCast]; exact h) ?_)
  rw [Int.toNat_natCast]
  refine Ev.loopFill (g := fun k s i => laws_toWaitS.l0 k l s i) cWait l _ z216 (fun s hs => Ev.one fun k => by rw [laws_toWaitS.l0, if_neg (by omega)]) (fun i hi s hs r hr => ?_)
  refine Ev.step (fun k => by rw [laws_toWaitS.l0, if_pos (by omega : (i : Int) < (l.length : Int)), if_pos (by omega : (0 : Int) ≤ (i : Int))]) ?_
  refine Ev.pure rfl (Ev.pos (by omega) ?_)
  rw [w64 (by omega) (by omega)]
  exact hr
theorem toGroup_ev (x : S167) (h : x.f2.length ≤ 5864062014805) : Ev (fun k => laws_toGroup.f k x.f0 x.f1.f0 x.f1.f1 x.f2) (x.f0, x.f1.f0, x.f1.f1, x.f2.map cWait) := by
  unfold laws_toGroup.f
  exact Ev.pure rfl (Ev.bind (toWaitS_ev _ h) (Ev.now _))
theorem toGroupS_ev (l : List S167) (h : l.length ≤ 5026338869833) (h2 : ∀ x ∈ l, x.f2.length ≤ 5864062014805) : Ev (fun k => laws_toGroupS.f k l) (l.map cGroup) := by
  unfold laws_toGroupS.f
  refine Ev.pos (by omega) (Ev.pos (by rw [Int.toNat_natCast]; exact h) ?_)
  rw [Int.toNat_natCast]
  refine Ev.loopFill (g := fun k s i => laws_toGroupS.l0 k l s i) cGroup l _ z167 (fun s hs => Ev.one fun k => by rw [laws_toGroupS.l0, if_neg (by omega)]) (fun i hi s hs r hr => ?_)
  refine Ev.step (fun k => by rw [laws_toGroupS.l0, if_pos (by omega : (i : Int) < (l.length : Int)), if_pos (by omega : (0 : Int) ≤ (i : Int))]) ?_
  refine Ev.bind (toGroup_ev (rd_T167 l i) (h2 _ ?_)) (Ev.pos (by omega) ?_)
  · unfold rd_T167
    rw [Int.toNat_natCast, getD_eq hi]
    exact List.getElem_mem hi
  rw [w64 (by omega) (by omega)]
  exact hr
structure FitsL (it : List S163) (gr : List S167) : Prop where
  items : it.length ≤ 5026338869833
  fields : ∀ x ∈ it, x.f1.length ≤ 5026338869833
  groups : gr.length ≤ 5026338869833
  waits : ∀ x ∈ gr, x.f2.length ≤ 5026338869833
theorem toStream_ev (a b : Int) (it : List S163) (gr : List S167) (h : FitsL it gr) : Ev (fun k => laws_toStream.f k a b it gr) (a, b, it.map cItem, gr.map cGroup) := by
  unfold laws_toStream.f
  exact Ev.pure rfl (Ev.bind (toItemS_ev it (by have := h.items; omega) (fun x hx => by have := h.fields x hx; omega)) (Ev.bind (toGroupS_ev gr h.groups (fun x hx => by have := h.waits x hx; omega)) (Ev.now _)))
end Go.Proofs.Ytofiljboaegekaa.UFnExactStreamOk
namespace Go.Proofs.Ytofiljboaegekaa.UFnExactStreamOk
open Go.RowKit Go.Proofs.Ytofiljboaegekaa.PFnExactStreamOk Go.Proofs.Ytofiljboaegekaa.Base Go.Proofs.YtofiljboaegekaaW.PrintWords Go.Proofs.YtofiljboaegekaaW.PrintLast Go.Proofs.YtofiljboaegekaaW.PrintMore
theorem ite_some {c : Prop} [Decidable c] (x y : Int) : ∃ t, (if c then some x else some y) = some t := by by_cases h : c <;> simp [h]
theorem szPair_some (a b : ByteArray) (c : Int) : ∃ t, laws_szPair.f a b c = some t := by
  unfold laws_szPair.f
  split
  · exact ⟨_, rfl⟩
  · exact ite_some _ _
theorem szWait_some (a b : Int) (s : ByteArray) (c d e : Int) : ∃ t, laws_szWait.f a b s c d e = some t := by
  unfold laws_szWait.f
  exact ite_some _ _
theorem szPairS_ev (l : List S213) (h : l.length < 2 ^ 60) (c : Int) : ∃ t, Ev (fun k => laws_szPairS.f k l c) t := by
  unfold laws_szPairS.f
  by_cases q : wrap64 (c - (l.length : Int)) < 0
  · exact ⟨-1, Ev.pos q (Ev.now _)⟩
  obtain ⟨r, _, hr⟩ := Ev.loopInv (g := fun k s i => laws_szPairS.l0 k l s i) (I := fun _ _ => True) (R := fun _ => True) l.length (fun s _ => ⟨s, trivial, Ev.one fun k => by rw [laws_szPairS.l0, if_neg (by omega)]⟩) (fun i hi s _ ih => by
    obtain ⟨t, ht⟩ := szPair_some (rd_T213 l i).f0 (rd_T213 l i).f1 s
    by_cases ht0 : t < 0
    · refine ⟨-1, trivial, Ev.step (fun k => by rw [laws_szPairS.l0, if_pos (by omega : (i : Int) < (l.length : Int)), if_pos (by omega : (0 : Int) ≤ (i : Int))]) ?_⟩
      exact Ev.pure ht (Ev.pos ht0 (Ev.now _))
    · obtain ⟨r, hr, hE⟩ := ih t trivial
      refine ⟨r, trivial, Ev.step (fun k => by rw [laws_szPairS.l0, if_pos (by omega : (i : Int) < (l.length : Int)), if_pos (by omega : (0 : Int) ≤ (i : Int))]) ?_⟩
      refine Ev.pure ht (Ev.neg ht0 ?_)
      rw [w64 (by omega) (by omega)]
      exact hE) (wrap64 (c - (l.length : Int))) trivial
  exact ⟨r, Ev.neg q hr⟩
theorem szItem_ev (a b : Int) (l : List S213) (h : l.length < 2 ^ 60) (c : Int) : ∃ t, Ev (fun k => laws_szItem.f k a b l c) t := by
  unfold laws_szItem.f
  obtain ⟨t, ht⟩ := szPairS_ev l h c
  by_cases q : t < 0
  · exact ⟨-1, Ev.bind ht (Ev.pos q (Ev.now _))⟩
  · exact ⟨t, Ev.bind ht (Ev.neg q (Ev.now _))⟩
theorem szItemS_ev (l : List S163) (h : l.length < 2 ^ 60) (h2 : ∀ x ∈ l, x.f1.length < 2 ^ 60) (c : Int) : ∃ t, Ev (fun k => laws_szItemS.f k l c) t := by
  unfold laws_szItemS.f
  by_cases q : wrap64 (c - (l.length : Int)) < 0
  · exact ⟨-1, Ev.pos q (Ev.now _)⟩
  obtain ⟨r, _, hr⟩ := Ev.loopInv (g := fun k s i => laws_szItemS.l0 k l s i) (I := fun _ _ => True) (R := fun _ => True) l.length (fun s _ => ⟨s, trivial, Ev.one fun k => by rw [laws_szItemS.l0, if_neg (by omega)]⟩) (fun i hi s _ ih => by
    obtain ⟨t, ht⟩ := szItem_ev (rd_T163 l i).f0.f0 (rd_T163 l i).f0.f1 (rd_T163 l i).f1 (h2 _ (by
      unfold rd_T163
      rw [Int.toNat_natCast, getD_eq hi]
      exact List.getElem_mem hi)) s
    by_cases ht0 : t < 0
    · refine ⟨-1, trivial, Ev.step (fun k => by rw [laws_szItemS.l0, if_pos (by omega : (i : Int) < (l.length : Int)), if_pos (by omega : (0 : Int) ≤ (i : Int))]) ?_⟩
      exact Ev.bind ht (Ev.pos ht0 (Ev.now _))
    · obtain ⟨r, hr, hE⟩ := ih t trivial
      refine ⟨r, trivial, Ev.step (fun k => by rw [laws_szItemS.l0, if_pos (by omega : (i : Int) < (l.length : Int)), if_pos (by omega : (0 : Int) ≤ (i : Int))]) ?_⟩
      refine Ev.bind ht (Ev.neg ht0 ?_)
      rw [w64 (by omega) (by omega)]
      exact hE) (wrap64 (c - (l.length : Int))) trivial
  exact ⟨r, Ev.neg q hr⟩
theorem szWaitS_ev (l : List S216) (h : l.length < 2 ^ 60) (c : Int) : ∃ t, Ev (fun k => laws_szWaitS.f k l c) t := by
  unfold laws_szWaitS.f
  by_cases q : wrap64 (c - (l.length : Int)) < 0
  · exact ⟨-1, Ev.pos q (Ev.now _)⟩
  obtain ⟨r, _, hr⟩ := Ev.loopInv (g := fun k s i => laws_szWaitS.l0 k l s i) (I := fun _ _ => True) (R := fun _ => True) l.length (fun s _ => ⟨s, trivial, Ev.one fun k => by rw [laws_szWaitS.l0, if_neg (by omega)]⟩) (fun i hi s _ ih => by
    obtain ⟨t, ht⟩ := szWait_some (rd_T216 l i).f0.f0 (rd_T216 l i).f0.f1 (rd_T216 l i).f1 (rd_T216 l i).f2 (rd_T216 l i).f3 s
    by_cases ht0 : t < 0
    · refine ⟨-1, trivial, Ev.step (fun k => by rw [laws_szWaitS.l0, if_pos (by omega : (i : Int) < (l.length : Int)), if_pos (by omega : (0 : Int) ≤ (i : Int))]) ?_⟩
      exact Ev.pure ht (Ev.pos ht0 (Ev.now _))
    · obtain ⟨r, hr, hE⟩ := ih t trivial
      refine ⟨r, trivial, Ev.step (fun k => by rw [laws_szWaitS.l0, if_pos (by omega : (i : Int) < (l.length : Int)), if_pos (by omega : (0 : Int) ≤ (i : Int))]) ?_⟩
      refine Ev.pure ht (Ev.neg ht0 ?_)
      rw [w64 (by omega) (by omega)]
      exact hE) (wrap64 (c - (l.length : Int))) trivial
  exact ⟨r, Ev.neg q hr⟩
theorem szGroup_ev (n : ByteArray) (a b : Int) (l : List S216) (h : l.length < 2 ^ 60) (c : Int) : ∃ t, Ev (fun k => laws_szGroup.f k n a b l c) t := by
  unfold laws_szGroup.f
  by_cases q0 : wrap64 (c - (n.size : Int)) < 0
  · exact ⟨-1, Ev.pos q0 (Ev.now _)⟩
  obtain ⟨t, ht⟩ := szWaitS_ev l h (wrap64 (c - (n.size : Int)))
  by_cases q : t < 0
  · exact ⟨-1, Ev.neg q0 (Ev.bind ht (Ev.pos q (Ev.now _)))⟩
  · exact ⟨t, Ev.neg q0 (Ev.bind ht (Ev.neg q (Ev.now _)))⟩
theorem szGroupS_ev (l : List S167) (h : l.length < 2 ^ 60) (h2 : ∀ x ∈ l, x.f2.length < 2 ^ 60) (c : Int) : ∃ t, Ev (fun k => laws_szGroupS.f k l c) t := by
  unfold laws_szGroupS.f
  by_cases q : wrap64 (c - (l.length : Int)) < 0
  · exact ⟨-1, Ev.pos q (Ev.now _)⟩
  obtain ⟨r, _, hr⟩ := Ev.loopInv (g := fun k s i => laws_szGroupS.l0 k l s i) (I := fun _ _ => True) (R := fun _ => True) l.length (fun s _ => ⟨s, trivial, Ev.one fun k => by rw [laws_szGroupS.l0, if_neg (by omega)]⟩) (fun i hi s _ ih => by
    obtain ⟨t, ht⟩ := szGroup_ev (rd_T167 l i).f0 (rd_T167 l i).f1.f0 (rd_T167 l i).f1.f1 (rd_T167 l i).f2 (h2 _ (by
      unfold rd_T167
      rw [Int.toNat_natCast, getD_eq hi]
      exact List.getElem_mem hi)) s
    by_cases ht0 : t < 0
    · refine ⟨-1, trivial, Ev.step (fun k => by rw [laws_szGroupS.l0, if_pos (by omega : (i : Int) < (l.length : Int)), if_pos (by omega : (0 : Int) ≤ (i : Int))]) ?_⟩
      exact Ev.bind ht (Ev.pos ht0 (Ev.now _))
    · obtain ⟨r, hr, hE⟩ := ih t trivial
      refine ⟨r, trivial, Ev.step (fun k => by rw [laws_szGroupS.l0, if_pos (by omega : (i : Int) < (l.length : Int)), if_pos (by omega : (0 : Int) ≤ (i : Int))]) ?_⟩
      refine Ev.bind ht (Ev.neg ht0 ?_)
      rw [w64 (by omega) (by omega)]
      exact hE) (wrap64 (c - (l.length : Int))) trivial
  exact ⟨r, Ev.neg q hr⟩
theorem szStream_ev (a b : Int) (it : List S163) (gr : List S167) (h : FitsL it gr) (c : Int) : ∃ t, Ev (fun k => laws_szStream.f k a b it gr c) t := by
  unfold laws_szStream.f
  obtain ⟨t, ht⟩ := szItemS_ev it (by have := h.items; omega) (fun x hx => by have := h.fields x hx; omega) c
  by_cases q : t < 0
  · exact ⟨-1, Ev.bind ht (Ev.pos q (Ev.now _))⟩
  obtain ⟨t2, ht2⟩ := szGroupS_ev gr (by have := h.groups; omega) (fun x hx => by have := h.waits x hx; omega) t
  by_cases q2 : t2 < 0
  · exact ⟨-1, Ev.bind ht (Ev.neg q (Ev.bind ht2 (Ev.pos q2 (Ev.now _))))⟩
  · exact ⟨t2, Ev.bind ht (Ev.neg q (Ev.bind ht2 (Ev.neg q2 (Ev.now _))))⟩
end Go.Proofs.Ytofiljboaegekaa.UFnExactStreamOk
namespace Go.Proofs.Ytofiljboaegekaa.Pure
open Go.RowKit Go.Proofs.Ytofiljboaegekaa.PFnExactStreamOk Go.Proofs.Ytofiljboaegekaa.UFnExactStreamOk Go.Proofs.Ytofiljboaegekaa.Base Go.Proofs.YtofiljboaegekaaW.PrintWords Go.Proofs.YtofiljboaegekaaW.PrintLast Go.Proofs.YtofiljboaegekaaW.PrintMore
theorem fits_of {a b : Int} {it : List S163} {gr : List S167} (h : good27 (⟨(⟨a, b⟩ : S23), it, gr⟩ : S27)) : FitsL it gr := by
  obtain ⟨_, ⟨h1, h2⟩, h3, h4⟩ := h
  dsimp only at h1 h2 h3 h4
  refine ⟨by omega, fun x hx => ?_, by omega, fun x hx => ?_⟩
  · obtain ⟨_, q, _⟩ := h2 x hx
    omega
  · obtain ⟨_, _, q, _⟩ := h4 x hx
    omega
theorem fits_map {it : List S163} {gr : List S167} (h : FitsL it gr) : Fits (it.map cItem) (gr.map cGroup) := by
  refine ⟨by have := h.items; rw [List.length_map]; omega, fun x hx => ?_, by have := h.groups; rw [List.length_map]; omega, fun x hx => ?_⟩
  · obtain ⟨y, hy, rfl⟩ := List.mem_map.1 hx
    have := h.fields y hy
    show (y.f1.map cPair).length < _
    rw [List.length_map]
    omega
  · obtain ⟨y, hy, rfl⟩ := List.mem_map.1 hx
    have := h.waits y hy
    show (y.f2.map cWait).length < _
    rw [List.length_map]
    omega
theorem FnExactStreamOk : laws_FnExactStreamOk.Pure := by
  intro a b it gr hg
  have hL := fits_of hg
  have hF := fits_map hL
  refine Ev.rounds ?_
  unfold laws_FnExactStreamOk.f
  obtain ⟨t, ht⟩ := szStream_ev a b it gr hL 1048576
  have hT := toStream_ev a b it gr hL
  refine Ev.bind ht (Ev.ite (fun _ => Ev.now _) (fun _ => Ev.bind hT (Ev.bind (spec_ok _ _ _ _ hF) (Ev.bind hT (Ev.bind (impl_ok _ _ _ _ hF) (Ev.neg (by simp) (Ev.bind hT (Ev.bind (eqStream_self _ _ _ _ hF) (Ev.pos rfl (Ev.now _))))))))))
end Go.Proofs.Ytofiljboaegekaa.Pure
