/- Texts of this claim, packed: walks and laws that its row stands on. Each states its own conditions. -/
import Derived.Test.YtofiljboaegekaaBFnExactStreamOk0
namespace Go.Proofs.Ytofiljboaegekaa.PFnExactStreamOk
open Go.RowKit Go.Proofs.YtofiljboaegekaaW.PrintWords Go.Proofs.YtofiljboaegekaaW.PrintLast Go.Proofs.YtofiljboaegekaaW.PrintMore Go.Proofs.Ytofiljboaegekaa.Reg
attribute [local go_sem] max2_int min2_int max_two min_two max_three min_three max_four min_four
set_option linter.unusedVariables false
set_option linter.unusedSimpArgs false
mutual
def spec_l9Group.l0 : Nat → Int → Int → Int → List (S66) → List (S107) → ByteArray → Int → Int → List (S57) → Option (Bool)
 | 0, _, _, _, _, _, _, _, _, _ => none
 | k + 1, x5, x129000, x129001, x129002, x129003, x130000, x130001, x130002, x130003 => if x5 < (x130003.length : Int) then (if 0 ≤ x5 then ((spec_l9Id.f ((rd_T57 x130003 x5).f0.f0) ((rd_T57 x130003 x5).f0.f1)).bind fun t132 => (if t132 = true then ((spec_IdLess.f x130001 x130002 ((rd_T57 x130003 x5).f0.f0) ((rd_T57 x130003 x5).f0.f1)).bind fun t133 => (if t133 = true then (spec_l9Group.j1 k x5 true x129000 x129001 x129002 x129003 x130000 x130001 x130002 x130003) else ((spec_l4Key.f ((rd_T57 x130003 x5).f1)).bind fun t134 => (if t134 = true then ((spec_l1In.f ((rd_T57 x130003 x5).f2) 0 1000000).bind fun t135 => (if t135 = true then ((spec_l1In.f ((rd_T57 x130003 x5).f3) 1 1000000000).bind fun t136 => (if t136 = true then (if x5 > 0 then (if 0 ≤ (wrap64 (x5 - 1)) then (if (wrap64 (x5 - 1)) < (x130003.length : Int) then ((spec_IdLess.f ((rd_T57 x130003 (wrap64 (x5 - 1))).f0.f0) ((rd_T57 x130003 (wrap64 (x5 - 1))).f0.f1) ((rd_T57 x130003 x5).f0.f0) ((rd_T57 x130003 x5).f0.f1)).bind fun t138 => (spec_l9Group.j1 k x5 (!t138) x129000 x129001 x129002 x129003 x130000 x130001 x130002 x130003)) else (none)) else (none)) else (spec_l9Group.j1 k x5 false x129000 x129001 x129002 x129003 x130000 x130001 x130002 x130003)) else (spec_l9Group.j1 k x5 true x129000 x129001 x129002 x129003 x130000 x130001 x130002 x130003))) else (spec_l9Group.j1 k x5 true x129000 x129001 x129002 x129003 x130000 x130001 x130002 x130003))) else (spec_l9Group.j1 k x5 true x129000 x129001 x129002 x129003 x130000 x130001 x130002 x130003))))) else (spec_l9Group.j1 k x5 true x129000 x129001 x129002 x129003 x130000 x130001 x130002 x130003))) else (none)) else ((spec_l4Key.f x130000).bind fun t139 => (if t139 = true then ((spec_l9Id.f x130001 x130002).bind fun t140 => (if t140 = true then ((spec_IdLess.f x129000 x129001 x130001 x130002).bind fun t141 => (if t141 = true then (some false) else (some (decide ((x130003.length : Int) ≤ 16))))) else (some false))) else (some false)))
def spec_l9Group.j1 : Nat → Int → Bool → Int → Int → List (S66) → List (S107) → ByteArray → Int → Int → List (S57) → Option (Bool)
 | 0, _, _, _, _, _, _, _, _, _, _ => none
 | k + 1, x5, x64, x129000, x129001, x129002, x129003, x130000, x130001, x130002, x130003 => if x64 = true then (some false) else (spec_l9Group.l0 k (wrap64 (x5 + 1)) x129000 x129001 x129002 x129003 x130000 x130001 x130002 x130003)
end
def spec_l9Group.f (k : Nat) (a0_0 : Int) (a0_1 : Int) (l0_2 : List (S66)) (l0_3 : List (S107)) (a1_0 : ByteArray) (a1_1 : Int) (a1_2 : Int) (l1_3 : List (S57)) : Option (Bool) := spec_l9Group.l0 k 0 a0_0 a0_1 l0_2 l0_3 a1_0 a1_1 a1_2 l1_3
def spec_l9Group.T5 : Bool × List (List Nat × List Nat) := (true, [([], []), ([0], [0]), ([1], [1]), ([2], [2]), ([3, 2], [3]), ([4], [4]), ([5, 4], [4, 5]), ([4], [4]), ([7, 4], [4, 7]), ([6, 8, 4, 4], [4, 6, 8]), ([4, 9], [4, 9]), ([10, 9], [10]), ([11], [11]), ([12, 11], [11, 12]), ([13, 11, 11], [11, 13]), ([14, 11], [11, 14]), ([11, 15], [11, 15]), ([16, 14], [16]), ([17], [17]), ([18, 17], [17, 18]), ([19, 17, 17], [17, 19]), ([20, 17], [17, 20]), ([17, 21], [17, 21]), ([22, 20], [22]), ([23], [23]), ([24, 23], [23, 24]), ([25, 23, 23], [23, 25]), ([26, 23], [23, 26]), ([23, 27], [23, 27]), ([28, 26], [28]), ([29], [29]), ([30, 29], [29, 30]), ([31, 29, 29], [29, 31]), ([32], [32]), ([33, 32], [32, 33]), ([32], [32]), ([35, 32], [32, 35]), ([34, 36, 32], [32, 34, 36]), ([37, 32], [32, 37]), ([38, 32], [32, 38]), ([32], [32]), ([40, 32], [32, 40]), ([39, 41, 32, 32], [32, 39, 41]), ([42, 32], [32, 42]), ([32, 43, 29], [29, 32, 43]), ([29, 44], [29, 44])])
def spec_l9Group.B5 : List Nat := [0, 1, 3, 7, 15, 31, 63, 31, 159, 511, 1023, 2047, 4095, 8191, 16383, 32767, 65535, 131071, 262143, 524287, 1048575, 2097151, 4194303, 8388607, 16777215, 33554431, 67108863, 134217727, 268435455, 536870911, 1073741823, 2147483647, 4294967295, 8589934591, 17179869183, 8589934591, 42949672959, 137438953471, 274877906943, 549755813887, 8589934591, 1108101562367, 4398046511103, 8796093022207, 17592186044415, 35184372088831]
theorem spec_l9Group.tab5 : rtab .any (opsOf Try.f71 5) = spec_l9Group.T5 := by kernel_rfl
theorem spec_l9Group.bits5 : waitsOk spec_l9Group.T5.2 spec_l9Group.B5 = true := by kernel_rfl
set_option maxHeartbeats 8000000 in
set_option maxRecDepth 100000 in
theorem spec_l9Group.calls (k : Nat) (a0_0 : Int) (a0_1 : Int) (A0_2 : Option Addr) (c0_2 : Nat) (l0_2 : List (S66)) (A0_3 : Option Addr) (c0_3 : Nat) (l0_3 : List (S107)) (a1_0 : ByteArray) (a1_1 : Int) (a1_2 : Int) (A1_3 : Option Addr) (c1_3 : Nat) (l1_3 : List (S57)) (r : Bool) (w : World) (hr0_2 : Kd.C k66 w A0_2 l0_2.length l0_2) (hc0_2 : l0_2.length ≤ c0_2) (hr0_3 : Kd.C k107 w A0_3 l0_3.length l0_3) (hc0_3 : l0_3.length ≤ c0_3) (hr1_3 : Kd.C k57 w A1_3 l1_3.length l1_3) (hc1_3 : l1_3.length ≤ c1_3) (h : spec_l9Group.f k a0_0 a0_1 l0_2 l0_3 a1_0 a1_1 a1_2 l1_3 = some r) :
  Calls Try.prog 71 #[.agg #[.int .i64 a0_0, .int .i64 a0_1, .slice A0_2 l0_2.length c0_2, .slice A0_3 l0_3.length c0_3], .agg #[.string a1_0, .int .i64 a1_1, .int .i64 a1_2, .slice A1_3 l1_3.length c1_3]] w fun e w' => e = .returned (.bool r) ∧ Below w.heap.size w w' := by
 have hu34 := Try.underlying34
 have hu107 := Try.underlying107
 have hu57 := Try.underlying57
 have hu30 := Try.underlying30
 have HR0_2 := Aside0.mk hr0_2
 have HC0_2 := Aside0.mk hc0_2
 clear hr0_2 hc0_2
 have HR0_3 := Aside0.mk hr0_3
 have HC0_3 := Aside0.mk hc0_3
 clear hr0_3 hc0_3
 have HR1_3 := Aside0.mk hr1_3
 have HC1_3 := Aside0.mk hc1_3
 clear hr1_3 hc1_3
 have HB := Aside0.mk (Below.refl w.heap.size w)
 have H : (spec_l9Group.l0 k 0 a0_0 a0_1 l0_2 l0_3 a1_0 a1_1 a1_2 l1_3) = some r := h
 clear h
 have H' := Aside0.mk H
 clear H
 go_enter Try.func71, Try.ntmps71
 go_wp2_with (first | ((with_reducible refine gate_dst (N := 2) rfl ?_); (try (refine gate_guard (by rfl) ?_; dsimp only)); refine box_event ?hg (N := 2) ?hd (cs := #[.int .i64 a0_0, .int .i64 a0_1, .slice A0_2 l0_2.length c0_2, .slice A0_3 l0_3.length c0_3]) (t := 34) ?hr ?_; (case hd => rfl); (case hg => rfl); (case hr => first | (go_simp; done) | (go_simp; rfl)); intro gb128 hg w3 hbox hb; have n0_ := Aside0.mk (below_step (by repeat (first | (with_reducible first | exact HB.out | apply below_alloc | apply pw_below_drewN | apply below_drew1) | exact HB.out)) hb); have n1_ := Aside0.mk (hbox); have n2_ := Aside0.mk ((by rw [hg]; exact (below_size (by repeat (first | (with_reducible first | exact HB.out | apply below_alloc | apply pw_below_drewN | apply below_drew1) | exact HB.out))) : w.heap.size ≤ gb128)); have n3_ := Aside0.mk ((by rw [hg]; exact (below_size (by repeat (first | (with_reducible first | exact HB.out | apply below_alloc | apply pw_below_drewN | apply below_drew1) | exact HB.out))) : w.heap.size ≤ gb128)); clear HB; have HB := n0_; have BK128 := n1_; have GW128 := n2_; have GE128 := n3_; clear n0_ n1_ n2_ n3_; clear hb hbox hg) | ((with_reducible refine gate_dst (N := 3) rfl ?_); (try (refine gate_guard (by rfl) ?_; dsimp only)); refine box_event ?hg (N := 3) ?hd (cs := #[.string a1_0, .int .i64 a1_1, .int .i64 a1_2, .slice A1_3 l1_3.length c1_3]) (t := 107) ?hr ?_; (case hd => rfl); (case hg => rfl); (case hr => first | (go_simp; done) | (go_simp; rfl)); intro gb129 hg w4 hbox hb; have n0_ := Aside0.mk (blk_below (g := gb128) (o := .cells #[.int .i64 a0_0, .int .i64 a0_1, .slice A0_2 l0_2.length c0_2, .slice A0_3 l0_3.length c0_3] 34 (0, 0)) (by (with_reducible repeat (first | refine blk_drewN ?_ _ | refine blk_drew ?_ | refine blk_alloc ?_ _)); exact BK128.out) hb); have n1_ := Aside0.mk (below_step (by repeat (first | (with_reducible first | exact HB.out | apply below_alloc | apply pw_below_drewN | apply below_drew1 | refine below_set ?_ GE128.out) | exact HB.out)) hb); have n2_ := Aside0.mk (hbox); have n3_ := Aside0.mk ((by rw [hg]; exact (below_size (by repeat (first | (with_reducible first | exact HB.out | apply below_alloc | apply pw_below_drewN | apply below_drew1 | refine below_set ?_ GE128.out) | exact HB.out))) : w.heap.size ≤ gb129)); have n4_ := Aside0.mk ((by rw [hg]; exact (below_size (by repeat (first | (with_reducible first | exact HB.out | apply below_alloc | apply pw_below_drewN | apply below_drew1 | refine below_set ?_ GE128.out) | exact HB.out))) : w.heap.size ≤ gb129)); have n5_ := Aside0.mk ((by rw [hg]; exact Nat.ne_of_lt (blk_lt (g := gb128) (o := .cells #[.int .i64 a0_0, .int .i64 a0_1, .slice A0_2 l0_2.length c0_2, .slice A0_3 l0_3.length c0_3] 34 (0, 0)) (by (with_reducible repeat (first | refine blk_drewN ?_ _ | refine blk_drew ?_ | refine blk_alloc ?_ _)); exact BK128.out)) : gb128 ≠ gb129)); have n6_ := Aside0.mk ((by rw [hg]; exact Nat.ne_of_gt (blk_lt (g := gb128) (o := .cells #[.int .i64 a0_0, .int .i64 a0_1, .slice A0_2 l0_2.length c0_2, .slice A0_3 l0_3.length c0_3] 34 (0, 0)) (by (with_reducible repeat (first | refine blk_drewN ?_ _ | refine blk_drew ?_ | refine blk_alloc ?_ _)); exact BK128.out)) : gb129 ≠ gb128)); clear BK128; clear HB; have BK128 := n0_; have HB := n1_; have BK129 := n2_; have GW129 := n3_; have GE129 := n4_; have NB128_129 := n5_; have NB129_128 := n6_; clear n0_ n1_ n2_ n3_ n4_ n5_ n6_; clear hb hbox hg))
 go_loopg [5] k (fun kq v5 w' => ∃ (x5_1 : Int), v5 = .int .i64 x5_1 ∧ Aside0 (spec_l9Group.l0 kq x5_1 a0_0 a0_1 l0_2 l0_3 a1_0 a1_1 a1_2 l1_3 = some r) ∧ Aside0 (kq ≤ k) ∧ Aside0 (w'.heap[gb128]? = some (.cells #[.int .i64 a0_0, .int .i64 a0_1, (.slice A0_2 l0_2.length c0_2), (.slice A0_3 l0_3.length c0_3)] 34 (0, 0))) ∧ Aside0 (w'.heap[gb129]? = some (.cells #[.string a1_0, .int .i64 a1_1, .int .i64 a1_2, (.slice A1_3 l1_3.length c1_3)] 107 (0, 0))) ∧ Aside0 (Below w.heap.size w w'))
 case atStart => exact ⟨(0), (by first | rfl | (simp; done) | (simp [*]; done)), H', ⟨Nat.le_refl _⟩, ⟨by (with_reducible repeat (first | refine blk_drewN ?_ _ | refine blk_drew ?_ | refine blk_alloc ?_ _)); exact BK128.out⟩, ⟨by (with_reducible repeat (first | refine blk_drewN ?_ _ | refine blk_drew ?_ | refine blk_alloc ?_ _)); exact BK129.out⟩, ⟨by repeat (first | (with_reducible first | exact HB.out | apply below_alloc | apply pw_below_drewN | apply below_drew1 | refine below_set ?_ GE128.out | refine below_set ?_ GE129.out) | exact HB.out)⟩⟩
 case round =>
  clear H'
  try clear c1
  try clear p2
  obtain ⟨x5_1, rfl, HA, HK1, BK128, BK129, HB⟩ := hrel
  cases gk with
  | zero => exact absurd HA.out (by simp [spec_l9Group.l0])
  | succ k1 =>
   have H := HA.out
   clear HA
   simp only [spec_l9Group.l0] at H
   have HC5 := Aside0.mk H
   clear H
   have hnb6 := NB129_128.out
   have hnc6 := NB128_129.out
   have hcz7_0 : wr.cell? ⟨gb129, 0, none⟩ = some (.string a1_0) := (blk_cell BK129.out 0).trans rfl
   have hcz7_1 : wr.cell? ⟨gb129, 1, none⟩ = some (.int .i64 a1_1) := (blk_cell BK129.out 1).trans rfl
   have hcz7_2 : wr.cell? ⟨gb129, 2, none⟩ = some (.int .i64 a1_2) := (blk_cell BK129.out 2).trans rfl
   have hcz7_3 : wr.cell? ⟨gb129, 3, none⟩ = some (.slice A1_3 l1_3.length c1_3) := (blk_cell BK129.out 3).trans rfl
   have hfz7_0 := blk_frozen BK129.out 0
   have hfz7_1 := blk_frozen BK129.out 1
   have hfz7_2 := blk_frozen BK129.out 2
   have hfz7_3 := blk_frozen BK129.out 3
   go_upto_if 11 with (fail)
   have H := HC5.out
   clear HC5
   by_cases c8 : x5_1 < (l1_3.length : Int)
   ·rw [if_pos c8] at H
    have c8b0 : decide (x5_1 < (l1_3.length : Int)) = true := decide_eq_true c8
    clear c8
    (first | rw [c8b0] | rw [c8b1] | (simp only [i64_w, i32_w]; rw [c8b0]) | rw [c8b2] | skip)
    by_cases c9 : 0 ≤ x5_1
    ·rw [if_pos c9] at H
     have c9b0 : decide (0 ≤ x5_1) = true := decide_eq_true c9
     clear c9
     have HC10 := Aside0.mk H
     clear H
     have hnb11 := NB129_128.out
     have hnc11 := NB128_129.out
     have hcz12_0 : wr.cell? ⟨gb129, 0, none⟩ = some (.string a1_0) := (blk_cell BK129.out 0).trans rfl
     have hcz12_1 : wr.cell? ⟨gb129, 1, none⟩ = some (.int .i64 a1_1) := (blk_cell BK129.out 1).trans rfl
     have hcz12_2 : wr.cell? ⟨gb129, 2, none⟩ = some (.int .i64 a1_2) := (blk_cell BK129.out 2).trans rfl
     have hcz12_3 : wr.cell? ⟨gb129, 3, none⟩ = some (.slice A1_3 l1_3.length c1_3) := (blk_cell BK129.out 3).trans rfl
     have hfz12_0 := blk_frozen BK129.out 0
     have hfz12_1 := blk_frozen BK129.out 1
     have hfz12_2 := blk_frozen BK129.out 2
     have hfz12_3 := blk_frozen BK129.out 3
     have p130 := od (0 ≤ (x5_1 : Int))
     have q130 := od (x5_1 < (l1_3.length : Int))
     obtain ⟨ad130, e130, hx130_0, hx130_1, hx130_2, hx130_3, hx130_4⟩ := at_T57 HR1_3.out x5_1 p130 q130
     cases e130
     replace hx130_0 := (HB.out.cell (World.block_lt_of_cell? w _ hx130_0)).trans hx130_0
     replace hx130_1 := (HB.out.cell (World.block_lt_of_cell? w _ hx130_1)).trans hx130_1
     replace hx130_2 := (HB.out.cell (World.block_lt_of_cell? w _ hx130_2)).trans hx130_2
     replace hx130_3 := (HB.out.cell (World.block_lt_of_cell? w _ hx130_3)).trans hx130_3
     replace hx130_4 := (HB.out.cell (World.block_lt_of_cell? w _ hx130_4)).trans hx130_4
     replace p130 := eq_true p130
     replace q130 := eq_true q130
     go_upto_region 5 with (first | ((with_reducible refine gate_dst (N := 6) rfl ?_); (try (refine gate_guard (by rfl) ?_; dsimp only)); refine box_event ?hg (N := 6) ?hd (cs := #[.int .i64 0, .int .i64 0, .string (⟨#[]⟩ : ByteArray), .int .i64 0, .int .i64 0]) (t := 57) ?hr ?_; (case hd => rfl); (case hg => rfl); (case hr => first | (go_simp; done) | (go_simp; rfl)); intro gb131 hg w13 hbox hb; have n0_ := Aside0.mk (blk_below (g := gb128) (o := .cells #[.int .i64 a0_0, .int .i64 a0_1, .slice A0_2 l0_2.length c0_2, .slice A0_3 l0_3.length c0_3] 34 (0, 0)) (by (with_reducible repeat (first | refine blk_drewN ?_ _ | refine blk_drew ?_ | refine blk_alloc ?_ _)); exact BK128.out) hb); have n1_ := Aside0.mk (blk_below (g := gb129) (o := .cells #[.string a1_0, .int .i64 a1_1, .int .i64 a1_2, .slice (some ad130) l1_3.length c1_3] 107 (0, 0)) (by (with_reducible repeat (first | refine blk_drewN ?_ _ | refine blk_drew ?_ | refine blk_alloc ?_ _)); exact BK129.out) hb); have n2_ := Aside0.mk (below_step (by repeat (first | (with_reducible first | exact HB.out | apply below_alloc | apply pw_below_drewN | apply below_drew1 | refine below_set ?_ GE128.out | refine below_set ?_ GE129.out) | exact HB.out)) hb); have n3_ := Aside0.mk (hbox); have n4_ := Aside0.mk ((by rw [hg]; exact (below_size (by repeat (first | (with_reducible first | exact HB.out | apply below_alloc | apply pw_below_drewN | apply below_drew1 | refine below_set ?_ GE128.out | refine below_set ?_ GE129.out) | exact HB.out))) : w.heap.size ≤ gb131)); have n5_ := Aside0.mk ((by rw [hg]; exact (below_size (by repeat (first | (with_reducible first | exact HB.out | apply below_alloc | apply pw_below_drewN | apply below_drew1 | refine below_set ?_ GE128.out | refine below_set ?_ GE129.out) | exact HB.out))) : w.heap.size ≤ gb131)); have n6_ := Aside0.mk ((by rw [hg]; exact Nat.ne_of_lt (blk_lt (g := gb128) (o := .cells #[.int .i64 a0_0, .int .i64 a0_1, .slice A0_2 l0_2.length c0_2, .slice A0_3 l0_3.length c0_3] 34 (0, 0)) (by (with_reducible repeat (first | refine blk_drewN ?_ _ | refine blk_drew ?_ | refine blk_alloc ?_ _)); exact BK128.out)) : gb128 ≠ gb131)); have n7_ := Aside0.mk ((by rw [hg]; exact Nat.ne_of_gt (blk_lt (g := gb128) (o := .cells #[.int .i64 a0_0, .int .i64 a0_1, .slice A0_2 l0_2.length c0_2, .slice A0_3 l0_3.length c0_3] 34 (0, 0)) (by (with_reducible repeat (first | refine blk_drewN ?_ _ | refine blk_drew ?_ | refine blk_alloc ?_ _)); exact BK128.out)) : gb131 ≠ gb128)); have n8_ := Aside0.mk ((by rw [hg]; exact Nat.ne_of_lt (blk_lt (g := gb129) (o := .cells #[.string a1_0, .int .i64 a1_1, .int .i64 a1_2, .slice (some ad130) l1_3.length c1_3] 107 (0, 0)) (by (with_reducible repeat (first | refine blk_drewN ?_ _ | refine blk_drew ?_ | refine blk_alloc ?_ _)); exact BK129.out)) : gb129 ≠ gb131)); have n9_ := Aside0.mk ((by rw [hg]; exact Nat.ne_of_gt (blk_lt (g := gb129) (o := .cells #[.string a1_0, .int .i64 a1_1, .int .i64 a1_2, .slice (some ad130) l1_3.length c1_3] 107 (0, 0)) (by (with_reducible repeat (first | refine blk_drewN ?_ _ | refine blk_drew ?_ | refine blk_alloc ?_ _)); exact BK129.out)) : gb131 ≠ gb129)); clear BK128; clear BK129; clear HB; have BK128 := n0_; have BK129 := n1_; have HB := n2_; have BK131 := n3_; have GW131 := n4_; have GE131 := n5_; have NB128_131 := n6_; have NB131_128 := n7_; have NB129_131 := n8_; have NB131_129 := n9_; clear n0_ n1_ n2_ n3_ n4_ n5_ n6_ n7_ n8_ n9_; clear hb hbox hg; have hnb14 := NB131_128.out; have hnc14 := NB128_131.out; have hnb15 := NB131_129.out; have hnc15 := NB129_131.out; have hcz16_0 : w13.cell? ⟨gb131, 0, none⟩ = some (.int .i64 0) := (blk_cell BK131.out 0).trans rfl; have hcz16_1 : w13.cell? ⟨gb131, 1, none⟩ = some (.int .i64 0) := (blk_cell BK131.out 1).trans rfl; have hcz16_2 : w13.cell? ⟨gb131, 2, none⟩ = some (.string (⟨#[]⟩ : ByteArray)) := (blk_cell BK131.out 2).trans rfl; have hcz16_3 : w13.cell? ⟨gb131, 3, none⟩ = some (.int .i64 0) := (blk_cell BK131.out 3).trans rfl; have hcz16_4 : w13.cell? ⟨gb131, 4, none⟩ = some (.int .i64 0) := (blk_cell BK131.out 4).trans rfl; have hfz16_0 := blk_frozen BK131.out 0; have hfz16_1 := blk_frozen BK131.out 1; have hfz16_2 := blk_frozen BK131.out 2; have hfz16_3 := blk_frozen BK131.out 3; have hfz16_4 := blk_frozen BK131.out 4))
     (try simp only [Act.put, List.setIfInBounds_toArray, List.set_cons_zero, List.set_cons_succ])
     go_cut [64] (fun v64 wc => ∃ (kq : Nat) (x64_9 : Bool), v64 = .bool x64_9 ∧ Aside0 (spec_l9Group.j1 kq x5_1 x64_9 a0_0 a0_1 l0_2 l0_3 a1_0 a1_1 a1_2 l1_3 = some r) ∧ Aside0 (kq ≤ k1) ∧ Aside0 (wc.heap[gb128]? = some (.cells #[.int .i64 a0_0, .int .i64 a0_1, (.slice A0_2 l0_2.length c0_2), (.slice A0_3 l0_3.length c0_3)] 34 (0, 0))) ∧ Aside0 (wc.heap[gb129]? = some (.cells #[.string a1_0, .int .i64 a1_1, .int .i64 a1_2, (.slice (some ad130) l1_3.length c1_3)] 107 (0, 0))) ∧ Aside0 (wc.heap[gb131]? = some (.cells #[.int .i64 ((rd_T57 l1_3 x5_1).f0.f0), .int .i64 ((rd_T57 l1_3 x5_1).f0.f1), .string ((rd_T57 l1_3 x5_1).f1), .int .i64 ((rd_T57 l1_3 x5_1).f2), .int .i64 ((rd_T57 l1_3 x5_1).f3)] 57 (0, 0))) ∧ Aside0 (Below w.heap.size w wc))
     case first =>
      have H := HC10.out
      clear HC10
      replace H := Option.bind_eq_some_iff.mp H
      obtain ⟨t132, A170, H⟩ := H
      replace H : (if t132 = true then ((spec_IdLess.f a1_1 a1_2 ((rd_T57 l1_3 x5_1).f0.f0) ((rd_T57 l1_3 x5_1).f0.f1)).bind fun t133 => (if t133 = true then (spec_l9Group.j1 k1 x5_1 true a0_0 a0_1 l0_2 l0_3 a1_0 a1_1 a1_2 l1_3) else ((spec_l4Key.f ((rd_T57 l1_3 x5_1).f1)).bind fun t134 => (if t134 = true then ((spec_l1In.f ((rd_T57 l1_3 x5_1).f2) 0 1000000).bind fun t135 => (if t135 = true then ((spec_l1In.f ((rd_T57 l1_3 x5_1).f3) 1 1000000000).bind fun t136 => (if t136 = true then (if x5_1 > 0 then (if 0 ≤ (wrap64 (x5_1 - 1)) then (if (wrap64 (x5_1 - 1)) < (l1_3.length : Int) then ((spec_IdLess.f ((rd_T57 l1_3 (wrap64 (x5_1 - 1))).f0.f0) ((rd_T57 l1_3 (wrap64 (x5_1 - 1))).f0.f1) ((rd_T57 l1_3 x5_1).f0.f0) ((rd_T57 l1_3 x5_1).f0.f1)).bind fun t138 => (spec_l9Group.j1 k1 x5_1 (!t138) a0_0 a0_1 l0_2 l0_3 a1_0 a1_1 a1_2 l1_3)) else (none)) else (none)) else (spec_l9Group.j1 k1 x5_1 false a0_0 a0_1 l0_2 l0_3 a1_0 a1_1 a1_2 l1_3)) else (spec_l9Group.j1 k1 x5_1 true a0_0 a0_1 l0_2 l0_3 a1_0 a1_1 a1_2 l1_3))) else (spec_l9Group.j1 k1 x5_1 true a0_0 a0_1 l0_2 l0_3 a1_0 a1_1 a1_2 l1_3))) else (spec_l9Group.j1 k1 x5_1 true a0_0 a0_1 l0_2 l0_3 a1_0 a1_1 a1_2 l1_3))))) else (spec_l9Group.j1 k1 x5_1 true a0_0 a0_1 l0_2 l0_3 a1_0 a1_1 a1_2 l1_3)) = some r := H
      have A17 := Aside0.mk A170
      clear A170
      by_cases c18 : t132 = true
      ·subst c18
       have H1 : ((spec_IdLess.f a1_1 a1_2 ((rd_T57 l1_3 x5_1).f0.f0) ((rd_T57 l1_3 x5_1).f0.f1)).bind fun t133 => (if t133 = true then (spec_l9Group.j1 k1 x5_1 true a0_0 a0_1 l0_2 l0_3 a1_0 a1_1 a1_2 l1_3) else ((spec_l4Key.f ((rd_T57 l1_3 x5_1).f1)).bind fun t134 => (if t134 = true then ((spec_l1In.f ((rd_T57 l1_3 x5_1).f2) 0 1000000).bind fun t135 => (if t135 = true then ((spec_l1In.f ((rd_T57 l1_3 x5_1).f3) 1 1000000000).bind fun t136 => (if t136 = true then (if x5_1 > 0 then (if 0 ≤ (wrap64 (x5_1 - 1)) then (if (wrap64 (x5_1 - 1)) < (l1_3.length : Int) then ((spec_IdLess.f ((rd_T57 l1_3 (wrap64 (x5_1 - 1))).f0.f0) ((rd_T57 l1_3 (wrap64 (x5_1 - 1))).f0.f1) ((rd_T57 l1_3 x5_1).f0.f0) ((rd_T57 l1_3 x5_1).f0.f1)).bind fun t138 => (spec_l9Group.j1 k1 x5_1 (!t138) a0_0 a0_1 l0_2 l0_3 a1_0 a1_1 a1_2 l1_3)) else (none)) else (none)) else (spec_l9Group.j1 k1 x5_1 false a0_0 a0_1 l0_2 l0_3 a1_0 a1_1 a1_2 l1_3)) else (spec_l9Group.j1 k1 x5_1 true a0_0 a0_1 l0_2 l0_3 a1_0 a1_1 a1_2 l1_3))) else (spec_l9Group.j1 k1 x5_1 true a0_0 a0_1 l0_2 l0_3 a1_0 a1_1 a1_2 l1_3))) else (spec_l9Group.j1 k1 x5_1 true a0_0 a0_1 l0_2 l0_3 a1_0 a1_1 a1_2 l1_3))))) = some r := by rw [if_pos rfl] at H; exact H
       clear H
       have H := H1
       clear H1
       replace H := Option.bind_eq_some_iff.mp H
       obtain ⟨t133, A190, H⟩ := H
       replace H : (if t133 = true then (spec_l9Group.j1 k1 x5_1 true a0_0 a0_1 l0_2 l0_3 a1_0 a1_1 a1_2 l1_3) else ((spec_l4Key.f ((rd_T57 l1_3 x5_1).f1)).bind fun t134 => (if t134 = true then ((spec_l1In.f ((rd_T57 l1_3 x5_1).f2) 0 1000000).bind fun t135 => (if t135 = true then ((spec_l1In.f ((rd_T57 l1_3 x5_1).f3) 1 1000000000).bind fun t136 => (if t136 = true then (if x5_1 > 0 then (if 0 ≤ (wrap64 (x5_1 - 1)) then (if (wrap64 (x5_1 - 1)) < (l1_3.length : Int) then ((spec_IdLess.f ((rd_T57 l1_3 (wrap64 (x5_1 - 1))).f0.f0) ((rd_T57 l1_3 (wrap64 (x5_1 - 1))).f0.f1) ((rd_T57 l1_3 x5_1).f0.f0) ((rd_T57 l1_3 x5_1).f0.f1)).bind fun t138 => (spec_l9Group.j1 k1 x5_1 (!t138) a0_0 a0_1 l0_2 l0_3 a1_0 a1_1 a1_2 l1_3)) else (none)) else (none)) else (spec_l9Group.j1 k1 x5_1 false a0_0 a0_1 l0_2 l0_3 a1_0 a1_1 a1_2 l1_3)) else (spec_l9Group.j1 k1 x5_1 true a0_0 a0_1 l0_2 l0_3 a1_0 a1_1 a1_2 l1_3))) else (spec_l9Group.j1 k1 x5_1 true a0_0 a0_1 l0_2 l0_3 a1_0 a1_1 a1_2 l1_3))) else (spec_l9Group.j1 k1 x5_1 true a0_0 a0_1 l0_2 l0_3 a1_0 a1_1 a1_2 l1_3)))) = some r := H
       have A19 := Aside0.mk A190
       clear A190
       by_cases c20 : t133 = true
       ·subst c20
        have H1 : (spec_l9Group.j1 k1 x5_1 true a0_0 a0_1 l0_2 l0_3 a1_0 a1_1 a1_2 l1_3) = some r := by rw [if_pos rfl] at H; exact H
        clear H
        have H := H1
        clear H1
        have H' := Aside0.mk H
        clear H
        try go_wp2
        have n0_ : Aside0 ((((((w13.setCell ⟨gb131, 0, none⟩ (.int .i64 ((rd_T57 l1_3 x5_1).f0.f0))).setCell ⟨gb131, 1, none⟩ (.int .i64 ((rd_T57 l1_3 x5_1).f0.f1))).setCell ⟨gb131, 2, none⟩ (.string ((rd_T57 l1_3 x5_1).f1))).setCell ⟨gb131, 3, none⟩ (.int .i64 ((rd_T57 l1_3 x5_1).f2))).setCell ⟨gb131, 4, none⟩ (.int .i64 ((rd_T57 l1_3 x5_1).f3))).heap[gb128]? = some (.cells #[.int .i64 a0_0, .int .i64 a0_1, .slice A0_2 l0_2.length c0_2, .slice A0_3 l0_3.length c0_3] 34 (0, 0))) := ⟨by (with_reducible repeat (first | refine blk_drewN ?_ _ | refine blk_drew ?_ | refine blk_alloc ?_ _)); refine blk_far ?_ NB128_131.out _; (with_reducible repeat (first | refine blk_drewN ?_ _ | refine blk_drew ?_ | refine blk_alloc ?_ _)); refine blk_far ?_ NB128_131.out _; (with_reducible repeat (first | refine blk_drewN ?_ _ | refine blk_drew ?_ | refine blk_alloc ?_ _)); refine blk_far ?_ NB128_131.out _; (with_reducible repeat (first | refine blk_drewN ?_ _ | refine blk_drew ?_ | refine blk_alloc ?_ _)); refine blk_far ?_ NB128_131.out _; (with_reducible repeat (first | refine blk_drewN ?_ _ | refine blk_drew ?_ | refine blk_alloc ?_ _)); refine blk_far ?_ NB128_131.out _; (with_reducible repeat (first | refine blk_drewN ?_ _ | refine blk_drew ?_ | refine blk_alloc ?_ _)); exact BK128.out⟩
        have n1_ : Aside0 ((((((w13.setCell ⟨gb131, 0, none⟩ (.int .i64 ((rd_T57 l1_3 x5_1).f0.f0))).setCell ⟨gb131, 1, none⟩ (.int .i64 ((rd_T57 l1_3 x5_1).f0.f1))).setCell ⟨gb131, 2, none⟩ (.string ((rd_T57 l1_3 x5_1).f1))).setCell ⟨gb131, 3, none⟩ (.int .i64 ((rd_T57 l1_3 x5_1).f2))).setCell ⟨gb131, 4, none⟩ (.int .i64 ((rd_T57 l1_3 x5_1).f3))).heap[gb129]? = some (.cells #[.string a1_0, .int .i64 a1_1, .int .i64 a1_2, .slice (some ad130) l1_3.length c1_3] 107 (0, 0))) := ⟨by (with_reducible repeat (first | refine blk_drewN ?_ _ | refine blk_drew ?_ | refine blk_alloc ?_ _)); refine blk_far ?_ NB129_131.out _; (with_reducible repeat (first | refine blk_drewN ?_ _ | refine blk_drew ?_ | refine blk_alloc ?_ _)); refine blk_far ?_ NB129_131.out _; (with_reducible repeat (first | refine blk_drewN ?_ _ | refine blk_drew ?_ | refine blk_alloc ?_ _)); refine blk_far ?_ NB129_131.out _; (with_reducible repeat (first | refine blk_drewN ?_ _ | refine blk_drew ?_ | refine blk_alloc ?_ _)); refine blk_far ?_ NB129_131.out _; (with_reducible repeat (first | refine blk_drewN ?_ _ | refine blk_drew ?_ | refine blk_alloc ?_ _)); refine blk_far ?_ NB129_131.out _; (with_reducible repeat (first | refine blk_drewN ?_ _ | refine blk_drew ?_ | refine blk_alloc ?_ _)); exact BK129.out⟩
        have n2_ : Aside0 ((((((w13.setCell ⟨gb131, 0, none⟩ (.int .i64 ((rd_T57 l1_3 x5_1).f0.f0))).setCell ⟨gb131, 1, none⟩ (.int .i64 ((rd_T57 l1_3 x5_1).f0.f1))).setCell ⟨gb131, 2, none⟩ (.string ((rd_T57 l1_3 x5_1).f1))).setCell ⟨gb131, 3, none⟩ (.int .i64 ((rd_T57 l1_3 x5_1).f2))).setCell ⟨gb131, 4, none⟩ (.int .i64 ((rd_T57 l1_3 x5_1).f3))).heap[gb131]? = some (.cells #[.int .i64 ((rd_T57 l1_3 x5_1).f0.f0), .int .i64 ((rd_T57 l1_3 x5_1).f0.f1), .string ((rd_T57 l1_3 x5_1).f1), .int .i64 ((rd_T57 l1_3 x5_1).f2), .int .i64 ((rd_T57 l1_3 x5_1).f3)] 57 (0, 0))) := ⟨by (with_reducible repeat (first | refine blk_drewN ?_ _ | refine blk_drew ?_ | refine blk_alloc ?_ _)); refine blk_put (cs := #[.int .i64 ((rd_T57 l1_3 x5_1).f0.f0), .int .i64 ((rd_T57 l1_3 x5_1).f0.f1), .string ((rd_T57 l1_3 x5_1).f1), .int .i64 ((rd_T57 l1_3 x5_1).f2), .int .i64 0]) ?_ 4 _ rfl; (with_reducible repeat (first | refine blk_drewN ?_ _ | refine blk_drew ?_ | refine blk_alloc ?_ _)); refine blk_put (cs := #[.int .i64 ((rd_T57 l1_3 x5_1).f0.f0), .int .i64 ((rd_T57 l1_3 x5_1).f0.f1), .string ((rd_T57 l1_3 x5_1).f1), .int .i64 0, .int .i64 0]) ?_ 3 _ rfl; (with_reducible repeat (first | refine blk_drewN ?_ _ | refine blk_drew ?_ | refine blk_alloc ?_ _)); refine blk_put (cs := #[.int .i64 ((rd_T57 l1_3 x5_1).f0.f0), .int .i64 ((rd_T57 l1_3 x5_1).f0.f1), .string (⟨#[]⟩ : ByteArray), .int .i64 0, .int .i64 0]) ?_ 2 _ rfl; (with_reducible repeat (first | refine blk_drewN ?_ _ | refine blk_drew ?_ | refine blk_alloc ?_ _)); refine blk_put (cs := #[.int .i64 ((rd_T57 l1_3 x5_1).f0.f0), .int .i64 0, .string (⟨#[]⟩ : ByteArray), .int .i64 0, .int .i64 0]) ?_ 1 _ rfl; (with_reducible repeat (first | refine blk_drewN ?_ _ | refine blk_drew ?_ | refine blk_alloc ?_ _)); refine blk_put (cs := #[.int .i64 0, .int .i64 0, .string (⟨#[]⟩ : ByteArray), .int .i64 0, .int .i64 0]) ?_ 0 _ rfl; (with_reducible repeat (first | refine blk_drewN ?_ _ | refine blk_drew ?_ | refine blk_alloc ?_ _)); exact BK131.out⟩
        have n3_ : Aside0 (Below w.heap.size w (((((w13.setCell ⟨gb131, 0, none⟩ (.int .i64 ((rd_T57 l1_3 x5_1).f0.f0))).setCell ⟨gb131, 1, none⟩ (.int .i64 ((rd_T57 l1_3 x5_1).f0.f1))).setCell ⟨gb131, 2, none⟩ (.string ((rd_T57 l1_3 x5_1).f1))).setCell ⟨gb131, 3, none⟩ (.int .i64 ((rd_T57 l1_3 x5_1).f2))).setCell ⟨gb131, 4, none⟩ (.int .i64 ((rd_T57 l1_3 x5_1).f3)))) := ⟨by repeat (first | (with_reducible first | exact HB.out | apply below_alloc | apply pw_below_drewN | apply below_drew1 | refine below_set ?_ GE128.out | refine below_set ?_ GE129.out | refine below_set ?_ GE131.out) | exact HB.out)⟩
        (try clear BK128)
        (try clear BK129)
        (try clear BK131)
        (try clear HB)
        generalize (((((w13.setCell ⟨gb131, 0, none⟩ (.int .i64 ((rd_T57 l1_3 x5_1).f0.f0))).setCell ⟨gb131, 1, none⟩ (.int .i64 ((rd_T57 l1_3 x5_1).f0.f1))).setCell ⟨gb131, 2, none⟩ (.string ((rd_T57 l1_3 x5_1).f1))).setCell ⟨gb131, 3, none⟩ (.int .i64 ((rd_T57 l1_3 x5_1).f2))).setCell ⟨gb131, 4, none⟩ (.int .i64 ((rd_T57 l1_3 x5_1).f3))) = w21 at n0_ n1_ n2_ n3_ ⊢
        have BK128 := n0_
        have BK129 := n1_
        have BK131 := n2_
        have HB := n3_
        clear n0_ n1_ n2_ n3_
        replace BK128 := Aside0.mk (blk_drew BK128.out)
        replace BK129 := Aside0.mk (blk_drew BK129.out)
        replace BK131 := Aside0.mk (blk_drew BK131.out)
        replace HB := Aside0.mk (below_drew1 HB.out)
        refine start_ (n := 46) (S := fun w' => w'.cell? ⟨gb131, 0, none⟩ = some (.int .i64 ((rd_T57 l1_3 x5_1).f0.f0)) ∧ w'.cell? ⟨gb131, 1, none⟩ = some (.int .i64 ((rd_T57 l1_3 x5_1).f0.f1)) ∧ w'.cell? ⟨gb131, 2, none⟩ = some (.string ((rd_T57 l1_3 x5_1).f1)) ∧ w'.cell? ⟨gb131, 3, none⟩ = some (.int .i64 ((rd_T57 l1_3 x5_1).f2)) ∧ w'.cell? ⟨gb131, 4, none⟩ = some (.int .i64 ((rd_T57 l1_3 x5_1).f3)) ∧ w'.cell? ⟨gb129, 0, none⟩ = some (.string a1_0) ∧ w'.cell? ⟨gb129, 1, none⟩ = some (.int .i64 a1_1) ∧ w'.cell? ⟨gb129, 2, none⟩ = some (.int .i64 a1_2) ∧ w'.cell? ⟨gb129, 3, none⟩ = some (.slice (some ad130) l1_3.length c1_3)) (ds := []) _ (by kernel_rfl) rfl rfl ⟨(blk_cell BK131.out 0).trans rfl, (blk_cell BK131.out 1).trans rfl, (blk_cell BK131.out 2).trans rfl, (blk_cell BK131.out 3).trans rfl, (blk_cell BK131.out 4).trans rfl, (blk_cell BK129.out 0).trans rfl, (blk_cell BK129.out 1).trans rfl, (blk_cell BK129.out 2).trans rfl, (blk_cell BK129.out 3).trans rfl⟩ (fun hHeld => ?_); refine with_tabW spec_l9Group.tab5 spec_l9Group.bits5 (fun HT_ HW_ => ?_)
        generalize w21.drew = w22 at BK128 BK129 BK131 HB hHeld ⊢
        refine pu 0 19 ?_; refine tk 1 20 ?_
        refine on 2 (some 21) (fun K hK => ?_)
        refine ca Try.func68 (spec_l9Id.calls ((rd_T57 l1_3 x5_1).f0.f0) ((rd_T57 l1_3 x5_1).f0.f1) true _ A17.out) ?_
        rintro e w23 ⟨rfl, hb⟩
        refine ⟨_, rfl, ?_⟩
        replace BK128 := Aside0.mk (blk_below (g := gb128) (o := .cells #[.int .i64 a0_0, .int .i64 a0_1, .slice A0_2 l0_2.length c0_2, .slice A0_3 l0_3.length c0_3] 34 (0, 0)) (by (with_reducible repeat (first | refine blk_drewN ?_ _ | refine blk_drew ?_ | refine blk_alloc ?_ _)); exact BK128.out) hb)
        replace BK129 := Aside0.mk (blk_below (g := gb129) (o := .cells #[.string a1_0, .int .i64 a1_1, .int .i64 a1_2, .slice (some ad130) l1_3.length c1_3] 107 (0, 0)) (by (with_reducible repeat (first | refine blk_drewN ?_ _ | refine blk_drew ?_ | refine blk_alloc ?_ _)); exact BK129.out) hb)
        replace BK131 := Aside0.mk (blk_below (g := gb131) (o := .cells #[.int .i64 ((rd_T57 l1_3 x5_1).f0.f0), .int .i64 ((rd_T57 l1_3 x5_1).f0.f1), .string ((rd_T57 l1_3 x5_1).f1), .int .i64 ((rd_T57 l1_3 x5_1).f2), .int .i64 ((rd_T57 l1_3 x5_1).f3)] 57 (0, 0)) (by (with_reducible repeat (first | refine blk_drewN ?_ _ | refine blk_drew ?_ | refine blk_alloc ?_ _)); exact BK131.out) hb)
        replace HB := Aside0.mk (below_step (by repeat (first | (with_reducible first | exact HB.out | apply below_alloc | apply pw_below_drewN | apply below_drew1 | refine below_set ?_ GE128.out | refine below_set ?_ GE129.out | refine below_set ?_ GE131.out) | exact HB.out)) hb)
        (try clear hb)
        (try clear hb2)
        (try clear hk)
        (try clear hi)
        refine hK.out _ _ ⟨(blk_cell BK131.out 0).trans rfl, (blk_cell BK131.out 1).trans rfl, (blk_cell BK131.out 2).trans rfl, (blk_cell BK131.out 3).trans rfl, (blk_cell BK131.out 4).trans rfl, (blk_cell BK129.out 0).trans rfl, (blk_cell BK129.out 1).trans rfl, (blk_cell BK129.out 2).trans rfl, (blk_cell BK129.out 3).trans rfl⟩ (fun hHeld => ?_)
        clear hK K
        refine nm ?_; refine pu 3 22 ?_; refine pu 4 23 ?_; refine pu 5 24 ?_; refine pu 7 26 ?_; refine tk 6 25 ?_; refine tk 8 27 ?_
        refine on 9 (some 28) (fun K hK => ?_)
        refine ca Try.func69 (spec_IdLess.calls a1_1 a1_2 ((rd_T57 l1_3 x5_1).f0.f0) ((rd_T57 l1_3 x5_1).f0.f1) true _ A19.out) ?_
        rintro e w24 ⟨rfl, hb⟩
        refine ⟨_, rfl, ?_⟩
        replace BK128 := Aside0.mk (blk_below (g := gb128) (o := .cells #[.int .i64 a0_0, .int .i64 a0_1, .slice A0_2 l0_2.length c0_2, .slice A0_3 l0_3.length c0_3] 34 (0, 0)) (by (with_reducible repeat (first | refine blk_drewN ?_ _ | refine blk_drew ?_ | refine blk_alloc ?_ _)); exact BK128.out) hb)
        replace BK129 := Aside0.mk (blk_below (g := gb129) (o := .cells #[.string a1_0, .int .i64 a1_1, .int .i64 a1_2, .slice (some ad130) l1_3.length c1_3] 107 (0, 0)) (by (with_reducible repeat (first | refine blk_drewN ?_ _ | refine blk_drew ?_ | refine blk_alloc ?_ _)); exact BK129.out) hb)
        replace BK131 := Aside0.mk (blk_below (g := gb131) (o := .cells #[.int .i64 ((rd_T57 l1_3 x5_1).f0.f0), .int .i64 ((rd_T57 l1_3 x5_1).f0.f1), .string ((rd_T57 l1_3 x5_1).f1), .int .i64 ((rd_T57 l1_3 x5_1).f2), .int .i64 ((rd_T57 l1_3 x5_1).f3)] 57 (0, 0)) (by (with_reducible repeat (first | refine blk_drewN ?_ _ | refine blk_drew ?_ | refine blk_alloc ?_ _)); exact BK131.out) hb)
        replace HB := Aside0.mk (below_step (by repeat (first | (with_reducible first | exact HB.out | apply below_alloc | apply pw_below_drewN | apply below_drew1 | refine below_set ?_ GE128.out | refine below_set ?_ GE129.out | refine below_set ?_ GE131.out) | exact HB.out)) hb)
        (try clear hb)
        (try clear hb2)
        (try clear hk)
        (try clear hi)
        refine hK.out _ _ ⟨(blk_cell BK131.out 0).trans rfl, (blk_cell BK131.out 1).trans rfl, (blk_cell BK131.out 2).trans rfl, (blk_cell BK131.out 3).trans rfl, (blk_cell BK131.out 4).trans rfl, (blk_cell BK129.out 0).trans rfl, (blk_cell BK129.out 1).trans rfl, (blk_cell BK129.out 2).trans rfl, (blk_cell BK129.out 3).trans rfl⟩ (fun hHeld => ?_)
        clear hK K
        refine nm ?_; refine pu 10 29 ?_; refine pu 11 30 ?_; refine of 12 31 ?_; refine of 13 32 ?_; refine of 14 33 ?_; refine of 15 34 ?_; refine pu 16 35 ?_; refine pu 17 36 ?_; refine of 18 37 ?_; refine of 19 38 ?_; refine of 20 39 ?_; refine of 21 40 ?_; refine pu 22 41 ?_; refine pu 23 42 ?_; refine of 24 43 ?_; refine of 25 44 ?_; refine of 26 45 ?_; refine of 27 46 ?_; refine pu 28 47 ?_; refine pu 29 48 ?_; refine of 30 49 ?_; refine of 31 50 ?_; refine of 32 51 ?_; refine of 33 52 ?_; refine of 34 53 ?_; refine of 35 54 ?_; refine of 36 55 ?_; refine of 37 56 ?_; refine of 38 57 ?_; refine of 39 58 ?_; refine of 40 59 ?_; refine of 41 60 ?_; refine of 42 61 ?_; refine of 43 62 ?_; refine of 44 63 ?_; refine pu 45 64 ?_
        refine dn ?_
        try go_wp2
        go_meet
        case rel => exact ⟨_, (true), (by first | rfl | (simp; done) | (simp [*]; done)), H', ⟨by have := HK1.out; first | omega | exact Nat.le_refl _⟩, ⟨by (with_reducible repeat (first | refine blk_drewN ?_ _ | refine blk_drew ?_ | refine blk_alloc ?_ _)); exact BK128.out⟩, ⟨by (with_reducible repeat (first | refine blk_drewN ?_ _ | refine blk_drew ?_ | refine blk_alloc ?_ _)); exact BK129.out⟩, ⟨by (with_reducible repeat (first | refine blk_drewN ?_ _ | refine blk_drew ?_ | refine blk_alloc ?_ _)); exact BK131.out⟩, ⟨by repeat (first | (with_reducible first | exact HB.out | apply below_alloc | apply pw_below_drewN | apply below_drew1 | refine below_set ?_ GE128.out | refine below_set ?_ GE129.out | refine below_set ?_ GE131.out) | exact HB.out)⟩⟩
       ·replace c20 := Bool.eq_false_iff.mpr c20
        subst c20
        have H1 : ((spec_l4Key.f ((rd_T57 l1_3 x5_1).f1)).bind fun t134 => (if t134 = true then ((spec_l1In.f ((rd_T57 l1_3 x5_1).f2) 0 1000000).bind fun t135 => (if t135 = true then ((spec_l1In.f ((rd_T57 l1_3 x5_1).f3) 1 1000000000).bind fun t136 => (if t136 = true then (if x5_1 > 0 then (if 0 ≤ (wrap64 (x5_1 - 1)) then (if (wrap64 (x5_1 - 1)) < (l1_3.length : Int) then ((spec_IdLess.f ((rd_T57 l1_3 (wrap64 (x5_1 - 1))).f0.f0) ((rd_T57 l1_3 (wrap64 (x5_1 - 1))).f0.f1) ((rd_T57 l1_3 x5_1).f0.f0) ((rd_T57 l1_3 x5_1).f0.f1)).bind fun t138 => (spec_l9Group.j1 k1 x5_1 (!t138) a0_0 a0_1 l0_2 l0_3 a1_0 a1_1 a1_2 l1_3)) else (none)) else (none)) else (spec_l9Group.j1 k1 x5_1 false a0_0 a0_1 l0_2 l0_3 a1_0 a1_1 a1_2 l1_3)) else (spec_l9Group.j1 k1 x5_1 true a0_0 a0_1 l0_2 l0_3 a1_0 a1_1 a1_2 l1_3))) else (spec_l9Group.j1 k1 x5_1 true a0_0 a0_1 l0_2 l0_3 a1_0 a1_1 a1_2 l1_3))) else (spec_l9Group.j1 k1 x5_1 true a0_0 a0_1 l0_2 l0_3 a1_0 a1_1 a1_2 l1_3))) = some r := by rw [if_neg (show ¬ (false = true) by decide)] at H; exact H
        clear H
        have H := H1
        clear H1
        replace H := Option.bind_eq_some_iff.mp H
        obtain ⟨t134, A250, H⟩ := H
        replace H : (if t134 = true then ((spec_l1In.f ((rd_T57 l1_3 x5_1).f2) 0 1000000).bind fun t135 => (if t135 = true then ((spec_l1In.f ((rd_T57 l1_3 x5_1).f3) 1 1000000000).bind fun t136 => (if t136 = true then (if x5_1 > 0 then (if 0 ≤ (wrap64 (x5_1 - 1)) then (if (wrap64 (x5_1 - 1)) < (l1_3.length : Int) then ((spec_IdLess.f ((rd_T57 l1_3 (wrap64 (x5_1 - 1))).f0.f0) ((rd_T57 l1_3 (wrap64 (x5_1 - 1))).f0.f1) ((rd_T57 l1_3 x5_1).f0.f0) ((rd_T57 l1_3 x5_1).f0.f1)).bind fun t138 => (spec_l9Group.j1 k1 x5_1 (!t138) a0_0 a0_1 l0_2 l0_3 a1_0 a1_1 a1_2 l1_3)) else (none)) else (none)) else (spec_l9Group.j1 k1 x5_1 false a0_0 a0_1 l0_2 l0_3 a1_0 a1_1 a1_2 l1_3)) else (spec_l9Group.j1 k1 x5_1 true a0_0 a0_1 l0_2 l0_3 a1_0 a1_1 a1_2 l1_3))) else (spec_l9Group.j1 k1 x5_1 true a0_0 a0_1 l0_2 l0_3 a1_0 a1_1 a1_2 l1_3))) else (spec_l9Group.j1 k1 x5_1 true a0_0 a0_1 l0_2 l0_3 a1_0 a1_1 a1_2 l1_3)) = some r := H
        have A25 := Aside0.mk A250
        clear A250
        by_cases c26 : t134 = true
        ·subst c26
         have H1 : ((spec_l1In.f ((rd_T57 l1_3 x5_1).f2) 0 1000000).bind fun t135 => (if t135 = true then ((spec_l1In.f ((rd_T57 l1_3 x5_1).f3) 1 1000000000).bind fun t136 => (if t136 = true then (if x5_1 > 0 then (if 0 ≤ (wrap64 (x5_1 - 1)) then (if (wrap64 (x5_1 - 1)) < (l1_3.length : Int) then ((spec_IdLess.f ((rd_T57 l1_3 (wrap64 (x5_1 - 1))).f0.f0) ((rd_T57 l1_3 (wrap64 (x5_1 - 1))).f0.f1) ((rd_T57 l1_3 x5_1).f0.f0) ((rd_T57 l1_3 x5_1).f0.f1)).bind fun t138 => (spec_l9Group.j1 k1 x5_1 (!t138) a0_0 a0_1 l0_2 l0_3 a1_0 a1_1 a1_2 l1_3)) else (none)) else (none)) else (spec_l9Group.j1 k1 x5_1 false a0_0 a0_1 l0_2 l0_3 a1_0 a1_1 a1_2 l1_3)) else (spec_l9Group.j1 k1 x5_1 true a0_0 a0_1 l0_2 l0_3 a1_0 a1_1 a1_2 l1_3))) else (spec_l9Group.j1 k1 x5_1 true a0_0 a0_1 l0_2 l0_3 a1_0 a1_1 a1_2 l1_3))) = some r := by rw [if_pos rfl] at H; exact H
         clear H
         have H := H1
         clear H1
         replace H := Option.bind_eq_some_iff.mp H
         obtain ⟨t135, A270, H⟩ := H
         replace H : (if t135 = true then ((spec_l1In.f ((rd_T57 l1_3 x5_1).f3) 1 1000000000).bind fun t136 => (if t136 = true then (if x5_1 > 0 then (if 0 ≤ (wrap64 (x5_1 - 1)) then (if (wrap64 (x5_1 - 1)) < (l1_3.length : Int) then ((spec_IdLess.f ((rd_T57 l1_3 (wrap64 (x5_1 - 1))).f0.f0) ((rd_T57 l1_3 (wrap64 (x5_1 - 1))).f0.f1) ((rd_T57 l1_3 x5_1).f0.f0) ((rd_T57 l1_3 x5_1).f0.f1)).bind fun t138 => (spec_l9Group.j1 k1 x5_1 (!t138) a0_0 a0_1 l0_2 l0_3 a1_0 a1_1 a1_2 l1_3)) else (none)) else (none)) else (spec_l9Group.j1 k1 x5_1 false a0_0 a0_1 l0_2 l0_3 a1_0 a1_1 a1_2 l1_3)) else (spec_l9Group.j1 k1 x5_1 true a0_0 a0_1 l0_2 l0_3 a1_0 a1_1 a1_2 l1_3))) else (spec_l9Group.j1 k1 x5_1 true a0_0 a0_1 l0_2 l0_3 a1_0 a1_1 a1_2 l1_3)) = some r := H
         have A27 := Aside0.mk A270
         clear A270
         by_cases c28 : t135 = true
         ·subst c28
          have H1 : ((spec_l1In.f ((rd_T57 l1_3 x5_1).f3) 1 1000000000).bind fun t136 => (if t136 = true then (if x5_1 > 0 then (if 0 ≤ (wrap64 (x5_1 - 1)) then (if (wrap64 (x5_1 - 1)) < (l1_3.length : Int) then ((spec_IdLess.f ((rd_T57 l1_3 (wrap64 (x5_1 - 1))).f0.f0) ((rd_T57 l1_3 (wrap64 (x5_1 - 1))).f0.f1) ((rd_T57 l1_3 x5_1).f0.f0) ((rd_T57 l1_3 x5_1).f0.f1)).bind fun t138 => (spec_l9Group.j1 k1 x5_1 (!t138) a0_0 a0_1 l0_2 l0_3 a1_0 a1_1 a1_2 l1_3)) else (none)) else (none)) else (spec_l9Group.j1 k1 x5_1 false a0_0 a0_1 l0_2 l0_3 a1_0 a1_1 a1_2 l1_3)) else (spec_l9Group.j1 k1 x5_1 true a0_0 a0_1 l0_2 l0_3 a1_0 a1_1 a1_2 l1_3))) = some r := by rw [if_pos rfl] at H; exact H
          clear H
          have H := H1
          clear H1
          replace H := Option.bind_eq_some_iff.mp H
          obtain ⟨t136, A290, H⟩ := H
          replace H : (if t136 = true then (if x5_1 > 0 then (if 0 ≤ (wrap64 (x5_1 - 1)) then (if (wrap64 (x5_1 - 1)) < (l1_3.length : Int) then ((spec_IdLess.f ((rd_T57 l1_3 (wrap64 (x5_1 - 1))).f0.f0) ((rd_T57 l1_3 (wrap64 (x5_1 - 1))).f0.f1) ((rd_T57 l1_3 x5_1).f0.f0) ((rd_T57 l1_3 x5_1).f0.f1)).bind fun t138 => (spec_l9Group.j1 k1 x5_1 (!t138) a0_0 a0_1 l0_2 l0_3 a1_0 a1_1 a1_2 l1_3)) else (none)) else (none)) else (spec_l9Group.j1 k1 x5_1 false a0_0 a0_1 l0_2 l0_3 a1_0 a1_1 a1_2 l1_3)) else (spec_l9Group.j1 k1 x5_1 true a0_0 a0_1 l0_2 l0_3 a1_0 a1_1 a1_2 l1_3)) = some r := H
          have A29 := Aside0.mk A290
          clear A290
          by_cases c30 : t136 = true
          ·subst c30
           have H1 : (if x5_1 > 0 then (if 0 ≤ (wrap64 (x5_1 - 1)) then (if (wrap64 (x5_1 - 1)) < (l1_3.length : Int) then ((spec_IdLess.f ((rd_T57 l1_3 (wrap64 (x5_1 - 1))).f0.f0) ((rd_T57 l1_3 (wrap64 (x5_1 - 1))).f0.f1) ((rd_T57 l1_3 x5_1).f0.f0) ((rd_T57 l1_3 x5_1).f0.f1)).bind fun t138 => (spec_l9Group.j1 k1 x5_1 (!t138) a0_0 a0_1 l0_2 l0_3 a1_0 a1_1 a1_2 l1_3)) else (none)) else (none)) else (spec_l9Group.j1 k1 x5_1 false a0_0 a0_1 l0_2 l0_3 a1_0 a1_1 a1_2 l1_3)) = some r := by rw [if_pos rfl] at H; exact H
           clear H
           have H := H1
           clear H1
           by_cases c31 : x5_1 > 0
           ·rw [if_pos c31] at H
            have c31b0 : decide (0 < x5_1) = true := decide_eq_true c31
            clear c31
            (first | rw [c31b0] | rw [c31b1] | (simp only [i64_w, i32_w]; rw [c31b0]) | rw [c31b2] | skip)
            obtain ⟨ji32, hji32⟩ : ∃ j_ : Int, (wrap64 (x5_1 - 1)) = j_ := ⟨_, rfl⟩
            replace H : (if 0 ≤ (ji32) then (if (ji32) < (l1_3.length : Int) then ((spec_IdLess.f ((rd_T57 l1_3 (ji32)).f0.f0) ((rd_T57 l1_3 (ji32)).f0.f1) ((rd_T57 l1_3 x5_1).f0.f0) ((rd_T57 l1_3 x5_1).f0.f1)).bind fun t138 => (spec_l9Group.j1 k1 x5_1 (!t138) a0_0 a0_1 l0_2 l0_3 a1_0 a1_1 a1_2 l1_3)) else (none)) else (none)) = some r := by first | (rw [hji32] at H; exact H) | (simp only [hji32] at H ⊢; exact H)
            (try rw [hji32] at A17)
            (try rw [hji32] at A19)
            (try rw [hji32] at A25)
            (try rw [hji32] at A27)
            (try rw [hji32] at A29)
            have hji32w : (IntKind.i64.wrap (x5_1 - 1)) = ji32 := (i64_w _).trans hji32
            by_cases c33 : 0 ≤ (ji32)
            ·rw [if_pos c33] at H
             have c33b0 : decide (0 ≤ (ji32)) = true := decide_eq_true c33
             clear c33
             by_cases c34 : (ji32) < (l1_3.length : Int)
             ·rw [if_pos c34] at H
              have c34b0 : decide ((ji32) < (l1_3.length : Int)) = true := decide_eq_true c34
              clear c34
              replace H := Option.bind_eq_some_iff.mp H
              obtain ⟨t138, A350, H⟩ := H
              replace H : (spec_l9Group.j1 k1 x5_1 (!t138) a0_0 a0_1 l0_2 l0_3 a1_0 a1_1 a1_2 l1_3) = some r := H
              have A35 := Aside0.mk A350
              clear A350
              have H' := Aside0.mk H
              clear H
              try go_wp2
              have n0_ : Aside0 ((((((w13.setCell ⟨gb131, 0, none⟩ (.int .i64 ((rd_T57 l1_3 x5_1).f0.f0))).setCell ⟨gb131, 1, none⟩ (.int .i64 ((rd_T57 l1_3 x5_1).f0.f1))).setCell ⟨gb131, 2, none⟩ (.string ((rd_T57 l1_3 x5_1).f1))).setCell ⟨gb131, 3, none⟩ (.int .i64 ((rd_T57 l1_3 x5_1).f2))).setCell ⟨gb131, 4, none⟩ (.int .i64 ((rd_T57 l1_3 x5_1).f3))).heap[gb128]? = some (.cells #[.int .i64 a0_0, .int .i64 a0_1, .slice A0_2 l0_2.length c0_2, .slice A0_3 l0_3.length c0_3] 34 (0, 0))) := ⟨by (with_reducible repeat (first | refine blk_drewN ?_ _ | refine blk_drew ?_ | refine blk_alloc ?_ _)); refine blk_far ?_ NB128_131.out _; (with_reducible repeat (first | refine blk_drewN ?_ _ | refine blk_drew ?_ | refine blk_alloc ?_ _)); refine blk_far ?_ NB128_131.out _; (with_reducible repeat (first | refine blk_drewN ?_ _ | refine blk_drew ?_ | refine blk_alloc ?_ _)); refine blk_far ?_ NB128_131.out _; (with_reducible repeat (first | refine blk_drewN ?_ _ | refine blk_drew ?_ | refine blk_alloc ?_ _)); refine blk_far ?_ NB128_131.out _; (with_reducible repeat (first | refine blk_drewN ?_ _ | refine blk_drew ?_ | refine blk_alloc ?_ _)); refine blk_far ?_ NB128_131.out _; (with_reducible repeat (first | refine blk_drewN ?_ _ | refine blk_drew ?_ | refine blk_alloc ?_ _)); exact BK128.out⟩
              have n1_ : Aside0 ((((((w13.setCell ⟨gb131, 0, none⟩ (.int .i64 ((rd_T57 l1_3 x5_1).f0.f0))).setCell ⟨gb131, 1, none⟩ (.int .i64 ((rd_T57 l1_3 x5_1).f0.f1))).setCell ⟨gb131, 2, none⟩ (.string ((rd_T57 l1_3 x5_1).f1))).setCell ⟨gb131, 3, none⟩ (.int .i64 ((rd_T57 l1_3 x5_1).f2))).setCell ⟨gb131, 4, none⟩ (.int .i64 ((rd_T57 l1_3 x5_1).f3))).heap[gb129]? = some (.cells #[.string a1_0, .int .i64 a1_1, .int .i64 a1_2, .slice (some ad130) l1_3.length c1_3] 107 (0, 0))) := ⟨by (with_reducible repeat (first | refine blk_drewN ?_ _ | refine blk_drew ?_ | refine blk_alloc ?_ _)); refine blk_far ?_ NB129_131.out _; (with_reducible repeat (first | refine blk_drewN ?_ _ | refine blk_drew ?_ | refine blk_alloc ?_ _)); refine blk_far ?_ NB129_131.out _; (with_reducible repeat (first | refine blk_drewN ?_ _ | refine blk_drew ?_ | refine blk_alloc ?_ _)); refine blk_far ?_ NB129_131.out _; (with_reducible repeat (first | refine blk_drewN ?_ _ | refine blk_drew ?_ | refine blk_alloc ?_ _)); refine blk_far ?_ NB129_131.out _; (with_reducible repeat (first | refine blk_drewN ?_ _ | refine blk_drew ?_ | refine blk_alloc ?_ _)); refine blk_far ?_ NB129_131.out _; (with_reducible repeat (first | refine blk_drewN ?_ _ | refine blk_drew ?_ | refine blk_alloc ?_ _)); exact BK129.out⟩
              have n2_ : Aside0 ((((((w13.setCell ⟨gb131, 0, none⟩ (.int .i64 ((rd_T57 l1_3 x5_1).f0.f0))).setCell ⟨gb131, 1, none⟩ (.int .i64 ((rd_T57 l1_3 x5_1).f0.f1))).setCell ⟨gb131, 2, none⟩ (.string ((rd_T57 l1_3 x5_1).f1))).setCell ⟨gb131, 3, none⟩ (.int .i64 ((rd_T57 l1_3 x5_1).f2))).setCell ⟨gb131, 4, none⟩ (.int .i64 ((rd_T57 l1_3 x5_1).f3))).heap[gb131]? = some (.cells #[.int .i64 ((rd_T57 l1_3 x5_1).f0.f0), .int .i64 ((rd_T57 l1_3 x5_1).f0.f1), .string ((rd_T57 l1_3 x5_1).f1), .int .i64 ((rd_T57 l1_3 x5_1).f2), .int .i64 ((rd_T57 l1_3 x5_1).f3)] 57 (0, 0))) := ⟨by (with_reducible repeat (first | refine blk_drewN ?_ _ | refine blk_drew ?_ | refine blk_alloc ?_ _)); refine blk_put (cs := #[.int .i64 ((rd_T57 l1_3 x5_1).f0.f0), .int .i64 ((rd_T57 l1_3 x5_1).f0.f1), .string ((rd_T57 l1_3 x5_1).f1), .int .i64 ((rd_T57 l1_3 x5_1).f2), .int .i64 0]) ?_ 4 _ rfl; (with_reducible repeat (first | refine blk_drewN ?_ _ | refine blk_drew ?_ | refine blk_alloc ?_ _)); refine blk_put (cs := #[.int .i64 ((rd_T57 l1_3 x5_1).f0.f0), .int .i64 ((rd_T57 l1_3 x5_1).f0.f1), .string ((rd_T57 l1_3 x5_1).f1), .int .i64 0, .int .i64 0]) ?_ 3 _ rfl; (with_reducible repeat (first | refine blk_drewN ?_ _ | refine blk_drew ?_ | refine blk_alloc ?_ _)); refine blk_put (cs := #[.int .i64 ((rd_T57 l1_3 x5_1).f0.f0), .int .i64 ((rd_T57 l1_3 x5_1).f0.f1), .string (⟨#[]⟩ : ByteArray), .int .i64 0, .int .i64 0]) ?_ 2 _ rfl; (with_reducible repeat (first | refine blk_drewN ?_ _ | refine blk_drew ?_ | refine blk_alloc ?_ _)); refine blk_put (cs := #[.int .i64 ((rd_T57 l1_3 x5_1).f0.f0), .int .i64 0, .string (⟨#[]⟩ : ByteArray), .int .i64 0, .int .i64 0]) ?_ 1 _ rfl; (with_reducible repeat (first | refine blk_drewN ?_ _ | refine blk_drew ?_ | refine blk_alloc ?_ _)); refine blk_put (cs := #[.int .i64 0, .int .i64 0, .string (⟨#[]⟩ : ByteArray), .int .i64 0, .int .i64 0]) ?_ 0 _ rfl; (with_reducible repeat (first | refine blk_drewN ?_ _ | refine blk_drew ?_ | refine blk_alloc ?_ _)); exact BK131.out⟩
              have n3_ : Aside0 (Below w.heap.size w (((((w13.setCell ⟨gb131, 0, none⟩ (.int .i64 ((rd_T57 l1_3 x5_1).f0.f0))).setCell ⟨gb131, 1, none⟩ (.int .i64 ((rd_T57 l1_3 x5_1).f0.f1))).setCell ⟨gb131, 2, none⟩ (.string ((rd_T57 l1_3 x5_1).f1))).setCell ⟨gb131, 3, none⟩ (.int .i64 ((rd_T57 l1_3 x5_1).f2))).setCell ⟨gb131, 4, none⟩ (.int .i64 ((rd_T57 l1_3 x5_1).f3)))) := ⟨by repeat (first | (with_reducible first | exact HB.out | apply below_alloc | apply pw_below_drewN | apply below_drew1 | refine below_set ?_ GE128.out | refine below_set ?_ GE129.out | refine below_set ?_ GE131.out) | exact HB.out)⟩
              (try clear BK128)
              (try clear BK129)
              (try clear BK131)
              (try clear HB)
              generalize (((((w13.setCell ⟨gb131, 0, none⟩ (.int .i64 ((rd_T57 l1_3 x5_1).f0.f0))).setCell ⟨gb131, 1, none⟩ (.int .i64 ((rd_T57 l1_3 x5_1).f0.f1))).setCell ⟨gb131, 2, none⟩ (.string ((rd_T57 l1_3 x5_1).f1))).setCell ⟨gb131, 3, none⟩ (.int .i64 ((rd_T57 l1_3 x5_1).f2))).setCell ⟨gb131, 4, none⟩ (.int .i64 ((rd_T57 l1_3 x5_1).f3))) = w36 at n0_ n1_ n2_ n3_ ⊢
              have BK128 := n0_
              have BK129 := n1_
              have BK131 := n2_
              have HB := n3_
              clear n0_ n1_ n2_ n3_
              replace BK128 := Aside0.mk (blk_drew BK128.out)
              replace BK129 := Aside0.mk (blk_drew BK129.out)
              replace BK131 := Aside0.mk (blk_drew BK131.out)
              replace HB := Aside0.mk (below_drew1 HB.out)
              have p137 := od (0 ≤ ((ji32) : Int))
              have q137 := od ((ji32) < (l1_3.length : Int))
              obtain ⟨ad137, e137, hx137_0, hx137_1, hx137_2, hx137_3, hx137_4⟩ := at_T57 HR1_3.out (ji32) p137 q137
              have hw137_4 := hx137_4
              have hw137_3 := hx137_3
              have hw137_2 := hx137_2
              have hw137_1 := hx137_1
              have hw137_0 := hx137_0
              obtain rfl : ad130 = ad137 := (by injection e137)
              replace hx137_0 := (HB.out.cell (World.block_lt_of_cell? w _ hx137_0)).trans hx137_0
              replace hx137_1 := (HB.out.cell (World.block_lt_of_cell? w _ hx137_1)).trans hx137_1
              replace hx137_2 := (HB.out.cell (World.block_lt_of_cell? w _ hx137_2)).trans hx137_2
              replace hx137_3 := (HB.out.cell (World.block_lt_of_cell? w _ hx137_3)).trans hx137_3
              replace hx137_4 := (HB.out.cell (World.block_lt_of_cell? w _ hx137_4)).trans hx137_4
              replace p137 := eq_true p137
              replace q137 := eq_true q137
              refine start_ (n := 46) (S := fun w' => w'.cell? ⟨gb131, 0, none⟩ = some (.int .i64 ((rd_T57 l1_3 x5_1).f0.f0)) ∧ w'.cell? ⟨gb131, 1, none⟩ = some (.int .i64 ((rd_T57 l1_3 x5_1).f0.f1)) ∧ w'.cell? ⟨gb131, 2, none⟩ = some (.string ((rd_T57 l1_3 x5_1).f1)) ∧ w'.cell? ⟨gb131, 3, none⟩ = some (.int .i64 ((rd_T57 l1_3 x5_1).f2)) ∧ w'.cell? ⟨gb131, 4, none⟩ = some (.int .i64 ((rd_T57 l1_3 x5_1).f3)) ∧ w'.cell? ⟨gb129, 0, none⟩ = some (.string a1_0) ∧ w'.cell? ⟨gb129, 1, none⟩ = some (.int .i64 a1_1) ∧ w'.cell? ⟨gb129, 2, none⟩ = some (.int .i64 a1_2) ∧ w'.cell? ⟨gb129, 3, none⟩ = some (.slice (some ad130) l1_3.length c1_3) ∧ w'.cell? (ad130.add (((ji32)).toNat * 5)) = some (.int .i64 ((rd_T57 l1_3 (ji32)).f0.f0)) ∧ w'.cell? ⟨(ad130.add (((ji32)).toNat * 5)).block, (ad130.add (((ji32)).toNat * 5)).off + 1, none⟩ = some (.int .i64 ((rd_T57 l1_3 (ji32)).f0.f1)) ∧ w'.cell? ⟨(ad130.add (((ji32)).toNat * 5)).block, (ad130.add (((ji32)).toNat * 5)).off + 2, none⟩ = some (.string ((rd_T57 l1_3 (ji32)).f1)) ∧ w'.cell? ⟨(ad130.add (((ji32)).toNat * 5)).block, (ad130.add (((ji32)).toNat * 5)).off + 3, none⟩ = some (.int .i64 ((rd_T57 l1_3 (ji32)).f2)) ∧ w'.cell? ⟨(ad130.add (((ji32)).toNat * 5)).block, (ad130.add (((ji32)).toNat * 5)).off + 4, none⟩ = some (.int .i64 ((rd_T57 l1_3 (ji32)).f3))) (ds := []) _ (by kernel_rfl) rfl rfl ⟨(blk_cell BK131.out 0).trans rfl, (blk_cell BK131.out 1).trans rfl, (blk_cell BK131.out 2).trans rfl, (blk_cell BK131.out 3).trans rfl, (blk_cell BK131.out 4).trans rfl, (blk_cell BK129.out 0).trans rfl, (blk_cell BK129.out 1).trans rfl, (blk_cell BK129.out 2).trans rfl, (blk_cell BK129.out 3).trans rfl, ((HB.out.cell (World.block_lt_of_cell? w _ hw137_0)).trans hw137_0), ((HB.out.cell (World.block_lt_of_cell? w _ hw137_1)).trans hw137_1), ((HB.out.cell (World.block_lt_of_cell? w _ hw137_2)).trans hw137_2), ((HB.out.cell (World.block_lt_of_cell? w _ hw137_3)).trans hw137_3), ((HB.out.cell (World.block_lt_of_cell? w _ hw137_4)).trans hw137_4)⟩ (fun hHeld => ?_); refine with_tabW spec_l9Group.tab5 spec_l9Group.bits5 (fun HT_ HW_ => ?_)
              generalize w36.drew = w37 at BK128 BK129 BK131 HB hx137_0 hx137_1 hx137_2 hx137_3 hx137_4 hHeld ⊢
              refine pu 0 19 ?_; refine tk 1 20 ?_
              refine on 2 (some 21) (fun K hK => ?_)
              refine ca Try.func68 (spec_l9Id.calls ((rd_T57 l1_3 x5_1).f0.f0) ((rd_T57 l1_3 x5_1).f0.f1) true _ A17.out) ?_
              rintro e w38 ⟨rfl, hb⟩
              refine ⟨_, rfl, ?_⟩
              replace BK128 := Aside0.mk (blk_below (g := gb128) (o := .cells #[.int .i64 a0_0, .int .i64 a0_1, .slice A0_2 l0_2.length c0_2, .slice A0_3 l0_3.length c0_3] 34 (0, 0)) (by (with_reducible repeat (first | refine blk_drewN ?_ _ | refine blk_drew ?_ | refine blk_alloc ?_ _)); exact BK128.out) hb)
              replace BK129 := Aside0.mk (blk_below (g := gb129) (o := .cells #[.string a1_0, .int .i64 a1_1, .int .i64 a1_2, .slice (some ad130) l1_3.length c1_3] 107 (0, 0)) (by (with_reducible repeat (first | refine blk_drewN ?_ _ | refine blk_drew ?_ | refine blk_alloc ?_ _)); exact BK129.out) hb)
              replace BK131 := Aside0.mk (blk_below (g := gb131) (o := .cells #[.int .i64 ((rd_T57 l1_3 x5_1).f0.f0), .int .i64 ((rd_T57 l1_3 x5_1).f0.f1), .string ((rd_T57 l1_3 x5_1).f1), .int .i64 ((rd_T57 l1_3 x5_1).f2), .int .i64 ((rd_T57 l1_3 x5_1).f3)] 57 (0, 0)) (by (with_reducible repeat (first | refine blk_drewN ?_ _ | refine blk_drew ?_ | refine blk_alloc ?_ _)); exact BK131.out) hb)
              replace HB := Aside0.mk (below_step (by repeat (first | (with_reducible first | exact HB.out | apply below_alloc | apply pw_below_drewN | apply below_drew1 | refine below_set ?_ GE128.out | refine below_set ?_ GE129.out | refine below_set ?_ GE131.out) | exact HB.out)) hb)
              (try clear hb)
              (try clear hb2)
              (try clear hk)
              (try clear hi)
              refine hK.out _ _ ⟨(blk_cell BK131.out 0).trans rfl, (blk_cell BK131.out 1).trans rfl, (blk_cell BK131.out 2).trans rfl, (blk_cell BK131.out 3).trans rfl, (blk_cell BK131.out 4).trans rfl, (blk_cell BK129.out 0).trans rfl, (blk_cell BK129.out 1).trans rfl, (blk_cell BK129.out 2).trans rfl, (blk_cell BK129.out 3).trans rfl, ((HB.out.cell (World.block_lt_of_cell? w _ hw137_0)).trans hw137_0), ((HB.out.cell (World.block_lt_of_cell? w _ hw137_1)).trans hw137_1), ((HB.out.cell (World.block_lt_of_cell? w _ hw137_2)).trans hw137_2), ((HB.out.cell (World.block_lt_of_cell? w _ hw137_3)).trans hw137_3), ((HB.out.cell (World.block_lt_of_cell? w _ hw137_4)).trans hw137_4)⟩ (fun hHeld => ?_)
              clear hK K
              refine nm ?_; refine pu 3 22 ?_; refine pu 4 23 ?_; refine pu 5 24 ?_; refine pu 7 26 ?_; refine tk 6 25 ?_; refine tk 8 27 ?_
              refine on 9 (some 28) (fun K hK => ?_)
              refine ca Try.func69 (spec_IdLess.calls a1_1 a1_2 ((rd_T57 l1_3 x5_1).f0.f0) ((rd_T57 l1_3 x5_1).f0.f1) false _ A19.out) ?_
              rintro e w39 ⟨rfl, hb⟩
              refine ⟨_, rfl, ?_⟩
              replace BK128 := Aside0.mk (blk_below (g := gb128) (o := .cells #[.int .i64 a0_0, .int .i64 a0_1, .slice A0_2 l0_2.length c0_2, .slice A0_3 l0_3.length c0_3] 34 (0, 0)) (by (with_reducible repeat (first | refine blk_drewN ?_ _ | refine blk_drew ?_ | refine blk_alloc ?_ _)); exact BK128.out) hb)
              replace BK129 := Aside0.mk (blk_below (g := gb129) (o := .cells #[.string a1_0, .int .i64 a1_1, .int .i64 a1_2, .slice (some ad130) l1_3.length c1_3] 107 (0, 0)) (by (with_reducible repeat (first | refine blk_drewN ?_ _ | refine blk_drew ?_ | refine blk_alloc ?_ _)); exact BK129.out) hb)
              replace BK131 := Aside0.mk (blk_below (g := gb131) (o := .cells #[.int .i64 ((rd_T57 l1_3 x5_1).f0.f0), .int .i64 ((rd_T57 l1_3 x5_1).f0.f1), .string ((rd_T57 l1_3 x5_1).f1), .int .i64 ((rd_T57 l1_3 x5_1).f2), .int .i64 ((rd_T57 l1_3 x5_1).f3)] 57 (0, 0)) (by (with_reducible repeat (first | refine blk_drewN ?_ _ | refine blk_drew ?_ | refine blk_alloc ?_ _)); exact BK131.out) hb)
              replace HB := Aside0.mk (below_step (by repeat (first | (with_reducible first | exact HB.out | apply below_alloc | apply pw_below_drewN | apply below_drew1 | refine below_set ?_ GE128.out | refine below_set ?_ GE129.out | refine below_set ?_ GE131.out) | exact HB.out)) hb)
              (try clear hb)
              (try clear hb2)
              (try clear hk)
              (try clear hi)
              refine hK.out _ _ ⟨(blk_cell BK131.out 0).trans rfl, (blk_cell BK131.out 1).trans rfl, (blk_cell BK131.out 2).trans rfl, (blk_cell BK131.out 3).trans rfl, (blk_cell BK131.out 4).trans rfl, (blk_cell BK129.out 0).trans rfl, (blk_cell BK129.out 1).trans rfl, (blk_cell BK129.out 2).trans rfl, (blk_cell BK129.out 3).trans rfl, ((HB.out.cell (World.block_lt_of_cell? w _ hw137_0)).trans hw137_0), ((HB.out.cell (World.block_lt_of_cell? w _ hw137_1)).trans hw137_1), ((HB.out.cell (World.block_lt_of_cell? w _ hw137_2)).trans hw137_2), ((HB.out.cell (World.block_lt_of_cell? w _ hw137_3)).trans hw137_3), ((HB.out.cell (World.block_lt_of_cell? w _ hw137_4)).trans hw137_4)⟩ (fun hHeld => ?_)
              clear hK K
              refine nm ?_; refine pu 10 29 ?_; refine pu 11 30 ?_; refine pu 12 31 ?_; refine tk 13 32 ?_
              refine on 14 (some 33) (fun K hK => ?_)
              refine ca Try.func104 (spec_l4Key.calls ((rd_T57 l1_3 x5_1).f1) true _ A25.out) ?_
              rintro e w' ⟨rfl, ⟨nd, rfl⟩⟩
              refine ⟨_, rfl, ?_⟩
              refine hK.out _ _ ⟨(blk_cell BK131.out 0).trans rfl, (blk_cell BK131.out 1).trans rfl, (blk_cell BK131.out 2).trans rfl, (blk_cell BK131.out 3).trans rfl, (blk_cell BK131.out 4).trans rfl, (blk_cell BK129.out 0).trans rfl, (blk_cell BK129.out 1).trans rfl, (blk_cell BK129.out 2).trans rfl, (blk_cell BK129.out 3).trans rfl, ((HB.out.cell (World.block_lt_of_cell? w _ hw137_0)).trans hw137_0), ((HB.out.cell (World.block_lt_of_cell? w _ hw137_1)).trans hw137_1), ((HB.out.cell (World.block_lt_of_cell? w _ hw137_2)).trans hw137_2), ((HB.out.cell (World.block_lt_of_cell? w _ hw137_3)).trans hw137_3), ((HB.out.cell (World.block_lt_of_cell? w _ hw137_4)).trans hw137_4)⟩ (fun hHeld => ?_)
              clear hK K
              refine nm ?_; refine pu 15 34 ?_; refine pu 16 35 ?_; refine pu 17 36 ?_; refine pu 18 37 ?_; refine tk 19 38 ?_
              refine on 20 (some 39) (fun K hK => ?_)
              refine ca Try.func101 (spec_l1In.calls ((rd_T57 l1_3 x5_1).f2) 0 1000000 true _ A27.out) ?_
              rintro e w' ⟨rfl, ⟨nd, rfl⟩⟩
              refine ⟨_, rfl, ?_⟩
              refine hK.out _ _ ⟨(blk_cell BK131.out 0).trans rfl, (blk_cell BK131.out 1).trans rfl, (blk_cell BK131.out 2).trans rfl, (blk_cell BK131.out 3).trans rfl, (blk_cell BK131.out 4).trans rfl, (blk_cell BK129.out 0).trans rfl, (blk_cell BK129.out 1).trans rfl, (blk_cell BK129.out 2).trans rfl, (blk_cell BK129.out 3).trans rfl, ((HB.out.cell (World.block_lt_of_cell? w _ hw137_0)).trans hw137_0), ((HB.out.cell (World.block_lt_of_cell? w _ hw137_1)).trans hw137_1), ((HB.out.cell (World.block_lt_of_cell? w _ hw137_2)).trans hw137_2), ((HB.out.cell (World.block_lt_of_cell? w _ hw137_3)).trans hw137_3), ((HB.out.cell (World.block_lt_of_cell? w _ hw137_4)).trans hw137_4)⟩ (fun hHeld => ?_)
              clear hK K
              refine nm ?_; refine pu 21 40 ?_; refine pu 22 41 ?_; refine pu 23 42 ?_; refine pu 24 43 ?_; refine tk 25 44 ?_
              refine on 26 (some 45) (fun K hK => ?_)
              refine ca Try.func101 (spec_l1In.calls ((rd_T57 l1_3 x5_1).f3) 1 1000000000 true _ A29.out) ?_
              rintro e w' ⟨rfl, ⟨nd, rfl⟩⟩
              refine ⟨_, rfl, ?_⟩
              refine hK.out _ _ ⟨(blk_cell BK131.out 0).trans rfl, (blk_cell BK131.out 1).trans rfl, (blk_cell BK131.out 2).trans rfl, (blk_cell BK131.out 3).trans rfl, (blk_cell BK131.out 4).trans rfl, (blk_cell BK129.out 0).trans rfl, (blk_cell BK129.out 1).trans rfl, (blk_cell BK129.out 2).trans rfl, (blk_cell BK129.out 3).trans rfl, ((HB.out.cell (World.block_lt_of_cell? w _ hw137_0)).trans hw137_0), ((HB.out.cell (World.block_lt_of_cell? w _ hw137_1)).trans hw137_1), ((HB.out.cell (World.block_lt_of_cell? w _ hw137_2)).trans hw137_2), ((HB.out.cell (World.block_lt_of_cell? w _ hw137_3)).trans hw137_3), ((HB.out.cell (World.block_lt_of_cell? w _ hw137_4)).trans hw137_4)⟩ (fun hHeld => ?_)
              clear hK K
              refine nm ?_; refine pu 27 46 ?_; refine pu 28 47 ?_; refine pu 29 48 ?_; refine pu 30 49 ?_; refine pu 31 50 ?_; refine pu 32 51 ?_; refine pu 33 52 ?_; refine pu 35 54 ?_; refine pu 36 55 ?_; refine pu 40 59 ?_; refine tk 34 53 ?_; refine pu 37 56 ?_; refine pu 38 57 ?_; refine tk 39 58 ?_; refine tk 41 60 ?_
              refine on 42 (some 61) (fun K hK => ?_)
              refine goes_ Try.func69 (by kernel_rfl) rfl #[.agg #[.int .i64 ((rd_T57 l1_3 (ji32)).f0.f0), .int .i64 ((rd_T57 l1_3 (ji32)).f0.f1)], .agg #[.int .i64 ((rd_T57 l1_3 x5_1).f0.f0), .int .i64 ((rd_T57 l1_3 x5_1).f0.f1)]] (by rfl) rfl rfl (by (try simp only [List.map_toArray, List.map_cons, List.map_nil]); first | done | (simp only [hji32]; rfl) | rfl | (simp only [List.length_drop, List.length_take]; rfl)) ?_
              with_reducible refine (spec_IdLess.calls ((rd_T57 l1_3 (ji32)).f0.f0) ((rd_T57 l1_3 (ji32)).f0.f1) ((rd_T57 l1_3 x5_1).f0.f0) ((rd_T57 l1_3 x5_1).f0.f1) t138 _ A35.out).mono ?_
              rintro e w40 ⟨rfl, hb⟩
              refine ⟨_, rfl, ?_⟩
              replace BK128 := Aside0.mk (blk_below (g := gb128) (o := .cells #[.int .i64 a0_0, .int .i64 a0_1, .slice A0_2 l0_2.length c0_2, .slice A0_3 l0_3.length c0_3] 34 (0, 0)) (by (with_reducible repeat (first | refine blk_drewN ?_ _ | refine blk_drew ?_ | refine blk_alloc ?_ _)); exact BK128.out) hb)
              replace BK129 := Aside0.mk (blk_below (g := gb129) (o := .cells #[.string a1_0, .int .i64 a1_1, .int .i64 a1_2, .slice (some ad130) l1_3.length c1_3] 107 (0, 0)) (by (with_reducible repeat (first | refine blk_drewN ?_ _ | refine blk_drew ?_ | refine blk_alloc ?_ _)); exact BK129.out) hb)
              replace BK131 := Aside0.mk (blk_below (g := gb131) (o := .cells #[.int .i64 ((rd_T57 l1_3 x5_1).f0.f0), .int .i64 ((rd_T57 l1_3 x5_1).f0.f1), .string ((rd_T57 l1_3 x5_1).f1), .int .i64 ((rd_T57 l1_3 x5_1).f2), .int .i64 ((rd_T57 l1_3 x5_1).f3)] 57 (0, 0)) (by (with_reducible repeat (first | refine blk_drewN ?_ _ | refine blk_drew ?_ | refine blk_alloc ?_ _)); exact BK131.out) hb)
              replace HB := Aside0.mk (below_step (by repeat (first | (with_reducible first | exact HB.out | apply below_alloc | apply pw_below_drewN | apply below_drew1 | refine below_set ?_ GE128.out | refine below_set ?_ GE129.out | refine below_set ?_ GE131.out) | exact HB.out)) hb)
              (try clear hb)
              (try clear hb2)
              (try clear hk)
              (try clear hi)
              refine hK.out _ _ ⟨(blk_cell BK131.out 0).trans rfl, (blk_cell BK131.out 1).trans rfl, (blk_cell BK131.out 2).trans rfl, (blk_cell BK131.out 3).trans rfl, (blk_cell BK131.out 4).trans rfl, (blk_cell BK129.out 0).trans rfl, (blk_cell BK129.out 1).trans rfl, (blk_cell BK129.out 2).trans rfl, (blk_cell BK129.out 3).trans rfl, ((HB.out.cell (World.block_lt_of_cell? w _ hw137_0)).trans hw137_0), ((HB.out.cell (World.block_lt_of_cell? w _ hw137_1)).trans hw137_1), ((HB.out.cell (World.block_lt_of_cell? w _ hw137_2)).trans hw137_2), ((HB.out.cell (World.block_lt_of_cell? w _ hw137_3)).trans hw137_3), ((HB.out.cell (World.block_lt_of_cell? w _ hw137_4)).trans hw137_4)⟩ (fun hHeld => ?_)
              clear hK K
              refine nm ?_; refine pu 43 62 ?_; refine pu 44 63 ?_; refine pu 45 64 ?_
              refine dn ?_
              try go_wp2
              go_meet
              case rel => exact ⟨_, (!t138), (by first | rfl | (simp; done) | (simp [*]; done)), H', ⟨by have := HK1.out; first | omega | exact Nat.le_refl _⟩, ⟨by (with_reducible repeat (first | refine blk_drewN ?_ _ | refine blk_drew ?_ | refine blk_alloc ?_ _)); exact BK128.out⟩, ⟨by (with_reducible repeat (first | refine blk_drewN ?_ _ | refine blk_drew ?_ | refine blk_alloc ?_ _)); exact BK129.out⟩, ⟨by (with_reducible repeat (first | refine blk_drewN ?_ _ | refine blk_drew ?_ | refine blk_alloc ?_ _)); exact BK131.out⟩, ⟨by repeat (first | (with_reducible first | exact HB.out | apply below_alloc | apply pw_below_drewN | apply below_drew1 | refine below_set ?_ GE128.out | refine below_set ?_ GE129.out | refine below_set ?_ GE131.out) | exact HB.out)⟩⟩
             ·rw [if_neg c34] at H
              exact absurd H (by simp)
            ·rw [if_neg c33] at H
             exact absurd H (by simp)
           ·rw [if_neg c31] at H
            have c31b0 : decide (0 < x5_1) = false := decide_eq_false c31
            clear c31
            (first | rw [c31b0] | rw [c31b1] | (simp only [i64_w, i32_w]; rw [c31b0]) | rw [c31b2] | skip)
            have H' := Aside0.mk H
            clear H
            try go_wp2
            have n0_ : Aside0 ((((((w13.setCell ⟨gb131, 0, none⟩ (.int .i64 ((rd_T57 l1_3 x5_1).f0.f0))).setCell ⟨gb131, 1, none⟩ (.int .i64 ((rd_T57 l1_3 x5_1).f0.f1))).setCell ⟨gb131, 2, none⟩ (.string ((rd_T57 l1_3 x5_1).f1))).setCell ⟨gb131, 3, none⟩ (.int .i64 ((rd_T57 l1_3 x5_1).f2))).setCell ⟨gb131, 4, none⟩ (.int .i64 ((rd_T57 l1_3 x5_1).f3))).heap[gb128]? = some (.cells #[.int .i64 a0_0, .int .i64 a0_1, .slice A0_2 l0_2.length c0_2, .slice A0_3 l0_3.length c0_3] 34 (0, 0))) := ⟨by (with_reducible repeat (first | refine blk_drewN ?_ _ | refine blk_drew ?_ | refine blk_alloc ?_ _)); refine blk_far ?_ NB128_131.out _; (with_reducible repeat (first | refine blk_drewN ?_ _ | refine blk_drew ?_ | refine blk_alloc ?_ _)); refine blk_far ?_ NB128_131.out _; (with_reducible repeat (first | refine blk_drewN ?_ _ | refine blk_drew ?_ | refine blk_alloc ?_ _)); refine blk_far ?_ NB128_131.out _; (with_reducible repeat (first | refine blk_drewN ?_ _ | refine blk_drew ?_ | refine blk_alloc ?_ _)); refine blk_far ?_ NB128_131.out _; (with_reducible repeat (first | refine blk_drewN ?_ _ | refine blk_drew ?_ | refine blk_alloc ?_ _)); refine blk_far ?_ NB128_131.out _; (with_reducible repeat (first | refine blk_drewN ?_ _ | refine blk_drew ?_ | refine blk_alloc ?_ _)); exact BK128.out⟩
            have n1_ : Aside0 ((((((w13.setCell ⟨gb131, 0, none⟩ (.int .i64 ((rd_T57 l1_3 x5_1).f0.f0))).setCell ⟨gb131, 1, none⟩ (.int .i64 ((rd_T57 l1_3 x5_1).f0.f1))).setCell ⟨gb131, 2, none⟩ (.string ((rd_T57 l1_3 x5_1).f1))).setCell ⟨gb131, 3, none⟩ (.int .i64 ((rd_T57 l1_3 x5_1).f2))).setCell ⟨gb131, 4, none⟩ (.int .i64 ((rd_T57 l1_3 x5_1).f3))).heap[gb129]? = some (.cells #[.string a1_0, .int .i64 a1_1, .int .i64 a1_2, .slice (some ad130) l1_3.length c1_3] 107 (0, 0))) := ⟨by (with_reducible repeat (first | refine blk_drewN ?_ _ | refine blk_drew ?_ | refine blk_alloc ?_ _)); refine blk_far ?_ NB129_131.out _; (with_reducible repeat (first | refine blk_drewN ?_ _ | refine blk_drew ?_ | refine blk_alloc ?_ _)); refine blk_far ?_ NB129_131.out _; (with_reducible repeat (first | refine blk_drewN ?_ _ | refine blk_drew ?_ | refine blk_alloc ?_ _)); refine blk_far ?_ NB129_131.out _; (with_reducible repeat (first | refine blk_drewN ?_ _ | refine blk_drew ?_ | refine blk_alloc ?_ _)); refine blk_far ?_ NB129_131.out _; (with_reducible repeat (first | refine blk_drewN ?_ _ | refine blk_drew ?_ | refine blk_alloc ?_ _)); refine blk_far ?_ NB129_131.out _; (with_reducible repeat (first | refine blk_drewN ?_ _ | refine blk_drew ?_ | refine blk_alloc ?_ _)); exact BK129.out⟩
            have n2_ : Aside0 ((((((w13.setCell ⟨gb131, 0, none⟩ (.int .i64 ((rd_T57 l1_3 x5_1).f0.f0))).setCell ⟨gb131, 1, none⟩ (.int .i64 ((rd_T57 l1_3 x5_1).f0.f1))).setCell ⟨gb131, 2, none⟩ (.string ((rd_T57 l1_3 x5_1).f1))).setCell ⟨gb131, 3, none⟩ (.int .i64 ((rd_T57 l1_3 x5_1).f2))).setCell ⟨gb131, 4, none⟩ (.int .i64 ((rd_T57 l1_3 x5_1).f3))).heap[gb131]? = some (.cells #[.int .i64 ((rd_T57 l1_3 x5_1).f0.f0), .int .i64 ((rd_T57 l1_3 x5_1).f0.f1), .string ((rd_T57 l1_3 x5_1).f1), .int .i64 ((rd_T57 l1_3 x5_1).f2), .int .i64 ((rd_T57 l1_3 x5_1).f3)] 57 (0, 0))) := ⟨by (with_reducible repeat (first | refine blk_drewN ?_ _ | refine blk_drew ?_ | refine blk_alloc ?_ _)); refine blk_put (cs := #[.int .i64 ((rd_T57 l1_3 x5_1).f0.f0), .int .i64 ((rd_T57 l1_3 x5_1).f0.f1), .string ((rd_T57 l1_3 x5_1).f1), .int .i64 ((rd_T57 l1_3 x5_1).f2), .int .i64 0]) ?_ 4 _ rfl; (with_reducible repeat (first | refine blk_drewN ?_ _ | refine blk_drew ?_ | refine blk_alloc ?_ _)); refine blk_put (cs := #[.int .i64 ((rd_T57 l1_3 x5_1).f0.f0), .int .i64 ((rd_T57 l1_3 x5_1).f0.f1), .string ((rd_T57 l1_3 x5_1).f1), .int .i64 0, .int .i64 0]) ?_ 3 _ rfl; (with_reducible repeat (first | refine blk_drewN ?_ _ | refine blk_drew ?_ | refine blk_alloc ?_ _)); refine blk_put (cs := #[.int .i64 ((rd_T57 l1_3 x5_1).f0.f0), .int .i64 ((rd_T57 l1_3 x5_1).f0.f1), .string (⟨#[]⟩ : ByteArray), .int .i64 0, .int .i64 0]) ?_ 2 _ rfl; (with_reducible repeat (first | refine blk_drewN ?_ _ | refine blk_drew ?_ | refine blk_alloc ?_ _)); refine blk_put (cs := #[.int .i64 ((rd_T57 l1_3 x5_1).f0.f0), .int .i64 0, .string (⟨#[]⟩ : ByteArray), .int .i64 0, .int .i64 0]) ?_ 1 _ rfl; (with_reducible repeat (first | refine blk_drewN ?_ _ | refine blk_drew ?_ | refine blk_alloc ?_ _)); refine blk_put (cs := #[.int .i64 0, .int .i64 0, .string (⟨#[]⟩ : ByteArray), .int .i64 0, .int .i64 0]) ?_ 0 _ rfl; (with_reducible repeat (first | refine blk_drewN ?_ _ | refine blk_drew ?_ | refine blk_alloc ?_ _)); exact BK131.out⟩
            have n3_ : Aside0 (Below w.heap.size w (((((w13.setCell ⟨gb131, 0, none⟩ (.int .i64 ((rd_T57 l1_3 x5_1).f0.f0))).setCell ⟨gb131, 1, none⟩ (.int .i64 ((rd_T57 l1_3 x5_1).f0.f1))).setCell ⟨gb131, 2, none⟩ (.string ((rd_T57 l1_3 x5_1).f1))).setCell ⟨gb131, 3, none⟩ (.int .i64 ((rd_T57 l1_3 x5_1).f2))).setCell ⟨gb131, 4, none⟩ (.int .i64 ((rd_T57 l1_3 x5_1).f3)))) := ⟨by repeat (first | (with_reducible first | exact HB.out | apply below_alloc | apply pw_below_drewN | apply below_drew1 | refine below_set ?_ GE128.out | refine below_set ?_ GE129.out | refine below_set ?_ GE131.out) | exact HB.out)⟩
            (try clear BK128)
            (try clear BK129)
            (try clear BK131)
            (try clear HB)
            generalize (((((w13.setCell ⟨gb131, 0, none⟩ (.int .i64 ((rd_T57 l1_3 x5_1).f0.f0))).setCell ⟨gb131, 1, none⟩ (.int .i64 ((rd_T57 l1_3 x5_1).f0.f1))).setCell ⟨gb131, 2, none⟩ (.string ((rd_T57 l1_3 x5_1).f1))).setCell ⟨gb131, 3, none⟩ (.int .i64 ((rd_T57 l1_3 x5_1).f2))).setCell ⟨gb131, 4, none⟩ (.int .i64 ((rd_T57 l1_3 x5_1).f3))) = w41 at n0_ n1_ n2_ n3_ ⊢
            have BK128 := n0_
            have BK129 := n1_
            have BK131 := n2_
            have HB := n3_
            clear n0_ n1_ n2_ n3_
            replace BK128 := Aside0.mk (blk_drew BK128.out)
            replace BK129 := Aside0.mk (blk_drew BK129.out)
            replace BK131 := Aside0.mk (blk_drew BK131.out)
            replace HB := Aside0.mk (below_drew1 HB.out)
            refine start_ (n := 46) (S := fun w' => w'.cell? ⟨gb131, 0, none⟩ = some (.int .i64 ((rd_T57 l1_3 x5_1).f0.f0)) ∧ w'.cell? ⟨gb131, 1, none⟩ = some (.int .i64 ((rd_T57 l1_3 x5_1).f0.f1)) ∧ w'.cell? ⟨gb131, 2, none⟩ = some (.string ((rd_T57 l1_3 x5_1).f1)) ∧ w'.cell? ⟨gb131, 3, none⟩ = some (.int .i64 ((rd_T57 l1_3 x5_1).f2)) ∧ w'.cell? ⟨gb131, 4, none⟩ = some (.int .i64 ((rd_T57 l1_3 x5_1).f3)) ∧ w'.cell? ⟨gb129, 0, none⟩ = some (.string a1_0) ∧ w'.cell? ⟨gb129, 1, none⟩ = some (.int .i64 a1_1) ∧ w'.cell? ⟨gb129, 2, none⟩ = some (.int .i64 a1_2) ∧ w'.cell? ⟨gb129, 3, none⟩ = some (.slice (some ad130) l1_3.length c1_3)) (ds := []) _ (by kernel_rfl) rfl rfl ⟨(blk_cell BK131.out 0).trans rfl, (blk_cell BK131.out 1).trans rfl, (blk_cell BK131.out 2).trans rfl, (blk_cell BK131.out 3).trans rfl, (blk_cell BK131.out 4).trans rfl, (blk_cell BK129.out 0).trans rfl, (blk_cell BK129.out 1).trans rfl, (blk_cell BK129.out 2).trans rfl, (blk_cell BK129.out 3).trans rfl⟩ (fun hHeld => ?_); refine with_tabW spec_l9Group.tab5 spec_l9Group.bits5 (fun HT_ HW_ => ?_)
            generalize w41.drew = w42 at BK128 BK129 BK131 HB hHeld ⊢
            refine pu 0 19 ?_; refine tk 1 20 ?_
            refine on 2 (some 21) (fun K hK => ?_)
            refine ca Try.func68 (spec_l9Id.calls ((rd_T57 l1_3 x5_1).f0.f0) ((rd_T57 l1_3 x5_1).f0.f1) true _ A17.out) ?_
            rintro e w43 ⟨rfl, hb⟩
            refine ⟨_, rfl, ?_⟩
            replace BK128 := Aside0.mk (blk_below (g := gb128) (o := .cells #[.int .i64 a0_0, .int .i64 a0_1, .slice A0_2 l0_2.length c0_2, .slice A0_3 l0_3.length c0_3] 34 (0, 0)) (by (with_reducible repeat (first | refine blk_drewN ?_ _ | refine blk_drew ?_ | refine blk_alloc ?_ _)); exact BK128.out) hb)
            replace BK129 := Aside0.mk (blk_below (g := gb129) (o := .cells #[.string a1_0, .int .i64 a1_1, .int .i64 a1_2, .slice (some ad130) l1_3.length c1_3] 107 (0, 0)) (by (with_reducible repeat (first | refine blk_drewN ?_ _ | refine blk_drew ?_ | refine blk_alloc ?_ _)); exact BK129.out) hb)
            replace BK131 := Aside0.mk (blk_below (g := gb131) (o := .cells #[.int .i64 ((rd_T57 l1_3 x5_1).f0.f0), .int .i64 ((rd_T57 l1_3 x5_1).f0.f1), .string ((rd_T57 l1_3 x5_1).f1), .int .i64 ((rd_T57 l1_3 x5_1).f2), .int .i64 ((rd_T57 l1_3 x5_1).f3)] 57 (0, 0)) (by (with_reducible repeat (first | refine blk_drewN ?_ _ | refine blk_drew ?_ | refine blk_alloc ?_ _)); exact BK131.out) hb)
            replace HB := Aside0.mk (below_step (by repeat (first | (with_reducible first | exact HB.out | apply below_alloc | apply pw_below_drewN | apply below_drew1 | refine below_set ?_ GE128.out | refine below_set ?_ GE129.out | refine below_set ?_ GE131.out) | exact HB.out)) hb)
            (try clear hb)
            (try clear hb2)
            (try clear hk)
            (try clear hi)
            refine hK.out _ _ ⟨(blk_cell BK131.out 0).trans rfl, (blk_cell BK131.out 1).trans rfl, (blk_cell BK131.out 2).trans rfl, (blk_cell BK131.out 3).trans rfl, (blk_cell BK131.out 4).trans rfl, (blk_cell BK129.out 0).trans rfl, (blk_cell BK129.out 1).trans rfl, (blk_cell BK129.out 2).trans rfl, (blk_cell BK129.out 3).trans rfl⟩ (fun hHeld => ?_)
            clear hK K
            refine nm ?_; refine pu 3 22 ?_; refine pu 4 23 ?_; refine pu 5 24 ?_; refine pu 7 26 ?_; refine tk 6 25 ?_; refine tk 8 27 ?_
            refine on 9 (some 28) (fun K hK => ?_)
            refine ca Try.func69 (spec_IdLess.calls a1_1 a1_2 ((rd_T57 l1_3 x5_1).f0.f0) ((rd_T57 l1_3 x5_1).f0.f1) false _ A19.out) ?_
            rintro e w44 ⟨rfl, hb⟩
            refine ⟨_, rfl, ?_⟩
            replace BK128 := Aside0.mk (blk_below (g := gb128) (o := .cells #[.int .i64 a0_0, .int .i64 a0_1, .slice A0_2 l0_2.length c0_2, .slice A0_3 l0_3.length c0_3] 34 (0, 0)) (by (with_reducible repeat (first | refine blk_drewN ?_ _ | refine blk_drew ?_ | refine blk_alloc ?_ _)); exact BK128.out) hb)
            replace BK129 := Aside0.mk (blk_below (g := gb129) (o := .cells #[.string a1_0, .int .i64 a1_1, .int .i64 a1_2, .slice (some ad130) l1_3.length c1_3] 107 (0, 0)) (by (with_reducible repeat (first | refine blk_drewN ?_ _ | refine blk_drew ?_ | refine blk_alloc ?_ _)); exact BK129.out) hb)
            replace BK131 := Aside0.mk (blk_below (g := gb131) (o := .cells #[.int .i64 ((rd_T57 l1_3 x5_1).f0.f0), .int .i64 ((rd_T57 l1_3 x5_1).f0.f1), .string ((rd_T57 l1_3 x5_1).f1), .int .i64 ((rd_T57 l1_3 x5_1).f2), .int .i64 ((rd_T57 l1_3 x5_1).f3)] 57 (0, 0)) (by (with_reducible repeat (first | refine blk_drewN ?_ _ | refine blk_drew ?_ | refine blk_alloc ?_ _)); exact BK131.out) hb)
            replace HB := Aside0.mk (below_step (by repeat (first | (with_reducible first | exact HB.out | apply below_alloc | apply pw_below_drewN | apply below_drew1 | refine below_set ?_ GE128.out | refine below_set ?_ GE129.out | refine below_set ?_ GE131.out) | exact HB.out)) hb)
            (try clear hb)
            (try clear hb2)
            (try clear hk)
            (try clear hi)
            refine hK.out _ _ ⟨(blk_cell BK131.out 0).trans rfl, (blk_cell BK131.out 1).trans rfl, (blk_cell BK131.out 2).trans rfl, (blk_cell BK131.out 3).trans rfl, (blk_cell BK131.out 4).trans rfl, (blk_cell BK129.out 0).trans rfl, (blk_cell BK129.out 1).trans rfl, (blk_cell BK129.out 2).trans rfl, (blk_cell BK129.out 3).trans rfl⟩ (fun hHeld => ?_)
            clear hK K
            refine nm ?_; refine pu 10 29 ?_; refine pu 11 30 ?_; refine pu 12 31 ?_; refine tk 13 32 ?_
            refine on 14 (some 33) (fun K hK => ?_)
            refine ca Try.func104 (spec_l4Key.calls ((rd_T57 l1_3 x5_1).f1) true _ A25.out) ?_
            rintro e w' ⟨rfl, ⟨nd, rfl⟩⟩
            refine ⟨_, rfl, ?_⟩
            refine hK.out _ _ ⟨(blk_cell BK131.out 0).trans rfl, (blk_cell BK131.out 1).trans rfl, (blk_cell BK131.out 2).trans rfl, (blk_cell BK131.out 3).trans rfl, (blk_cell BK131.out 4).trans rfl, (blk_cell BK129.out 0).trans rfl, (blk_cell BK129.out 1).trans rfl, (blk_cell BK129.out 2).trans rfl, (blk_cell BK129.out 3).trans rfl⟩ (fun hHeld => ?_)
            clear hK K
            refine nm ?_; refine pu 15 34 ?_; refine pu 16 35 ?_; refine pu 17 36 ?_; refine pu 18 37 ?_; refine tk 19 38 ?_
            refine on 20 (some 39) (fun K hK => ?_)
            refine ca Try.func101 (spec_l1In.calls ((rd_T57 l1_3 x5_1).f2) 0 1000000 true _ A27.out) ?_
            rintro e w' ⟨rfl, ⟨nd, rfl⟩⟩
            refine ⟨_, rfl, ?_⟩
            refine hK.out _ _ ⟨(blk_cell BK131.out 0).trans rfl, (blk_cell BK131.out 1).trans rfl, (blk_cell BK131.out 2).trans rfl, (blk_cell BK131.out 3).trans rfl, (blk_cell BK131.out 4).trans rfl, (blk_cell BK129.out 0).trans rfl, (blk_cell BK129.out 1).trans rfl, (blk_cell BK129.out 2).trans rfl, (blk_cell BK129.out 3).trans rfl⟩ (fun hHeld => ?_)
            clear hK K
            refine nm ?_; refine pu 21 40 ?_; refine pu 22 41 ?_; refine pu 23 42 ?_; refine pu 24 43 ?_; refine tk 25 44 ?_
            refine on 26 (some 45) (fun K hK => ?_)
            refine ca Try.func101 (spec_l1In.calls ((rd_T57 l1_3 x5_1).f3) 1 1000000000 true _ A29.out) ?_
            rintro e w' ⟨rfl, ⟨nd, rfl⟩⟩
            refine ⟨_, rfl, ?_⟩
            refine hK.out _ _ ⟨(blk_cell BK131.out 0).trans rfl, (blk_cell BK131.out 1).trans rfl, (blk_cell BK131.out 2).trans rfl, (blk_cell BK131.out 3).trans rfl, (blk_cell BK131.out 4).trans rfl, (blk_cell BK129.out 0).trans rfl, (blk_cell BK129.out 1).trans rfl, (blk_cell BK129.out 2).trans rfl, (blk_cell BK129.out 3).trans rfl⟩ (fun hHeld => ?_)
            clear hK K
            refine nm ?_; refine pu 27 46 ?_; refine pu 28 47 ?_; refine pu 29 48 ?_; refine pu 30 49 ?_; refine pu 31 50 ?_; refine pu 32 51 ?_; refine of 33 52 ?_; refine of 34 53 ?_; refine of 35 54 ?_; refine of 36 55 ?_; refine of 37 56 ?_; refine of 38 57 ?_; refine of 39 58 ?_; refine of 40 59 ?_; refine of 41 60 ?_; refine of 42 61 ?_; refine of 43 62 ?_; refine pu 44 63 ?_; refine pu 45 64 ?_
            refine dn ?_
            try go_wp2
            go_meet
            case rel => exact ⟨_, (false), (by first | rfl | (simp; done) | (simp [*]; done)), H', ⟨by have := HK1.out; first | omega | exact Nat.le_refl _⟩, ⟨by (with_reducible repeat (first | refine blk_drewN ?_ _ | refine blk_drew ?_ | refine blk_alloc ?_ _)); exact BK128.out⟩, ⟨by (with_reducible repeat (first | refine blk_drewN ?_ _ | refine blk_drew ?_ | refine blk_alloc ?_ _)); exact BK129.out⟩, ⟨by (with_reducible repeat (first | refine blk_drewN ?_ _ | refine blk_drew ?_ | refine blk_alloc ?_ _)); exact BK131.out⟩, ⟨by repeat (first | (with_reducible first | exact HB.out | apply below_alloc | apply pw_below_drewN | apply below_drew1 | refine below_set ?_ GE128.out | refine below_set ?_ GE129.out | refine below_set ?_ GE131.out) | exact HB.out)⟩⟩
          ·replace c30 := Bool.eq_false_iff.mpr c30
           subst c30
           have H1 : (spec_l9Group.j1 k1 x5_1 true a0_0 a0_1 l0_2 l0_3 a1_0 a1_1 a1_2 l1_3) = some r := by rw [if_neg (show ¬ (false = true) by decide)] at H; exact H
           clear H
           have H := H1
           clear H1
           have H' := Aside0.mk H
           clear H
           try go_wp2
           have n0_ : Aside0 ((((((w13.setCell ⟨gb131, 0, none⟩ (.int .i64 ((rd_T57 l1_3 x5_1).f0.f0))).setCell ⟨gb131, 1, none⟩ (.int .i64 ((rd_T57 l1_3 x5_1).f0.f1))).setCell ⟨gb131, 2, none⟩ (.string ((rd_T57 l1_3 x5_1).f1))).setCell ⟨gb131, 3, none⟩ (.int .i64 ((rd_T57 l1_3 x5_1).f2))).setCell ⟨gb131, 4, none⟩ (.int .i64 ((rd_T57 l1_3 x5_1).f3))).heap[gb128]? = some (.cells #[.int .i64 a0_0, .int .i64 a0_1, .slice A0_2 l0_2.length c0_2, .slice A0_3 l0_3.length c0_3] 34 (0, 0))) := ⟨by (with_reducible repeat (first | refine blk_drewN ?_ _ | refine blk_drew ?_ | refine blk_alloc ?_ _)); refine blk_far ?_ NB128_131.out _; (with_reducible repeat (first | refine blk_drewN ?_ _ | refine blk_drew ?_ | refine blk_alloc ?_ _)); refine blk_far ?_ NB128_131.out _; (with_reducible repeat (first | refine blk_drewN ?_ _ | refine blk_drew ?_ | refine blk_alloc ?_ _)); refine blk_far ?_ NB128_131.out _; (with_reducible repeat (first | refine blk_drewN ?_ _ | refine blk_drew ?_ | refine blk_alloc ?_ _)); refine blk_far ?_ NB128_131.out _; (with_reducible repeat (first | refine blk_drewN ?_ _ | refine blk_drew ?_ | refine blk_alloc ?_ _)); refine blk_far ?_ NB128_131.out _; (with_reducible repeat (first | refine blk_drewN ?_ _ | refine blk_drew ?_ | refine blk_alloc ?_ _)); exact BK128.out⟩
           have n1_ : Aside0 ((((((w13.setCell ⟨gb131, 0, none⟩ (.int .i64 ((rd_T57 l1_3 x5_1).f0.f0))).setCell ⟨gb131, 1, none⟩ (.int .i64 ((rd_T57 l1_3 x5_1).f0.f1))).setCell ⟨gb131, 2, none⟩ (.string ((rd_T57 l1_3 x5_1).f1))).setCell ⟨gb131, 3, none⟩ (.int .i64 ((rd_T57 l1_3 x5_1).f2))).setCell ⟨gb131, 4, none⟩ (.int .i64 ((rd_T57 l1_3 x5_1).f3))).heap[gb129]? = some (.cells #[.string a1_0, .int .i64 a1_1, .int .i64 a1_2, .slice (some ad130) l1_3.length c1_3] 107 (0, 0))) := ⟨by (with_reducible repeat (first | refine blk_drewN ?_ _ | refine blk_drew ?_ | refine blk_alloc ?_ _)); refine blk_far ?_ NB129_131.out _; (with_reducible repeat (first | refine blk_drewN ?_ _ | refine blk_drew ?_ | refine blk_alloc ?_ _)); refine blk_far ?_ NB129_131.out _; (with_reducible repeat (first | refine blk_drewN ?_ _ | refine blk_drew ?_ | refine blk_alloc ?_ _)); refine blk_far ?_ NB129_131.out _; (with_reducible repeat (first | refine blk_drewN ?_ _ | refine blk_drew ?_ | refine blk_alloc ?_ _)); refine blk_far ?_ NB129_131.out _; (with_reducible repeat (first | refine blk_drewN ?_ _ | refine blk_drew ?_ | refine blk_alloc ?_ _)); refine blk_far ?_ NB129_131.out _; (with_reducible repeat (first | refine blk_drewN ?_ _ | refine blk_drew ?_ | refine blk_alloc ?_ _)); exact BK129.out⟩
           have n2_ : Aside0 ((((((w13.setCell ⟨gb131, 0, none⟩ (.int .i64 ((rd_T57 l1_3 x5_1).f0.f0))).setCell ⟨gb131, 1, none⟩ (.int .i64 ((rd_T57 l1_3 x5_1).f0.f1))).setCell ⟨gb131, 2, none⟩ (.string ((rd_T57 l1_3 x5_1).f1))).setCell ⟨gb131, 3, none⟩ (.int .i64 ((rd_T57 l1_3 x5_1).f2))).setCell ⟨gb131, 4, none⟩ (.int .i64 ((rd_T57 l1_3 x5_1).f3))).heap[gb131]? = some (.cells #[.int .i64 ((rd_T57 l1_3 x5_1).f0.f0), .int .i64 ((rd_T57 l1_3 x5_1).f0.f1), .string ((rd_T57 l1_3 x5_1).f1), .int .i64 ((rd_T57 l1_3 x5_1).f2), .int .i64 ((rd_T57 l1_3 x5_1).f3)] 57 (0, 0))) := ⟨by (with_reducible repeat (first | refine blk_drewN ?_ _ | refine blk_drew ?_ | refine blk_alloc ?_ _)); refine blk_put (cs := #[.int .i64 ((rd_T57 l1_3 x5_1).f0.f0), .int .i64 ((rd_T57 l1_3 x5_1).f0.f1), .string ((rd_T57 l1_3 x5_1).f1), .int .i64 ((rd_T57 l1_3 x5_1).f2), .int .i64 0]) ?_ 4 _ rfl; (with_reducible repeat (first | refine blk_drewN ?_ _ | refine blk_drew ?_ | refine blk_alloc ?_ _)); refine blk_put (cs := #[.int .i64 ((rd_T57 l1_3 x5_1).f0.f0), .int .i64 ((rd_T57 l1_3 x5_1).f0.f1), .string ((rd_T57 l1_3 x5_1).f1), .int .i64 0, .int .i64 0]) ?_ 3 _ rfl; (with_reducible repeat (first | refine blk_drewN ?_ _ | refine blk_drew ?_ | refine blk_alloc ?_ _)); refine blk_put (cs := #[.int .i64 ((rd_T57 l1_3 x5_1).f0.f0), .int .i64 ((rd_T57 l1_3 x5_1).f0.f1), .string (⟨#[]⟩ : ByteArray), .int .i64 0, .int .i64 0]) ?_ 2 _ rfl; (with_reducible repeat (first | refine blk_drewN ?_ _ | refine blk_drew ?_ | refine blk_alloc ?_ _)); refine blk_put (cs := #[.int .i64 ((rd_T57 l1_3 x5_1).f0.f0), .int .i64 0, .string (⟨#[]⟩ : ByteArray), .int .i64 0, .int .i64 0]) ?_ 1 _ rfl; (with_reducible repeat (first | refine blk_drewN ?_ _ | refine blk_drew ?_ | refine blk_alloc ?_ _)); refine blk_put (cs := #[.int .i64 0, .int .i64 0, .string (⟨#[]⟩ : ByteArray), .int .i64 0, .int .i64 0]) ?_ 0 _ rfl; (with_reducible repeat (first | refine blk_drewN ?_ _ | refine blk_drew ?_ | refine blk_alloc ?_ _)); exact BK131.out⟩
           have n3_ : Aside0 (Below w.heap.size w (((((w13.setCell ⟨gb131, 0, none⟩ (.int .i64 ((rd_T57 l1_3 x5_1).f0.f0))).setCell ⟨gb131, 1, none⟩ (.int .i64 ((rd_T57 l1_3 x5_1).f0.f1))).setCell ⟨gb131, 2, none⟩ (.string ((rd_T57 l1_3 x5_1).f1))).setCell ⟨gb131, 3, none⟩ (.int .i64 ((rd_T57 l1_3 x5_1).f2))).setCell ⟨gb131, 4, none⟩ (.int .i64 ((rd_T57 l1_3 x5_1).f3)))) := ⟨by repeat (first | (with_reducible first | exact HB.out | apply below_alloc | apply pw_below_drewN | apply below_drew1 | refine below_set ?_ GE128.out | refine below_set ?_ GE129.out | refine below_set ?_ GE131.out) | exact HB.out)⟩
           (try clear BK128)
           (try clear BK129)
           (try clear BK131)
           (try clear HB)
           generalize (((((w13.setCell ⟨gb131, 0, none⟩ (.int .i64 ((rd_T57 l1_3 x5_1).f0.f0))).setCell ⟨gb131, 1, none⟩ (.int .i64 ((rd_T57 l1_3 x5_1).f0.f1))).setCell ⟨gb131, 2, none⟩ (.string ((rd_T57 l1_3 x5_1).f1))).setCell ⟨gb131, 3, none⟩ (.int .i64 ((rd_T57 l1_3 x5_1).f2))).setCell ⟨gb131, 4, none⟩ (.int .i64 ((rd_T57 l1_3 x5_1).f3))) = w45 at n0_ n1_ n2_ n3_ ⊢
           have BK128 := n0_
           have BK129 := n1_
           have BK131 := n2_
           have HB := n3_
           clear n0_ n1_ n2_ n3_
           replace BK128 := Aside0.mk (blk_drew BK128.out)
           replace BK129 := Aside0.mk (blk_drew BK129.out)
           replace BK131 := Aside0.mk (blk_drew BK131.out)
           replace HB := Aside0.mk (below_drew1 HB.out)
           refine start_ (n := 46) (S := fun w' => w'.cell? ⟨gb131, 0, none⟩ = some (.int .i64 ((rd_T57 l1_3 x5_1).f0.f0)) ∧ w'.cell? ⟨gb131, 1, none⟩ = some (.int .i64 ((rd_T57 l1_3 x5_1).f0.f1)) ∧ w'.cell? ⟨gb131, 2, none⟩ = some (.string ((rd_T57 l1_3 x5_1).f1)) ∧ w'.cell? ⟨gb131, 3, none⟩ = some (.int .i64 ((rd_T57 l1_3 x5_1).f2)) ∧ w'.cell? ⟨gb131, 4, none⟩ = some (.int .i64 ((rd_T57 l1_3 x5_1).f3)) ∧ w'.cell? ⟨gb129, 0, none⟩ = some (.string a1_0) ∧ w'.cell? ⟨gb129, 1, none⟩ = some (.int .i64 a1_1) ∧ w'.cell? ⟨gb129, 2, none⟩ = some (.int .i64 a1_2) ∧ w'.cell? ⟨gb129, 3, none⟩ = some (.slice (some ad130) l1_3.length c1_3)) (ds := []) _ (by kernel_rfl) rfl rfl ⟨(blk_cell BK131.out 0).trans rfl, (blk_cell BK131.out 1).trans rfl, (blk_cell BK131.out 2).trans rfl, (blk_cell BK131.out 3).trans rfl, (blk_cell BK131.out 4).trans rfl, (blk_cell BK129.out 0).trans rfl, (blk_cell BK129.out 1).trans rfl, (blk_cell BK129.out 2).trans rfl, (blk_cell BK129.out 3).trans rfl⟩ (fun hHeld => ?_); refine with_tabW spec_l9Group.tab5 spec_l9Group.bits5 (fun HT_ HW_ => ?_)
           generalize w45.drew = w46 at BK128 BK129 BK131 HB hHeld ⊢
           refine pu 0 19 ?_; refine tk 1 20 ?_
           refine on 2 (some 21) (fun K hK => ?_)
           refine ca Try.func68 (spec_l9Id.calls ((rd_T57 l1_3 x5_1).f0.f0) ((rd_T57 l1_3 x5_1).f0.f1) true _ A17.out) ?_
           rintro e w47 ⟨rfl, hb⟩
           refine ⟨_, rfl, ?_⟩
           replace BK128 := Aside0.mk (blk_below (g := gb128) (o := .cells #[.int .i64 a0_0, .int .i64 a0_1, .slice A0_2 l0_2.length c0_2, .slice A0_3 l0_3.length c0_3] 34 (0, 0)) (by (with_reducible repeat (first | refine blk_drewN ?_ _ | refine blk_drew ?_ | refine blk_alloc ?_ _)); exact BK128.out) hb)
           replace BK129 := Aside0.mk (blk_below (g := gb129) (o := .cells #[.string a1_0, .int .i64 a1_1, .int .i64 a1_2, .slice (some ad130) l1_3.length c1_3] 107 (0, 0)) (by (with_reducible repeat (first | refine blk_drewN ?_ _ | refine blk_drew ?_ | refine blk_alloc ?_ _)); exact BK129.out) hb)
           replace BK131 := Aside0.mk (blk_below (g := gb131) (o := .cells #[.int .i64 ((rd_T57 l1_3 x5_1).f0.f0), .int .i64 ((rd_T57 l1_3 x5_1).f0.f1), .string ((rd_T57 l1_3 x5_1).f1), .int .i64 ((rd_T57 l1_3 x5_1).f2), .int .i64 ((rd_T57 l1_3 x5_1).f3)] 57 (0, 0)) (by (with_reducible repeat (first | refine blk_drewN ?_ _ | refine blk_drew ?_ | refine blk_alloc ?_ _)); exact BK131.out) hb)
           replace HB := Aside0.mk (below_step (by repeat (first | (with_reducible first | exact HB.out | apply below_alloc | apply pw_below_drewN | apply below_drew1 | refine below_set ?_ GE128.out | refine below_set ?_ GE129.out | refine below_set ?_ GE131.out) | exact HB.out)) hb)
           (try clear hb)
           (try clear hb2)
           (try clear hk)
           (try clear hi)
           refine hK.out _ _ ⟨(blk_cell BK131.out 0).trans rfl, (blk_cell BK131.out 1).trans rfl, (blk_cell BK131.out 2).trans rfl, (blk_cell BK131.out 3).trans rfl, (blk_cell BK131.out 4).trans rfl, (blk_cell BK129.out 0).trans rfl, (blk_cell BK129.out 1).trans rfl, (blk_cell BK129.out 2).trans rfl, (blk_cell BK129.out 3).trans rfl⟩ (fun hHeld => ?_)
           clear hK K
           refine nm ?_; refine pu 3 22 ?_; refine pu 4 23 ?_; refine pu 5 24 ?_; refine pu 7 26 ?_; refine tk 6 25 ?_; refine tk 8 27 ?_
           refine on 9 (some 28) (fun K hK => ?_)
           refine ca Try.func69 (spec_IdLess.calls a1_1 a1_2 ((rd_T57 l1_3 x5_1).f0.f0) ((rd_T57 l1_3 x5_1).f0.f1) false _ A19.out) ?_
           rintro e w48 ⟨rfl, hb⟩
           refine ⟨_, rfl, ?_⟩
           replace BK128 := Aside0.mk (blk_below (g := gb128) (o := .cells #[.int .i64 a0_0, .int .i64 a0_1, .slice A0_2 l0_2.length c0_2, .slice A0_3 l0_3.length c0_3] 34 (0, 0)) (by (with_reducible repeat (first | refine blk_drewN ?_ _ | refine blk_drew ?_ | refine blk_alloc ?_ _)); exact BK128.out) hb)
           replace BK129 := Aside0.mk (blk_below (g := gb129) (o := .cells #[.string a1_0, .int .i64 a1_1, .int .i64 a1_2, .slice (some ad130) l1_3.length c1_3] 107 (0, 0)) (by (with_reducible repeat (first | refine blk_drewN ?_ _ | refine blk_drew ?_ | refine blk_alloc ?_ _)); exact BK129.out) hb)
           replace BK131 := Aside0.mk (blk_below (g := gb131) (o := .cells #[.int .i64 ((rd_T57 l1_3 x5_1).f0.f0), .int .i64 ((rd_T57 l1_3 x5_1).f0.f1), .string ((rd_T57 l1_3 x5_1).f1), .int .i64 ((rd_T57 l1_3 x5_1).f2), .int .i64 ((rd_T57 l1_3 x5_1).f3)] 57 (0, 0)) (by (with_reducible repeat (first | refine blk_drewN ?_ _ | refine blk_drew ?_ | refine blk_alloc ?_ _)); exact BK131.out) hb)
           replace HB := Aside0.mk (below_step (by repeat (first | (with_reducible first | exact HB.out | apply below_alloc | apply pw_below_drewN | apply below_drew1 | refine below_set ?_ GE128.out | refine below_set ?_ GE129.out | refine below_set ?_ GE131.out) | exact HB.out)) hb)
           (try clear hb)
           (try clear hb2)
           (try clear hk)
           (try clear hi)
           refine hK.out _ _ ⟨(blk_cell BK131.out 0).trans rfl, (blk_cell BK131.out 1).trans rfl, (blk_cell BK131.out 2).trans rfl, (blk_cell BK131.out 3).trans rfl, (blk_cell BK131.out 4).trans rfl, (blk_cell BK129.out 0).trans rfl, (blk_cell BK129.out 1).trans rfl, (blk_cell BK129.out 2).trans rfl, (blk_cell BK129.out 3).trans rfl⟩ (fun hHeld => ?_)
           clear hK K
           refine nm ?_; refine pu 10 29 ?_; refine pu 11 30 ?_; refine pu 12 31 ?_; refine tk 13 32 ?_
           refine on 14 (some 33) (fun K hK => ?_)
           refine ca Try.func104 (spec_l4Key.calls ((rd_T57 l1_3 x5_1).f1) true _ A25.out) ?_
           rintro e w' ⟨rfl, ⟨nd, rfl⟩⟩
           refine ⟨_, rfl, ?_⟩
           refine hK.out _ _ ⟨(blk_cell BK131.out 0).trans rfl, (blk_cell BK131.out 1).trans rfl, (blk_cell BK131.out 2).trans rfl, (blk_cell BK131.out 3).trans rfl, (blk_cell BK131.out 4).trans rfl, (blk_cell BK129.out 0).trans rfl, (blk_cell BK129.out 1).trans rfl, (blk_cell BK129.out 2).trans rfl, (blk_cell BK129.out 3).trans rfl⟩ (fun hHeld => ?_)
           clear hK K
           refine nm ?_; refine pu 15 34 ?_; refine pu 16 35 ?_; refine pu 17 36 ?_; refine pu 18 37 ?_; refine tk 19 38 ?_
           refine on 20 (some 39) (fun K hK => ?_)
           refine ca Try.func101 (spec_l1In.calls ((rd_T57 l1_3 x5_1).f2) 0 1000000 true _ A27.out) ?_
           rintro e w' ⟨rfl, ⟨nd, rfl⟩⟩
           refine ⟨_, rfl, ?_⟩
           refine hK.out _ _ ⟨(blk_cell BK131.out 0).trans rfl, (blk_cell BK131.out 1).trans rfl, (blk_cell BK131.out 2).trans rfl, (blk_cell BK131.out 3).trans rfl, (blk_cell BK131.out 4).trans rfl, (blk_cell BK129.out 0).trans rfl, (blk_cell BK129.out 1).trans rfl, (blk_cell BK129.out 2).trans rfl, (blk_cell BK129.out 3).trans rfl⟩ (fun hHeld => ?_)
           clear hK K
           refine nm ?_; refine pu 21 40 ?_; refine pu 22 41 ?_; refine pu 23 42 ?_; refine pu 24 43 ?_; refine tk 25 44 ?_
           refine on 26 (some 45) (fun K hK => ?_)
           refine ca Try.func101 (spec_l1In.calls ((rd_T57 l1_3 x5_1).f3) 1 1000000000 false _ A29.out) ?_
           rintro e w' ⟨rfl, ⟨nd, rfl⟩⟩
           refine ⟨_, rfl, ?_⟩
           refine hK.out _ _ ⟨(blk_cell BK131.out 0).trans rfl, (blk_cell BK131.out 1).trans rfl, (blk_cell BK131.out 2).trans rfl, (blk_cell BK131.out 3).trans rfl, (blk_cell BK131.out 4).trans rfl, (blk_cell BK129.out 0).trans rfl, (blk_cell BK129.out 1).trans rfl, (blk_cell BK129.out 2).trans rfl, (blk_cell BK129.out 3).trans rfl⟩ (fun hHeld => ?_)
           clear hK K
           refine nm ?_; refine pu 27 46 ?_; refine pu 28 47 ?_; refine pu 29 48 ?_; refine of 30 49 ?_; refine of 31 50 ?_; refine of 32 51 ?_; refine of 33 52 ?_; refine of 34 53 ?_; refine of 35 54 ?_; refine of 36 55 ?_; refine of 37 56 ?_; refine of 38 57 ?_; refine of 39 58 ?_; refine of 40 59 ?_; refine of 41 60 ?_; refine of 42 61 ?_; refine of 43 62 ?_; refine of 44 63 ?_; refine pu 45 64 ?_
           refine dn ?_
           try go_wp2
           go_meet
           case rel => exact ⟨_, (true), (by first | rfl | (simp; done) | (simp [*]; done)), H', ⟨by have := HK1.out; first | omega | exact Nat.le_refl _⟩, ⟨by (with_reducible repeat (first | refine blk_drewN ?_ _ | refine blk_drew ?_ | refine blk_alloc ?_ _)); exact BK128.out⟩, ⟨by (with_reducible repeat (first | refine blk_drewN ?_ _ | refine blk_drew ?_ | refine blk_alloc ?_ _)); exact BK129.out⟩, ⟨by (with_reducible repeat (first | refine blk_drewN ?_ _ | refine blk_drew ?_ | refine blk_alloc ?_ _)); exact BK131.out⟩, ⟨by repeat (first | (with_reducible first | exact HB.out | apply below_alloc | apply pw_below_drewN | apply below_drew1 | refine below_set ?_ GE128.out | refine below_set ?_ GE129.out | refine below_set ?_ GE131.out) | exact HB.out)⟩⟩
         ·replace c28 := Bool.eq_false_iff.mpr c28
          subst c28
          have H1 : (spec_l9Group.j1 k1 x5_1 true a0_0 a0_1 l0_2 l0_3 a1_0 a1_1 a1_2 l1_3) = some r := by rw [if_neg (show ¬ (false = true) by decide)] at H; exact H
          clear H
          have H := H1
          clear H1
          have H' := Aside0.mk H
          clear H
          try go_wp2
          have n0_ : Aside0 ((((((w13.setCell ⟨gb131, 0, none⟩ (.int .i64 ((rd_T57 l1_3 x5_1).f0.f0))).setCell ⟨gb131, 1, none⟩ (.int .i64 ((rd_T57 l1_3 x5_1).f0.f1))).setCell ⟨gb131, 2, none⟩ (.string ((rd_T57 l1_3 x5_1).f1))).setCell ⟨gb131, 3, none⟩ (.int .i64 ((rd_T57 l1_3 x5_1).f2))).setCell ⟨gb131, 4, none⟩ (.int .i64 ((rd_T57 l1_3 x5_1).f3))).heap[gb128]? = some (.cells #[.int .i64 a0_0, .int .i64 a0_1, .slice A0_2 l0_2.length c0_2, .slice A0_3 l0_3.length c0_3] 34 (0, 0))) := ⟨by (with_reducible repeat (first | refine blk_drewN ?_ _ | refine blk_drew ?_ | refine blk_alloc ?_ _)); refine blk_far ?_ NB128_131.out _; (with_reducible repeat (first | refine blk_drewN ?_ _ | refine blk_drew ?_ | refine blk_alloc ?_ _)); refine blk_far ?_ NB128_131.out _; (with_reducible repeat (first | refine blk_drewN ?_ _ | refine blk_drew ?_ | refine blk_alloc ?_ _)); refine blk_far ?_ NB128_131.out _; (with_reducible repeat (first | refine blk_drewN ?_ _ | refine blk_drew ?_ | refine blk_alloc ?_ _)); refine blk_far ?_ NB128_131.out _; (with_reducible repeat (first | refine blk_drewN ?_ _ | refine blk_drew ?_ | refine blk_alloc ?_ _)); refine blk_far ?_ NB128_131.out _; (with_reducible repeat (first | refine blk_drewN ?_ _ | refine blk_drew ?_ | refine blk_alloc ?_ _)); exact BK128.out⟩
          have n1_ : Aside0 ((((((w13.setCell ⟨gb131, 0, none⟩ (.int .i64 ((rd_T57 l1_3 x5_1).f0.f0))).setCell ⟨gb131, 1, none⟩ (.int .i64 ((rd_T57 l1_3 x5_1).f0.f1))).setCell ⟨gb131, 2, none⟩ (.string ((rd_T57 l1_3 x5_1).f1))).setCell ⟨gb131, 3, none⟩ (.int .i64 ((rd_T57 l1_3 x5_1).f2))).setCell ⟨gb131, 4, none⟩ (.int .i64 ((rd_T57 l1_3 x5_1).f3))).heap[gb129]? = some (.cells #[.string a1_0, .int .i64 a1_1, .int .i64 a1_2, .slice (some ad130) l1_3.length c1_3] 107 (0, 0))) := ⟨by (with_reducible repeat (first | refine blk_drewN ?_ _ | refine blk_drew ?_ | refine blk_alloc ?_ _)); refine blk_far ?_ NB129_131.out _; (with_reducible repeat (first | refine blk_drewN ?_ _ | refine blk_drew ?_ | refine blk_alloc ?_ _)); refine blk_far ?_ NB129_131.out _; (with_reducible repeat (first | refine blk_drewN ?_ _ | refine blk_drew ?_ | refine blk_alloc ?_ _)); refine blk_far ?_ NB129_131.out _; (with_reducible repeat (first | refine blk_drewN ?_ _ | refine blk_drew ?_ | refine blk_alloc ?_ _)); refine blk_far ?_ NB129_131.out _; (with_reducible repeat (first | refine blk_drewN ?_ _ | refine blk_drew ?_ | refine blk_alloc ?_ _)); refine blk_far ?_ NB129_131.out _; (with_reducible repeat (first | refine blk_drewN ?_ _ | refine blk_drew ?_ | refine blk_alloc ?_ _)); exact BK129.out⟩
          have n2_ : Aside0 ((((((w13.setCell ⟨gb131, 0, none⟩ (.int .i64 ((rd_T57 l1_3 x5_1).f0.f0))).setCell ⟨gb131, 1, none⟩ (.int .i64 ((rd_T57 l1_3 x5_1).f0.f1))).setCell ⟨gb131, 2, none⟩ (.string ((rd_T57 l1_3 x5_1).f1))).setCell ⟨gb131, 3, none⟩ (.int .i64 ((rd_T57 l1_3 x5_1).f2))).setCell ⟨gb131, 4, none⟩ (.int .i64 ((rd_T57 l1_3 x5_1).f3))).heap[gb131]? = some (.cells #[.int .i64 ((rd_T57 l1_3 x5_1).f0.f0), .int .i64 ((rd_T57 l1_3 x5_1).f0.f1), .string ((rd_T57 l1_3 x5_1).f1), .int .i64 ((rd_T57 l1_3 x5_1).f2), .int .i64 ((rd_T57 l1_3 x5_1).f3)] 57 (0, 0))) := ⟨by (with_reducible repeat (first | refine blk_drewN ?_ _ | refine blk_drew ?_ | refine blk_alloc ?_ _)); refine blk_put (cs := #[.int .i64 ((rd_T57 l1_3 x5_1).f0.f0), .int .i64 ((rd_T57 l1_3 x5_1).f0.f1), .string ((rd_T57 l1_3 x5_1).f1), .int .i64 ((rd_T57 l1_3 x5_1).f2), .int .i64 0]) ?_ 4 _ rfl; (with_reducible repeat (first | refine blk_drewN ?_ _ | refine blk_drew ?_ | refine blk_alloc ?_ _)); refine blk_put (cs := #[.int .i64 ((rd_T57 l1_3 x5_1).f0.f0), .int .i64 ((rd_T57 l1_3 x5_1).f0.f1), .string ((rd_T57 l1_3 x5_1).f1), .int .i64 0, .int .i64 0]) ?_ 3 _ rfl; (with_reducible repeat (first | refine blk_drewN ?_ _ | refine blk_drew ?_ | refine blk_alloc ?_ _)); refine blk_put (cs := #[.int .i64 ((rd_T57 l1_3 x5_1).f0.f0), .int .i64 ((rd_T57 l1_3 x5_1).f0.f1), .string (⟨#[]⟩ : ByteArray), .int .i64 0, .int .i64 0]) ?_ 2 _ rfl; (with_reducible repeat (first | refine blk_drewN ?_ _ | refine blk_drew ?_ | refine blk_alloc ?_ _)); refine blk_put (cs := #[.int .i64 ((rd_T57 l1_3 x5_1).f0.f0), .int .i64 0, .string (⟨#[]⟩ : ByteArray), .int .i64 0, .int .i64 0]) ?_ 1 _ rfl; (with_reducible repeat (first | refine blk_drewN ?_ _ | refine blk_drew ?_ | refine blk_alloc ?_ _)); refine blk_put (cs := #[.int .i64 0, .int .i64 0, .string (⟨#[]⟩ : ByteArray), .int .i64 0, .int .i64 0]) ?_ 0 _ rfl; (with_reducible repeat (first | refine blk_drewN ?_ _ | refine blk_drew ?_ | refine blk_alloc ?_ _)); exact BK131.out⟩
          have n3_ : Aside0 (Below w.heap.size w (((((w13.setCell ⟨gb131, 0, none⟩ (.int .i64 ((rd_T57 l1_3 x5_1).f0.f0))).setCell ⟨gb131, 1, none⟩ (.int .i64 ((rd_T57 l1_3 x5_1).f0.f1))).setCell ⟨gb131, 2, none⟩ (.string ((rd_T57 l1_3 x5_1).f1))).setCell ⟨gb131, 3, none⟩ (.int .i64 ((rd_T57 l1_3 x5_1).f2))).setCell ⟨gb131, 4, none⟩ (.int .i64 ((rd_T57 l1_3 x5_1).f3)))) := ⟨by repeat (first | (with_reducible first | exact HB.out | apply below_alloc | apply pw_below_drewN | apply below_drew1 | refine below_set ?_ GE128.out | refine below_set ?_ GE129.out | refine below_set ?_ GE131.out) | exact HB.out)⟩
          (try clear BK128)
          (try clear BK129)
          (try clear BK131)
          (try clear HB)
          generalize (((((w13.setCell ⟨gb131, 0, none⟩ (.int .i64 ((rd_T57 l1_3 x5_1).f0.f0))).setCell ⟨gb131, 1, none⟩ (.int .i64 ((rd_T57 l1_3 x5_1).f0.f1))).setCell ⟨gb131, 2, none⟩ (.string ((rd_T57 l1_3 x5_1).f1))).setCell ⟨gb131, 3, none⟩ (.int .i64 ((rd_T57 l1_3 x5_1).f2))).setCell ⟨gb131, 4, none⟩ (.int .i64 ((rd_T57 l1_3 x5_1).f3))) = w49 at n0_ n1_ n2_ n3_ ⊢
          have BK128 := n0_
          have BK129 := n1_
          have BK131 := n2_
          have HB := n3_
          clear n0_ n1_ n2_ n3_
          replace BK128 := Aside0.mk (blk_drew BK128.out)
          replace BK129 := Aside0.mk (blk_drew BK129.out)
          replace BK131 := Aside0.mk (blk_drew BK131.out)
          replace HB := Aside0.mk (below_drew1 HB.out)
          refine start_ (n := 46) (S := fun w' => w'.cell? ⟨gb131, 0, none⟩ = some (.int .i64 ((rd_T57 l1_3 x5_1).f0.f0)) ∧ w'.cell? ⟨gb131, 1, none⟩ = some (.int .i64 ((rd_T57 l1_3 x5_1).f0.f1)) ∧ w'.cell? ⟨gb131, 2, none⟩ = some (.string ((rd_T57 l1_3 x5_1).f1)) ∧ w'.cell? ⟨gb131, 3, none⟩ = some (.int .i64 ((rd_T57 l1_3 x5_1).f2)) ∧ w'.cell? ⟨gb131, 4, none⟩ = some (.int .i64 ((rd_T57 l1_3 x5_1).f3)) ∧ w'.cell? ⟨gb129, 0, none⟩ = some (.string a1_0) ∧ w'.cell? ⟨gb129, 1, none⟩ = some (.int .i64 a1_1) ∧ w'.cell? ⟨gb129, 2, none⟩ = some (.int .i64 a1_2) ∧ w'.cell? ⟨gb129, 3, none⟩ = some (.slice (some ad130) l1_3.length c1_3)) (ds := []) _ (by kernel_rfl) rfl rfl ⟨(blk_cell BK131.out 0).trans rfl, (blk_cell BK131.out 1).trans rfl, (blk_cell BK131.out 2).trans rfl, (blk_cell BK131.out 3).trans rfl, (blk_cell BK131.out 4).trans rfl, (blk_cell BK129.out 0).trans rfl, (blk_cell BK129.out 1).trans rfl, (blk_cell BK129.out 2).trans rfl, (blk_cell BK129.out 3).trans rfl⟩ (fun hHeld => ?_); refine with_tabW spec_l9Group.tab5 spec_l9Group.bits5 (fun HT_ HW_ => ?_)
          generalize w49.drew = w50 at BK128 BK129 BK131 HB hHeld ⊢
          refine pu 0 19 ?_; refine tk 1 20 ?_
          refine on 2 (some 21) (fun K hK => ?_)
          refine ca Try.func68 (spec_l9Id.calls ((rd_T57 l1_3 x5_1).f0.f0) ((rd_T57 l1_3 x5_1).f0.f1) true _ A17.out) ?_
          rintro e w51 ⟨rfl, hb⟩
          refine ⟨_, rfl, ?_⟩
          replace BK128 := Aside0.mk (blk_below (g := gb128) (o := .cells #[.int .i64 a0_0, .int .i64 a0_1, .slice A0_2 l0_2.length c0_2, .slice A0_3 l0_3.length c0_3] 34 (0, 0)) (by (with_reducible repeat (first | refine blk_drewN ?_ _ | refine blk_drew ?_ | refine blk_alloc ?_ _)); exact BK128.out) hb)
          replace BK129 := Aside0.mk (blk_below (g := gb129) (o := .cells #[.string a1_0, .int .i64 a1_1, .int .i64 a1_2, .slice (some ad130) l1_3.length c1_3] 107 (0, 0)) (by (with_reducible repeat (first | refine blk_drewN ?_ _ | refine blk_drew ?_ | refine blk_alloc ?_ _)); exact BK129.out) hb)
          replace BK131 := Aside0.mk (blk_below (g := gb131) (o := .cells #[.int .i64 ((rd_T57 l1_3 x5_1).f0.f0), .int .i64 ((rd_T57 l1_3 x5_1).f0.f1), .string ((rd_T57 l1_3 x5_1).f1), .int .i64 ((rd_T57 l1_3 x5_1).f2), .int .i64 ((rd_T57 l1_3 x5_1).f3)] 57 (0, 0)) (by (with_reducible repeat (first | refine blk_drewN ?_ _ | refine blk_drew ?_ | refine blk_alloc ?_ _)); exact BK131.out) hb)
          replace HB := Aside0.mk (below_step (by repeat (first | (with_reducible first | exact HB.out | apply below_alloc | apply pw_below_drewN | apply below_drew1 | refine below_set ?_ GE128.out | refine below_set ?_ GE129.out | refine below_set ?_ GE131.out) | exact HB.out)) hb)
          (try clear hb)
          (try clear hb2)
          (try clear hk)
          (try clear hi)
          refine hK.out _ _ ⟨(blk_cell BK131.out 0).trans rfl, (blk_cell BK131.out 1).trans rfl, (blk_cell BK131.out 2).trans rfl, (blk_cell BK131.out 3).trans rfl, (blk_cell BK131.out 4).trans rfl, (blk_cell BK129.out 0).trans rfl, (blk_cell BK129.out 1).trans rfl, (blk_cell BK129.out 2).trans rfl, (blk_cell BK129.out 3).trans rfl⟩ (fun hHeld => ?_)
          clear hK K
          refine nm ?_; refine pu 3 22 ?_; refine pu 4 23 ?_; refine pu 5 24 ?_; refine pu 7 26 ?_; refine tk 6 25 ?_; refine tk 8 27 ?_
          refine on 9 (some 28) (fun K hK => ?_)
          refine ca Try.func69 (spec_IdLess.calls a1_1 a1_2 ((rd_T57 l1_3 x5_1).f0.f0) ((rd_T57 l1_3 x5_1).f0.f1) false _ A19.out) ?_
          rintro e w52 ⟨rfl, hb⟩
          refine ⟨_, rfl, ?_⟩
          replace BK128 := Aside0.mk (blk_below (g := gb128) (o := .cells #[.int .i64 a0_0, .int .i64 a0_1, .slice A0_2 l0_2.length c0_2, .slice A0_3 l0_3.length c0_3] 34 (0, 0)) (by (with_reducible repeat (first | refine blk_drewN ?_ _ | refine blk_drew ?_ | refine blk_alloc ?_ _)); exact BK128.out) hb)
          replace BK129 := Aside0.mk (blk_below (g := gb129) (o := .cells #[.string a1_0, .int .i64 a1_1, .int .i64 a1_2, .slice (some ad130) l1_3.length c1_3] 107 (0, 0)) (by (with_reducible repeat (first | refine blk_drewN ?_ _ | refine blk_drew ?_ | refine blk_alloc ?_ _)); exact BK129.out) hb)
          replace BK131 := Aside0.mk (blk_below (g := gb131) (o := .cells #[.int .i64 ((rd_T57 l1_3 x5_1).f0.f0), .int .i64 ((rd_T57 l1_3 x5_1).f0.f1), .string ((rd_T57 l1_3 x5_1).f1), .int .i64 ((rd_T57 l1_3 x5_1).f2), .int .i64 ((rd_T57 l1_3 x5_1).f3)] 57 (0, 0)) (by (with_reducible repeat (first | refine blk_drewN ?_ _ | refine blk_drew ?_ | refine blk_alloc ?_ _)); exact BK131.out) hb)
          replace HB := Aside0.mk (below_step (by repeat (first | (with_reducible first | exact HB.out | apply below_alloc | apply pw_below_drewN | apply below_drew1 | refine below_set ?_ GE128.out | refine below_set ?_ GE129.out | refine below_set ?_ GE131.out) | exact HB.out)) hb)
          (try clear hb)
          (try clear hb2)
          (try clear hk)
          (try clear hi)
          refine hK.out _ _ ⟨(blk_cell BK131.out 0).trans rfl, (blk_cell BK131.out 1).trans rfl, (blk_cell BK131.out 2).trans rfl, (blk_cell BK131.out 3).trans rfl, (blk_cell BK131.out 4).trans rfl, (blk_cell BK129.out 0).trans rfl, (blk_cell BK129.out 1).trans rfl, (blk_cell BK129.out 2).trans rfl, (blk_cell BK129.out 3).trans rfl⟩ (fun hHeld => ?_)
          clear hK K
          refine nm ?_; refine pu 10 29 ?_; refine pu 11 30 ?_; refine pu 12 31 ?_; refine tk 13 32 ?_
          refine on 14 (some 33) (fun K hK => ?_)
          refine ca Try.func104 (spec_l4Key.calls ((rd_T57 l1_3 x5_1).f1) true _ A25.out) ?_
          rintro e w' ⟨rfl, ⟨nd, rfl⟩⟩
          refine ⟨_, rfl, ?_⟩
          refine hK.out _ _ ⟨(blk_cell BK131.out 0).trans rfl, (blk_cell BK131.out 1).trans rfl, (blk_cell BK131.out 2).trans rfl, (blk_cell BK131.out 3).trans rfl, (blk_cell BK131.out 4).trans rfl, (blk_cell BK129.out 0).trans rfl, (blk_cell BK129.out 1).trans rfl, (blk_cell BK129.out 2).trans rfl, (blk_cell BK129.out 3).trans rfl⟩ (fun hHeld => ?_)
          clear hK K
          refine nm ?_; refine pu 15 34 ?_; refine pu 16 35 ?_; refine pu 17 36 ?_; refine pu 18 37 ?_; refine tk 19 38 ?_
          refine on 20 (some 39) (fun K hK => ?_)
          refine ca Try.func101 (spec_l1In.calls ((rd_T57 l1_3 x5_1).f2) 0 1000000 false _ A27.out) ?_
          rintro e w' ⟨rfl, ⟨nd, rfl⟩⟩
          refine ⟨_, rfl, ?_⟩
          refine hK.out _ _ ⟨(blk_cell BK131.out 0).trans rfl, (blk_cell BK131.out 1).trans rfl, (blk_cell BK131.out 2).trans rfl, (blk_cell BK131.out 3).trans rfl, (blk_cell BK131.out 4).trans rfl, (blk_cell BK129.out 0).trans rfl, (blk_cell BK129.out 1).trans rfl, (blk_cell BK129.out 2).trans rfl, (blk_cell BK129.out 3).trans rfl⟩ (fun hHeld => ?_)
          clear hK K
          refine nm ?_; refine pu 21 40 ?_; refine pu 22 41 ?_; refine pu 23 42 ?_; refine of 24 43 ?_; refine of 25 44 ?_; refine of 26 45 ?_; refine of 27 46 ?_; refine pu 28 47 ?_; refine pu 29 48 ?_; refine of 30 49 ?_; refine of 31 50 ?_; refine of 32 51 ?_; refine of 33 52 ?_; refine of 34 53 ?_; refine of 35 54 ?_; refine of 36 55 ?_; refine of 37 56 ?_; refine of 38 57 ?_; refine of 39 58 ?_; refine of 40 59 ?_; refine of 41 60 ?_; refine of 42 61 ?_; refine of 43 62 ?_; refine of 44 63 ?_; refine pu 45 64 ?_
          refine dn ?_
          try go_wp2
          go_meet
          case rel => exact ⟨_, (true), (by first | rfl | (simp; done) | (simp [*]; done)), H', ⟨by have := HK1.out; first | omega | exact Nat.le_refl _⟩, ⟨by (with_reducible repeat (first | refine blk_drewN ?_ _ | refine blk_drew ?_ | refine blk_alloc ?_ _)); exact BK128.out⟩, ⟨by (with_reducible repeat (first | refine blk_drewN ?_ _ | refine blk_drew ?_ | refine blk_alloc ?_ _)); exact BK129.out⟩, ⟨by (with_reducible repeat (first | refine blk_drewN ?_ _ | refine blk_drew ?_ | refine blk_alloc ?_ _)); exact BK131.out⟩, ⟨by repeat (first | (with_reducible first | exact HB.out | apply below_alloc | apply pw_below_drewN | apply below_drew1 | refine below_set ?_ GE128.out | refine below_set ?_ GE129.out | refine below_set ?_ GE131.out) | exact HB.out)⟩⟩
        ·replace c26 := Bool.eq_false_iff.mpr c26
         subst c26
         have H1 : (spec_l9Group.j1 k1 x5_1 true a0_0 a0_1 l0_2 l0_3 a1_0 a1_1 a1_2 l1_3) = some r := by rw [if_neg (show ¬ (false = true) by decide)] at H; exact H
         clear H
         have H := H1
         clear H1
         have H' := Aside0.mk H
         clear H
         try go_wp2
         have n0_ : Aside0 ((((((w13.setCell ⟨gb131, 0, none⟩ (.int .i64 ((rd_T57 l1_3 x5_1).f0.f0))).setCell ⟨gb131, 1, none⟩ (.int .i64 ((rd_T57 l1_3 x5_1).f0.f1))).setCell ⟨gb131, 2, none⟩ (.string ((rd_T57 l1_3 x5_1).f1))).setCell ⟨gb131, 3, none⟩ (.int .i64 ((rd_T57 l1_3 x5_1).f2))).setCell ⟨gb131, 4, none⟩ (.int .i64 ((rd_T57 l1_3 x5_1).f3))).heap[gb128]? = some (.cells #[.int .i64 a0_0, .int .i64 a0_1, .slice A0_2 l0_2.length c0_2, .slice A0_3 l0_3.length c0_3] 34 (0, 0))) := ⟨by (with_reducible repeat (first | refine blk_drewN ?_ _ | refine blk_drew ?_ | refine blk_alloc ?_ _)); refine blk_far ?_ NB128_131.out _; (with_reducible repeat (first | refine blk_drewN ?_ _ | refine blk_drew ?_ | refine blk_alloc ?_ _)); refine blk_far ?_ NB128_131.out _; (with_reducible repeat (first | refine blk_drewN ?_ _ | refine blk_drew ?_ | refine blk_alloc ?_ _)); refine blk_far ?_ NB128_131.out _; (with_reducible repeat (first | refine blk_drewN ?_ _ | refine blk_drew ?_ | refine blk_alloc ?_ _)); refine blk_far ?_ NB128_131.out _; (with_reducible repeat (first | refine blk_drewN ?_ _ | refine blk_drew ?_ | refine blk_alloc ?_ _)); refine blk_far ?_ NB128_131.out _; (with_reducible repeat (first | refine blk_drewN ?_ _ | refine blk_drew ?_ | refine blk_alloc ?_ _)); exact BK128.out⟩
         have n1_ : Aside0 ((((((w13.setCell ⟨gb131, 0, none⟩ (.int .i64 ((rd_T57 l1_3 x5_1).f0.f0))).setCell ⟨gb131, 1, none⟩ (.int .i64 ((rd_T57 l1_3 x5_1).f0.f1))).setCell ⟨gb131, 2, none⟩ (.string ((rd_T57 l1_3 x5_1).f1))).setCell ⟨gb131, 3, none⟩ (.int .i64 ((rd_T57 l1_3 x5_1).f2))).setCell ⟨gb131, 4, none⟩ (.int .i64 ((rd_T57 l1_3 x5_1).f3))).heap[gb129]? = some (.cells #[.string a1_0, .int .i64 a1_1, .int .i64 a1_2, .slice (some ad130) l1_3.length c1_3] 107 (0, 0))) := ⟨by (with_reducible repeat (first | refine blk_drewN ?_ _ | refine blk_drew ?_ | refine blk_alloc ?_ _)); refine blk_far ?_ NB129_131.out _; (with_reducible repeat (first | refine blk_drewN ?_ _ | refine blk_drew ?_ | refine blk_alloc ?_ _)); refine blk_far ?_ NB129_131.out _; (with_reducible repeat (first | refine blk_drewN ?_ _ | refine blk_drew ?_ | refine blk_alloc ?_ _)); refine blk_far ?_ NB129_131.out _; (with_reducible repeat (first | refine blk_drewN ?_ _ | refine blk_drew ?_ | refine blk_alloc ?_ _)); refine blk_far ?_ NB129_131.out _; (with_reducible repeat (first | refine blk_drewN ?_ _ | refine blk_drew ?_ | refine blk_alloc ?_ _)); refine blk_far ?_ NB129_131.out _; (with_reducible repeat (first | refine blk_drewN ?_ _ | refine blk_drew ?_ | refine blk_alloc ?_ _)); exact BK129.out⟩
         have n2_ : Aside0 ((((((w13.setCell ⟨gb131, 0, none⟩ (.int .i64 ((rd_T57 l1_3 x5_1).f0.f0))).setCell ⟨gb131, 1, none⟩ (.int .i64 ((rd_T57 l1_3 x5_1).f0.f1))).setCell ⟨gb131, 2, none⟩ (.string ((rd_T57 l1_3 x5_1).f1))).setCell ⟨gb131, 3, none⟩ (.int .i64 ((rd_T57 l1_3 x5_1).f2))).setCell ⟨gb131, 4, none⟩ (.int .i64 ((rd_T57 l1_3 x5_1).f3))).heap[gb131]? = some (.cells #[.int .i64 ((rd_T57 l1_3 x5_1).f0.f0), .int .i64 ((rd_T57 l1_3 x5_1).f0.f1), .string ((rd_T57 l1_3 x5_1).f1), .int .i64 ((rd_T57 l1_3 x5_1).f2), .int .i64 ((rd_T57 l1_3 x5_1).f3)] 57 (0, 0))) := ⟨by (with_reducible repeat (first | refine blk_drewN ?_ _ | refine blk_drew ?_ | refine blk_alloc ?_ _)); refine blk_put (cs := #[.int .i64 ((rd_T57 l1_3 x5_1).f0.f0), .int .i64 ((rd_T57 l1_3 x5_1).f0.f1), .string ((rd_T57 l1_3 x5_1).f1), .int .i64 ((rd_T57 l1_3 x5_1).f2), .int .i64 0]) ?_ 4 _ rfl; (with_reducible repeat (first | refine blk_drewN ?_ _ | refine blk_drew ?_ | refine blk_alloc ?_ _)); refine blk_put (cs := #[.int .i64 ((rd_T57 l1_3 x5_1).f0.f0), .int .i64 ((rd_T57 l1_3 x5_1).f0.f1), .string ((rd_T57 l1_3 x5_1).f1), .int .i64 0, .int .i64 0]) ?_ 3 _ rfl; (with_reducible repeat (first | refine blk_drewN ?_ _ | refine blk_drew ?_ | refine blk_alloc ?_ _)); refine blk_put (cs := #[.int .i64 ((rd_T57 l1_3 x5_1).f0.f0), .int .i64 ((rd_T57 l1_3 x5_1).f0.f1), .string (⟨#[]⟩ : ByteArray), .int .i64 0, .int .i64 0]) ?_ 2 _ rfl; (with_reducible repeat (first | refine blk_drewN ?_ _ | refine blk_drew ?_ | refine blk_alloc ?_ _)); refine blk_put (cs := #[.int .i64 ((rd_T57 l1_3 x5_1).f0.f0), .int .i64 0, .string (⟨#[]⟩ : ByteArray), .int .i64 0, .int .i64 0]) ?_ 1 _ rfl; (with_reducible repeat (first | refine blk_drewN ?_ _ | refine blk_drew ?_ | refine blk_alloc ?_ _)); refine blk_put (cs := #[.int .i64 0, .int .i64 0, .string (⟨#[]⟩ : ByteArray), .int .i64 0, .int .i64 0]) ?_ 0 _ rfl; (with_reducible repeat (first | refine blk_drewN ?_ _ | refine blk_drew ?_ | refine blk_alloc ?_ _)); exact BK131.out⟩
         have n3_ : Aside0 (Below w.heap.size w (((((w13.setCell ⟨gb131, 0, none⟩ (.int .i64 ((rd_T57 l1_3 x5_1).f0.f0))).setCell ⟨gb131, 1, none⟩ (.int .i64 ((rd_T57 l1_3 x5_1).f0.f1))).setCell ⟨gb131, 2, none⟩ (.string ((rd_T57 l1_3 x5_1).f1))).setCell ⟨gb131, 3, none⟩ (.int .i64 ((rd_T57 l1_3 x5_1).f2))).setCell ⟨gb131, 4, none⟩ (.int .i64 ((rd_T57 l1_3 x5_1).f3)))) := ⟨by repeat (first | (with_reducible first | exact HB.out | apply below_alloc | apply pw_below_drewN | apply below_drew1 | refine below_set ?_ GE128.out | refine below_set ?_ GE129.out | refine below_set ?_ GE131.out) | exact HB.out)⟩
         (try clear BK128)
         (try clear BK129)
         (try clear BK131)
         (try clear HB)
         generalize (((((w13.setCell ⟨gb131, 0, none⟩ (.int .i64 ((rd_T57 l1_3 x5_1).f0.f0))).setCell ⟨gb131, 1, none⟩ (.int .i64 ((rd_T57 l1_3 x5_1).f0.f1))).setCell ⟨gb131, 2, none⟩ (.string ((rd_T57 l1_3 x5_1).f1))).setCell ⟨gb131, 3, none⟩ (.int .i64 ((rd_T57 l1_3 x5_1).f2))).setCell ⟨gb131, 4, none⟩ (.int .i64 ((rd_T57 l1_3 x5_1).f3))) = w53 at n0_ n1_ n2_ n3_ ⊢
         have BK128 := n0_
         have BK129 := n1_
         have BK131 := n2_
         have HB := n3_
         clear n0_ n1_ n2_ n3_
         replace BK128 := Aside0.mk (blk_drew BK128.out)
         replace BK129 := Aside0.mk (blk_drew BK129.out)
         replace BK131 := Aside0.mk (blk_drew BK131.out)
         replace HB := Aside0.mk (below_drew1 HB.out)
         refine start_ (n := 46) (S := fun w' => w'.cell? ⟨gb131, 0, none⟩ = some (.int .i64 ((rd_T57 l1_3 x5_1).f0.f0)) ∧ w'.cell? ⟨gb131, 1, none⟩ = some (.int .i64 ((rd_T57 l1_3 x5_1).f0.f1)) ∧ w'.cell? ⟨gb131, 2, none⟩ = some (.string ((rd_T57 l1_3 x5_1).f1)) ∧ w'.cell? ⟨gb131, 3, none⟩ = some (.int .i64 ((rd_T57 l1_3 x5_1).f2)) ∧ w'.cell? ⟨gb131, 4, none⟩ = some (.int .i64 ((rd_T57 l1_3 x5_1).f3)) ∧ w'.cell? ⟨gb129, 0, none⟩ = some (.string a1_0) ∧ w'.cell? ⟨gb129, 1, none⟩ = some (.int .i64 a1_1) ∧ w'.cell? ⟨gb129, 2, none⟩ = some (.int .i64 a1_2) ∧ w'.cell? ⟨gb129, 3, none⟩ = some (.slice (some ad130) l1_3.length c1_3)) (ds := []) _ (by kernel_rfl) rfl rfl ⟨(blk_cell BK131.out 0).trans rfl, (blk_cell BK131.out 1).trans rfl, (blk_cell BK131.out 2).trans rfl, (blk_cell BK131.out 3).trans rfl, (blk_cell BK131.out 4).trans rfl, (blk_cell BK129.out 0).trans rfl, (blk_cell BK129.out 1).trans rfl, (blk_cell BK129.out 2).trans rfl, (blk_cell BK129.out 3).trans rfl⟩ (fun hHeld => ?_); refine with_tabW spec_l9Group.tab5 spec_l9Group.bits5 (fun HT_ HW_ => ?_)
         generalize w53.drew = w54 at BK128 BK129 BK131 HB hHeld ⊢
         refine pu 0 19 ?_; refine tk 1 20 ?_
         refine on 2 (some 21) (fun K hK => ?_)
         refine ca Try.func68 (spec_l9Id.calls ((rd_T57 l1_3 x5_1).f0.f0) ((rd_T57 l1_3 x5_1).f0.f1) true _ A17.out) ?_
         rintro e w55 ⟨rfl, hb⟩
         refine ⟨_, rfl, ?_⟩
         replace BK128 := Aside0.mk (blk_below (g := gb128) (o := .cells #[.int .i64 a0_0, .int .i64 a0_1, .slice A0_2 l0_2.length c0_2, .slice A0_3 l0_3.length c0_3] 34 (0, 0)) (by (with_reducible repeat (first | refine blk_drewN ?_ _ | refine blk_drew ?_ | refine blk_alloc ?_ _)); exact BK128.out) hb)
         replace BK129 := Aside0.mk (blk_below (g := gb129) (o := .cells #[.string a1_0, .int .i64 a1_1, .int .i64 a1_2, .slice (some ad130) l1_3.length c1_3] 107 (0, 0)) (by (with_reducible repeat (first | refine blk_drewN ?_ _ | refine blk_drew ?_ | refine blk_alloc ?_ _)); exact BK129.out) hb)
         replace BK131 := Aside0.mk (blk_below (g := gb131) (o := .cells #[.int .i64 ((rd_T57 l1_3 x5_1).f0.f0), .int .i64 ((rd_T57 l1_3 x5_1).f0.f1), .string ((rd_T57 l1_3 x5_1).f1), .int .i64 ((rd_T57 l1_3 x5_1).f2), .int .i64 ((rd_T57 l1_3 x5_1).f3)] 57 (0, 0)) (by (with_reducible repeat (first | refine blk_drewN ?_ _ | refine blk_drew ?_ | refine blk_alloc ?_ _)); exact BK131.out) hb)
         replace HB := Aside0.mk (below_step (by repeat (first | (with_reducible first | exact HB.out | apply below_alloc | apply pw_below_drewN | apply below_drew1 | refine below_set ?_ GE128.out | refine below_set ?_ GE129.out | refine below_set ?_ GE131.out) | exact HB.out)) hb)
         (try clear hb)
         (try clear hb2)
         (try clear hk)
         (try clear hi)
         refine hK.out _ _ ⟨(blk_cell BK131.out 0).trans rfl, (blk_cell BK131.out 1).trans rfl, (blk_cell BK131.out 2).trans rfl, (blk_cell BK131.out 3).trans rfl, (blk_cell BK131.out 4).trans rfl, (blk_cell BK129.out 0).trans rfl, (blk_cell BK129.out 1).trans rfl, (blk_cell BK129.out 2).trans rfl, (blk_cell BK129.out 3).trans rfl⟩ (fun hHeld => ?_)
         clear hK K
         refine nm ?_; refine pu 3 22 ?_; refine pu 4 23 ?_; refine pu 5 24 ?_; refine pu 7 26 ?_; refine tk 6 25 ?_; refine tk 8 27 ?_
         refine on 9 (some 28) (fun K hK => ?_)
         refine ca Try.func69 (spec_IdLess.calls a1_1 a1_2 ((rd_T57 l1_3 x5_1).f0.f0) ((rd_T57 l1_3 x5_1).f0.f1) false _ A19.out) ?_
         rintro e w56 ⟨rfl, hb⟩
         refine ⟨_, rfl, ?_⟩
         replace BK128 := Aside0.mk (blk_below (g := gb128) (o := .cells #[.int .i64 a0_0, .int .i64 a0_1, .slice A0_2 l0_2.length c0_2, .slice A0_3 l0_3.length c0_3] 34 (0, 0)) (by (with_reducible repeat (first | refine blk_drewN ?_ _ | refine blk_drew ?_ | refine blk_alloc ?_ _)); exact BK128.out) hb)
         replace BK129 := Aside0.mk (blk_below (g := gb129) (o := .cells #[.string a1_0, .int .i64 a1_1, .int .i64 a1_2, .slice (some ad130) l1_3.length c1_3] 107 (0, 0)) (by (with_reducible repeat (first | refine blk_drewN ?_ _ | refine blk_drew ?_ | refine blk_alloc ?_ _)); exact BK129.out) hb)
         replace BK131 := Aside0.mk (blk_below (g := gb131) (o := .cells #[.int .i64 ((rd_T57 l1_3 x5_1).f0.f0), .int .i64 ((rd_T57 l1_3 x5_1).f0.f1), .string ((rd_T57 l1_3 x5_1).f1), .int .i64 ((rd_T57 l1_3 x5_1).f2), .int .i64 ((rd_T57 l1_3 x5_1).f3)] 57 (0, 0)) (by (with_reducible repeat (first | refine blk_drewN ?_ _ | refine blk_drew ?_ | refine blk_alloc ?_ _)); exact BK131.out) hb)
         replace HB := Aside0.mk (below_step (by repeat (first | (with_reducible first | exact HB.out | apply below_alloc | apply pw_below_drewN | apply below_drew1 | refine below_set ?_ GE128.out | refine below_set ?_ GE129.out | refine below_set ?_ GE131.out) | exact HB.out)) hb)
         (try clear hb)
         (try clear hb2)
         (try clear hk)
         (try clear hi)
         refine hK.out _ _ ⟨(blk_cell BK131.out 0).trans rfl, (blk_cell BK131.out 1).trans rfl, (blk_cell BK131.out 2).trans rfl, (blk_cell BK131.out 3).trans rfl, (blk_cell BK131.out 4).trans rfl, (blk_cell BK129.out 0).trans rfl, (blk_cell BK129.out 1).trans rfl, (blk_cell BK129.out 2).trans rfl, (blk_cell BK129.out 3).trans rfl⟩ (fun hHeld => ?_)
         clear hK K
         refine nm ?_; refine pu 10 29 ?_; refine pu 11 30 ?_; refine pu 12 31 ?_; refine tk 13 32 ?_
         refine on 14 (some 33) (fun K hK => ?_)
         refine ca Try.func104 (spec_l4Key.calls ((rd_T57 l1_3 x5_1).f1) false _ A25.out) ?_
         rintro e w' ⟨rfl, ⟨nd, rfl⟩⟩
         refine ⟨_, rfl, ?_⟩
         refine hK.out _ _ ⟨(blk_cell BK131.out 0).trans rfl, (blk_cell BK131.out 1).trans rfl, (blk_cell BK131.out 2).trans rfl, (blk_cell BK131.out 3).trans rfl, (blk_cell BK131.out 4).trans rfl, (blk_cell BK129.out 0).trans rfl, (blk_cell BK129.out 1).trans rfl, (blk_cell BK129.out 2).trans rfl, (blk_cell BK129.out 3).trans rfl⟩ (fun hHeld => ?_)
         clear hK K
         refine nm ?_; refine pu 15 34 ?_; refine pu 16 35 ?_; refine pu 17 36 ?_; refine of 18 37 ?_; refine of 19 38 ?_; refine of 20 39 ?_; refine of 21 40 ?_; refine pu 22 41 ?_; refine pu 23 42 ?_; refine of 24 43 ?_; refine of 25 44 ?_; refine of 26 45 ?_; refine of 27 46 ?_; refine pu 28 47 ?_; refine pu 29 48 ?_; refine of 30 49 ?_; refine of 31 50 ?_; refine of 32 51 ?_; refine of 33 52 ?_; refine of 34 53 ?_; refine of 35 54 ?_; refine of 36 55 ?_; refine of 37 56 ?_; refine of 38 57 ?_; refine of 39 58 ?_; refine of 40 59 ?_; refine of 41 60 ?_; refine of 42 61 ?_; refine of 43 62 ?_; refine of 44 63 ?_; refine pu 45 64 ?_
         refine dn ?_
         try go_wp2
         go_meet
         case rel => exact ⟨_, (true), (by first | rfl | (simp; done) | (simp [*]; done)), H', ⟨by have := HK1.out; first | omega | exact Nat.le_refl _⟩, ⟨by (with_reducible repeat (first | refine blk_drewN ?_ _ | refine blk_drew ?_ | refine blk_alloc ?_ _)); exact BK128.out⟩, ⟨by (with_reducible repeat (first | refine blk_drewN ?_ _ | refine blk_drew ?_ | refine blk_alloc ?_ _)); exact BK129.out⟩, ⟨by (with_reducible repeat (first | refine blk_drewN ?_ _ | refine blk_drew ?_ | refine blk_alloc ?_ _)); exact BK131.out⟩, ⟨by repeat (first | (with_reducible first | exact HB.out | apply below_alloc | apply pw_below_drewN | apply below_drew1 | refine below_set ?_ GE128.out | refine below_set ?_ GE129.out | refine below_set ?_ GE131.out) | exact HB.out)⟩⟩
      ·replace c18 := Bool.eq_false_iff.mpr c18
       subst c18
       have H1 : (spec_l9Group.j1 k1 x5_1 true a0_0 a0_1 l0_2 l0_3 a1_0 a1_1 a1_2 l1_3) = some r := by rw [if_neg (show ¬ (false = true) by decide)] at H; exact H
       clear H
       have H := H1
       clear H1
       have H' := Aside0.mk H
       clear H
       try go_wp2
       have n0_ : Aside0 ((((((w13.setCell ⟨gb131, 0, none⟩ (.int .i64 ((rd_T57 l1_3 x5_1).f0.f0))).setCell ⟨gb131, 1, none⟩ (.int .i64 ((rd_T57 l1_3 x5_1).f0.f1))).setCell ⟨gb131, 2, none⟩ (.string ((rd_T57 l1_3 x5_1).f1))).setCell ⟨gb131, 3, none⟩ (.int .i64 ((rd_T57 l1_3 x5_1).f2))).setCell ⟨gb131, 4, none⟩ (.int .i64 ((rd_T57 l1_3 x5_1).f3))).heap[gb128]? = some (.cells #[.int .i64 a0_0, .int .i64 a0_1, .slice A0_2 l0_2.length c0_2, .slice A0_3 l0_3.length c0_3] 34 (0, 0))) := ⟨by (with_reducible repeat (first | refine blk_drewN ?_ _ | refine blk_drew ?_ | refine blk_alloc ?_ _)); refine blk_far ?_ NB128_131.out _; (with_reducible repeat (first | refine blk_drewN ?_ _ | refine blk_drew ?_ | refine blk_alloc ?_ _)); refine blk_far ?_ NB128_131.out _; (with_reducible repeat (first | refine blk_drewN ?_ _ | refine blk_drew ?_ | refine blk_alloc ?_ _)); refine blk_far ?_ NB128_131.out _; (with_reducible repeat (first | refine blk_drewN ?_ _ | refine blk_drew ?_ | refine blk_alloc ?_ _)); refine blk_far ?_ NB128_131.out _; (with_reducible repeat (first | refine blk_drewN ?_ _ | refine blk_drew ?_ | refine blk_alloc ?_ _)); refine blk_far ?_ NB128_131.out _; (with_reducible repeat (first | refine blk_drewN ?_ _ | refine blk_drew ?_ | refine blk_alloc ?_ _)); exact BK128.out⟩
       have n1_ : Aside0 ((((((w13.setCell ⟨gb131, 0, none⟩ (.int .i64 ((rd_T57 l1_3 x5_1).f0.f0))).setCell ⟨gb131, 1, none⟩ (.int .i64 ((rd_T57 l1_3 x5_1).f0.f1))).setCell ⟨gb131, 2, none⟩ (.string ((rd_T57 l1_3 x5_1).f1))).setCell ⟨gb131, 3, none⟩ (.int .i64 ((rd_T57 l1_3 x5_1).f2))).setCell ⟨gb131, 4, none⟩ (.int .i64 ((rd_T57 l1_3 x5_1).f3))).heap[gb129]? = some (.cells #[.string a1_0, .int .i64 a1_1, .int .i64 a1_2, .slice (some ad130) l1_3.length c1_3] 107 (0, 0))) := ⟨by (with_reducible repeat (first | refine blk_drewN ?_ _ | refine blk_drew ?_ | refine blk_alloc ?_ _)); refine blk_far ?_ NB129_131.out _; (with_reducible repeat (first | refine blk_drewN ?_ _ | refine blk_drew ?_ | refine blk_alloc ?_ _)); refine blk_far ?_ NB129_131.out _; (with_reducible repeat (first | refine blk_drewN ?_ _ | refine blk_drew ?_ | refine blk_alloc ?_ _)); refine blk_far ?_ NB129_131.out _; (with_reducible repeat (first | refine blk_drewN ?_ _ | refine blk_drew ?_ | refine blk_alloc ?_ _)); refine blk_far ?_ NB129_131.out _; (with_reducible repeat (first | refine blk_drewN ?_ _ | refine blk_drew ?_ | refine blk_alloc ?_ _)); refine blk_far ?_ NB129_131.out _; (with_reducible repeat (first | refine blk_drewN ?_ _ | refine blk_drew ?_ | refine blk_alloc ?_ _)); exact BK129.out⟩
       have n2_ : Aside0 ((((((w13.setCell ⟨gb131, 0, none⟩ (.int .i64 ((rd_T57 l1_3 x5_1).f0.f0))).setCell ⟨gb131, 1, none⟩ (.int .i64 ((rd_T57 l1_3 x5_1).f0.f1))).setCell ⟨gb131, 2, none⟩ (.string ((rd_T57 l1_3 x5_1).f1))).setCell ⟨gb131, 3, none⟩ (.int .i64 ((rd_T57 l1_3 x5_1).f2))).setCell ⟨gb131, 4, none⟩ (.int .i64 ((rd_T57 l1_3 x5_1).f3))).heap[gb131]? = some (.cells #[.int .i64 ((rd_T57 l1_3 x5_1).f0.f0), .int .i64 ((rd_T57 l1_3 x5_1).f0.f1), .string ((rd_T57 l1_3 x5_1).f1), .int .i64 ((rd_T57 l1_3 x5_1).f2), .int .i64 ((rd_T57 l1_3 x5_1).f3)] 57 (0, 0))) := ⟨by (with_reducible repeat (first | refine blk_drewN ?_ _ | refine blk_drew ?_ | refine blk_alloc ?_ _)); refine blk_put (cs := #[.int .i64 ((rd_T57 l1_3 x5_1).f0.f0), .int .i64 ((rd_T57 l1_3 x5_1).f0.f1), .string ((rd_T57 l1_3 x5_1).f1), .int .i64 ((rd_T57 l1_3 x5_1).f2), .int .i64 0]) ?_ 4 _ rfl; (with_reducible repeat (first | refine blk_drewN ?_ _ | refine blk_drew ?_ | refine blk_alloc ?_ _)); refine blk_put (cs := #[.int .i64 ((rd_T57 l1_3 x5_1).f0.f0), .int .i64 ((rd_T57 l1_3 x5_1).f0.f1), .string ((rd_T57 l1_3 x5_1).f1), .int .i64 0, .int .i64 0]) ?_ 3 _ rfl; (with_reducible repeat (first | refine blk_drewN ?_ _ | refine blk_drew ?_ | refine blk_alloc ?_ _)); refine blk_put (cs := #[.int .i64 ((rd_T57 l1_3 x5_1).f0.f0), .int .i64 ((rd_T57 l1_3 x5_1).f0.f1), .string (⟨#[]⟩ : ByteArray), .int .i64 0, .int .i64 0]) ?_ 2 _ rfl; (with_reducible repeat (first | refine blk_drewN ?_ _ | refine blk_drew ?_ | refine blk_alloc ?_ _)); refine blk_put (cs := #[.int .i64 ((rd_T57 l1_3 x5_1).f0.f0), .int .i64 0, .string (⟨#[]⟩ : ByteArray), .int .i64 0, .int .i64 0]) ?_ 1 _ rfl; (with_reducible repeat (first | refine blk_drewN ?_ _ | refine blk_drew ?_ | refine blk_alloc ?_ _)); refine blk_put (cs := #[.int .i64 0, .int .i64 0, .string (⟨#[]⟩ : ByteArray), .int .i64 0, .int .i64 0]) ?_ 0 _ rfl; (with_reducible repeat (first | refine blk_drewN ?_ _ | refine blk_drew ?_ | refine blk_alloc ?_ _)); exact BK131.out⟩
       have n3_ : Aside0 (Below w.heap.size w (((((w13.setCell ⟨gb131, 0, none⟩ (.int .i64 ((rd_T57 l1_3 x5_1).f0.f0))).setCell ⟨gb131, 1, none⟩ (.int .i64 ((rd_T57 l1_3 x5_1).f0.f1))).setCell ⟨gb131, 2, none⟩ (.string ((rd_T57 l1_3 x5_1).f1))).setCell ⟨gb131, 3, none⟩ (.int .i64 ((rd_T57 l1_3 x5_1).f2))).setCell ⟨gb131, 4, none⟩ (.int .i64 ((rd_T57 l1_3 x5_1).f3)))) := ⟨by repeat (first | (with_reducible first | exact HB.out | apply below_alloc | apply pw_below_drewN | apply below_drew1 | refine below_set ?_ GE128.out | refine below_set ?_ GE129.out | refine below_set ?_ GE131.out) | exact HB.out)⟩
       (try clear BK128)
       (try clear BK129)
       (try clear BK131)
       (try clear HB)
       generalize (((((w13.setCell ⟨gb131, 0, none⟩ (.int .i64 ((rd_T57 l1_3 x5_1).f0.f0))).setCell ⟨gb131, 1, none⟩ (.int .i64 ((rd_T57 l1_3 x5_1).f0.f1))).setCell ⟨gb131, 2, none⟩ (.string ((rd_T57 l1_3 x5_1).f1))).setCell ⟨gb131, 3, none⟩ (.int .i64 ((rd_T57 l1_3 x5_1).f2))).setCell ⟨gb131, 4, none⟩ (.int .i64 ((rd_T57 l1_3 x5_1).f3))) = w57 at n0_ n1_ n2_ n3_ ⊢
       have BK128 := n0_
       have BK129 := n1_
       have BK131 := n2_
       have HB := n3_
       clear n0_ n1_ n2_ n3_
       replace BK128 := Aside0.mk (blk_drew BK128.out)
       replace BK129 := Aside0.mk (blk_drew BK129.out)
       replace BK131 := Aside0.mk (blk_drew BK131.out)
       replace HB := Aside0.mk (below_drew1 HB.out)
       refine start_ (n := 46) (S := fun w' => w'.cell? ⟨gb131, 0, none⟩ = some (.int .i64 ((rd_T57 l1_3 x5_1).f0.f0)) ∧ w'.cell? ⟨gb131, 1, none⟩ = some (.int .i64 ((rd_T57 l1_3 x5_1).f0.f1)) ∧ w'.cell? ⟨gb131, 2, none⟩ = some (.string ((rd_T57 l1_3 x5_1).f1)) ∧ w'.cell? ⟨gb131, 3, none⟩ = some (.int .i64 ((rd_T57 l1_3 x5_1).f2)) ∧ w'.cell? ⟨gb131, 4, none⟩ = some (.int .i64 ((rd_T57 l1_3 x5_1).f3))) (ds := []) _ (by kernel_rfl) rfl rfl ⟨(blk_cell BK131.out 0).trans rfl, (blk_cell BK131.out 1).trans rfl, (blk_cell BK131.out 2).trans rfl, (blk_cell BK131.out 3).trans rfl, (blk_cell BK131.out 4).trans rfl⟩ (fun hHeld => ?_); refine with_tabW spec_l9Group.tab5 spec_l9Group.bits5 (fun HT_ HW_ => ?_)
       generalize w57.drew = w58 at BK128 BK129 BK131 HB hHeld ⊢
       refine pu 0 19 ?_; refine tk 1 20 ?_
       refine on 2 (some 21) (fun K hK => ?_)
       refine ca Try.func68 (spec_l9Id.calls ((rd_T57 l1_3 x5_1).f0.f0) ((rd_T57 l1_3 x5_1).f0.f1) false _ A17.out) ?_
       rintro e w59 ⟨rfl, hb⟩
       refine ⟨_, rfl, ?_⟩
       replace BK128 := Aside0.mk (blk_below (g := gb128) (o := .cells #[.int .i64 a0_0, .int .i64 a0_1, .slice A0_2 l0_2.length c0_2, .slice A0_3 l0_3.length c0_3] 34 (0, 0)) (by (with_reducible repeat (first | refine blk_drewN ?_ _ | refine blk_drew ?_ | refine blk_alloc ?_ _)); exact BK128.out) hb)
       replace BK129 := Aside0.mk (blk_below (g := gb129) (o := .cells #[.string a1_0, .int .i64 a1_1, .int .i64 a1_2, .slice (some ad130) l1_3.length c1_3] 107 (0, 0)) (by (with_reducible repeat (first | refine blk_drewN ?_ _ | refine blk_drew ?_ | refine blk_alloc ?_ _)); exact BK129.out) hb)
       replace BK131 := Aside0.mk (blk_below (g := gb131) (o := .cells #[.int .i64 ((rd_T57 l1_3 x5_1).f0.f0), .int .i64 ((rd_T57 l1_3 x5_1).f0.f1), .string ((rd_T57 l1_3 x5_1).f1), .int .i64 ((rd_T57 l1_3 x5_1).f2), .int .i64 ((rd_T57 l1_3 x5_1).f3)] 57 (0, 0)) (by (with_reducible repeat (first | refine blk_drewN ?_ _ | refine blk_drew ?_ | refine blk_alloc ?_ _)); exact BK131.out) hb)
       replace HB := Aside0.mk (below_step (by repeat (first | (with_reducible first | exact HB.out | apply below_alloc | apply pw_below_drewN | apply below_drew1 | refine below_set ?_ GE128.out | refine below_set ?_ GE129.out | refine below_set ?_ GE131.out) | exact HB.out)) hb)
       (try clear hb)
       (try clear hb2)
       (try clear hk)
       (try clear hi)
       refine hK.out _ _ ⟨(blk_cell BK131.out 0).trans rfl, (blk_cell BK131.out 1).trans rfl, (blk_cell BK131.out 2).trans rfl, (blk_cell BK131.out 3).trans rfl, (blk_cell BK131.out 4).trans rfl⟩ (fun hHeld => ?_)
       clear hK K
       refine nm ?_; refine pu 3 22 ?_; refine pu 4 23 ?_; refine of 5 24 ?_; refine of 6 25 ?_; refine of 7 26 ?_; refine of 8 27 ?_; refine of 9 28 ?_; refine pu 10 29 ?_; refine pu 11 30 ?_; refine of 12 31 ?_; refine of 13 32 ?_; refine of 14 33 ?_; refine of 15 34 ?_; refine pu 16 35 ?_; refine pu 17 36 ?_; refine of 18 37 ?_; refine of 19 38 ?_; refine of 20 39 ?_; refine of 21 40 ?_; refine pu 22 41 ?_; refine pu 23 42 ?_; refine of 24 43 ?_; refine of 25 44 ?_; refine of 26 45 ?_; refine of 27 46 ?_; refine pu 28 47 ?_; refine pu 29 48 ?_; refine of 30 49 ?_; refine of 31 50 ?_; refine of 32 51 ?_; refine of 33 52 ?_; refine of 34 53 ?_; refine of 35 54 ?_; refine of 36 55 ?_; refine of 37 56 ?_; refine of 38 57 ?_; refine of 39 58 ?_; refine of 40 59 ?_; refine of 41 60 ?_; refine of 42 61 ?_; refine of 43 62 ?_; refine of 44 63 ?_; refine pu 45 64 ?_
       refine dn ?_
       try go_wp2
       go_meet
       case rel => exact ⟨_, (true), (by first | rfl | (simp; done) | (simp [*]; done)), H', ⟨by have := HK1.out; first | omega | exact Nat.le_refl _⟩, ⟨by (with_reducible repeat (first | refine blk_drewN ?_ _ | refine blk_drew ?_ | refine blk_alloc ?_ _)); exact BK128.out⟩, ⟨by (with_reducible repeat (first | refine blk_drewN ?_ _ | refine blk_drew ?_ | refine blk_alloc ?_ _)); exact BK129.out⟩, ⟨by (with_reducible repeat (first | refine blk_drewN ?_ _ | refine blk_drew ?_ | refine blk_alloc ?_ _)); exact BK131.out⟩, ⟨by repeat (first | (with_reducible first | exact HB.out | apply below_alloc | apply pw_below_drewN | apply below_drew1 | refine below_set ?_ GE128.out | refine below_set ?_ GE129.out | refine below_set ?_ GE131.out) | exact HB.out)⟩⟩
     case rest =>
      clear HC10
      try clear c1
      try clear p2
      try clear c6
      try clear c10
      try clear c18
      obtain ⟨kq, x64_9, rfl, HA, HJ9, BK128, BK129, BK131, HB⟩ := hcut
      cases kq with
      | zero => exact absurd HA.out (by simp [spec_l9Group.j1])
      | succ kj9 =>
       have H := HA.out
       clear HA
       simp only [spec_l9Group.j1] at H
       by_cases c60 : x64_9 = true
       ·subst c60
        have H1 : (some false) = some r := by rw [if_pos rfl] at H; exact H
        clear H
        have H := H1
        clear H1
        obtain rfl := Option.some.inj H
        go_wp2
        go_ret
        exact ⟨by first | rfl | (simp [errW_none, errW_some] <;> rfl) | (simp [*, errW_none, errW_some] <;> rfl), by repeat (first | (with_reducible first | exact HB.out | apply below_alloc | apply pw_below_drewN | apply below_drew1 | refine below_set ?_ GE128.out | refine below_set ?_ GE129.out | refine below_set ?_ GE131.out) | exact HB.out)⟩
       ·replace c60 := Bool.eq_false_iff.mpr c60
        subst c60
        have H1 : (spec_l9Group.l0 kj9 (wrap64 (x5_1 + 1)) a0_0 a0_1 l0_2 l0_3 a1_0 a1_1 a1_2 l1_3) = some r := by rw [if_neg (show ¬ (false = true) by decide)] at H; exact H
        clear H
        have H := H1
        clear H1
        have H' := Aside0.mk H
        clear H
        go_wp2
        go_roundg kj9
        case measure => have := HK1.out; have := HJ9.out; omega
        case rel => exact ⟨(wrap64 (x5_1 + 1)), (by first | rfl | (simp; done) | (simp [*]; done)), H', ⟨by have := HK1.out; have := HJ9.out; omega⟩, ⟨by (with_reducible repeat (first | refine blk_drewN ?_ _ | refine blk_drew ?_ | refine blk_alloc ?_ _)); exact BK128.out⟩, ⟨by (with_reducible repeat (first | refine blk_drewN ?_ _ | refine blk_drew ?_ | refine blk_alloc ?_ _)); exact BK129.out⟩, ⟨by repeat (first | (with_reducible first | exact HB.out | apply below_alloc | apply pw_below_drewN | apply below_drew1 | refine below_set ?_ GE128.out | refine below_set ?_ GE129.out | refine below_set ?_ GE131.out) | exact HB.out)⟩⟩
    ·rw [if_neg c9] at H
     exact absurd H (by simp)
   ·rw [if_neg c8] at H
    have c8b0 : decide (x5_1 < (l1_3.length : Int)) = false := decide_eq_false c8
    clear c8
    (first | rw [c8b0] | rw [c8b1] | (simp only [i64_w, i32_w]; rw [c8b0]) | rw [c8b2] | skip)
    replace H := Option.bind_eq_some_iff.mp H
    obtain ⟨t139, A610, H⟩ := H
    replace H : (if t139 = true then ((spec_l9Id.f a1_1 a1_2).bind fun t140 => (if t140 = true then ((spec_IdLess.f a0_0 a0_1 a1_1 a1_2).bind fun t141 => (if t141 = true then (some false) else (some (decide ((l1_3.length : Int) ≤ 16))))) else (some false))) else (some false)) = some r := H
    have A61 := Aside0.mk A610
    clear A610
    by_cases c62 : t139 = true
    ·subst c62
     have H1 : ((spec_l9Id.f a1_1 a1_2).bind fun t140 => (if t140 = true then ((spec_IdLess.f a0_0 a0_1 a1_1 a1_2).bind fun t141 => (if t141 = true then (some false) else (some (decide ((l1_3.length : Int) ≤ 16))))) else (some false))) = some r := by rw [if_pos rfl] at H; exact H
     clear H
     have H := H1
     clear H1
     replace H := Option.bind_eq_some_iff.mp H
     obtain ⟨t140, A630, H⟩ := H
     replace H : (if t140 = true then ((spec_IdLess.f a0_0 a0_1 a1_1 a1_2).bind fun t141 => (if t141 = true then (some false) else (some (decide ((l1_3.length : Int) ≤ 16))))) else (some false)) = some r := H
     have A63 := Aside0.mk A630
     clear A630
     by_cases c64 : t140 = true
     ·subst c64
      have H1 : ((spec_IdLess.f a0_0 a0_1 a1_1 a1_2).bind fun t141 => (if t141 = true then (some false) else (some (decide ((l1_3.length : Int) ≤ 16))))) = some r := by rw [if_pos rfl] at H; exact H
      clear H
      have H := H1
      clear H1
      replace H := Option.bind_eq_some_iff.mp H
      obtain ⟨t141, A650, H⟩ := H
      replace H : (if t141 = true then (some false) else (some (decide ((l1_3.length : Int) ≤ 16)))) = some r := H
      have A65 := Aside0.mk A650
      clear A650
      by_cases c66 : t141 = true
      ·subst c66
       have H1 : (some false) = some r := by rw [if_pos rfl] at H; exact H
       clear H
       have H := H1
       clear H1
       obtain rfl := Option.some.inj H
       have hnb67 := NB129_128.out
       have hnc67 := NB128_129.out
       have hcz68_0 : wr.cell? ⟨gb129, 0, none⟩ = some (.string a1_0) := (blk_cell BK129.out 0).trans rfl
       have hcz68_1 : wr.cell? ⟨gb129, 1, none⟩ = some (.int .i64 a1_1) := (blk_cell BK129.out 1).trans rfl
       have hcz68_2 : wr.cell? ⟨gb129, 2, none⟩ = some (.int .i64 a1_2) := (blk_cell BK129.out 2).trans rfl
       have hcz68_3 : wr.cell? ⟨gb129, 3, none⟩ = some (.slice A1_3 l1_3.length c1_3) := (blk_cell BK129.out 3).trans rfl
       have hfz68_0 := blk_frozen BK129.out 0
       have hfz68_1 := blk_frozen BK129.out 1
       have hfz68_2 := blk_frozen BK129.out 2
       have hfz68_3 := blk_frozen BK129.out 3
       go_wp2_with (first | ((with_reducible refine gate_callee (f := 104) rfl ?_); refine goesL_ (some 67) rfl rfl Try.func104 (by kernel_rfl) rfl #[.string a1_0] rfl (by (try simp only [List.map_toArray, List.map_cons, List.map_nil]); first | done | rfl | (simp only [List.length_drop, List.length_take]; rfl)) ?_; (with_reducible refine (spec_l4Key.calls a1_0 true _ A61.out).mono ?_); rintro e w' ⟨rfl, ⟨nd, rfl⟩⟩; refine ⟨_, rfl, ?_⟩) | (go_at_call 68; (with_reducible refine (spec_l9Id.calls a1_1 a1_2 true _ A63.out).mono ?_); rintro e w69 ⟨rfl, hb⟩; have n0_ := Aside0.mk (blk_below (g := gb128) (o := .cells #[.int .i64 a0_0, .int .i64 a0_1, .slice A0_2 l0_2.length c0_2, .slice A0_3 l0_3.length c0_3] 34 (0, 0)) (by (with_reducible repeat (first | refine blk_drewN ?_ _ | refine blk_drew ?_ | refine blk_alloc ?_ _)); exact BK128.out) hb); have n1_ := Aside0.mk (blk_below (g := gb129) (o := .cells #[.string a1_0, .int .i64 a1_1, .int .i64 a1_2, .slice A1_3 l1_3.length c1_3] 107 (0, 0)) (by (with_reducible repeat (first | refine blk_drewN ?_ _ | refine blk_drew ?_ | refine blk_alloc ?_ _)); exact BK129.out) hb); have n2_ := Aside0.mk (below_step (by repeat (first | (with_reducible first | exact HB.out | apply below_alloc | apply pw_below_drewN | apply below_drew1 | refine below_set ?_ GE128.out | refine below_set ?_ GE129.out) | exact HB.out)) hb); clear BK128; clear BK129; clear HB; have BK128 := n0_; have BK129 := n1_; have HB := n2_; clear n0_ n1_ n2_; (try clear hb); (try clear hb2); (try clear hk); (try clear hi); have hcz70_0 : w69.cell? ⟨gb128, 0, none⟩ = some (.int .i64 a0_0) := (blk_cell BK128.out 0).trans rfl; have hcz70_1 : w69.cell? ⟨gb128, 1, none⟩ = some (.int .i64 a0_1) := (blk_cell BK128.out 1).trans rfl; have hcz70_2 : w69.cell? ⟨gb128, 2, none⟩ = some (.slice A0_2 l0_2.length c0_2) := (blk_cell BK128.out 2).trans rfl; have hcz70_3 : w69.cell? ⟨gb128, 3, none⟩ = some (.slice A0_3 l0_3.length c0_3) := (blk_cell BK128.out 3).trans rfl; have hfz70_0 := blk_frozen BK128.out 0; have hfz70_1 := blk_frozen BK128.out 1; have hfz70_2 := blk_frozen BK128.out 2; have hfz70_3 := blk_frozen BK128.out 3; have hcz71_0 : w69.cell? ⟨gb129, 0, none⟩ = some (.string a1_0) := (blk_cell BK129.out 0).trans rfl; have hcz71_1 : w69.cell? ⟨gb129, 1, none⟩ = some (.int .i64 a1_1) := (blk_cell BK129.out 1).trans rfl; have hcz71_2 : w69.cell? ⟨gb129, 2, none⟩ = some (.int .i64 a1_2) := (blk_cell BK129.out 2).trans rfl; have hcz71_3 : w69.cell? ⟨gb129, 3, none⟩ = some (.slice A1_3 l1_3.length c1_3) := (blk_cell BK129.out 3).trans rfl; have hfz71_0 := blk_frozen BK129.out 0; have hfz71_1 := blk_frozen BK129.out 1; have hfz71_2 := blk_frozen BK129.out 2; have hfz71_3 := blk_frozen BK129.out 3) | (go_at_call 69; (with_reducible refine (spec_IdLess.calls a0_0 a0_1 a1_1 a1_2 true _ A65.out).mono ?_); rintro e w72 ⟨rfl, hb⟩; have n0_ := Aside0.mk (blk_below (g := gb128) (o := .cells #[.int .i64 a0_0, .int .i64 a0_1, .slice A0_2 l0_2.length c0_2, .slice A0_3 l0_3.length c0_3] 34 (0, 0)) (by (with_reducible repeat (first | refine blk_drewN ?_ _ | refine blk_drew ?_ | refine blk_alloc ?_ _)); exact BK128.out) hb); have n1_ := Aside0.mk (blk_below (g := gb129) (o := .cells #[.string a1_0, .int .i64 a1_1, .int .i64 a1_2, .slice A1_3 l1_3.length c1_3] 107 (0, 0)) (by (with_reducible repeat (first | refine blk_drewN ?_ _ | refine blk_drew ?_ | refine blk_alloc ?_ _)); exact BK129.out) hb); have n2_ := Aside0.mk (below_step (by repeat (first | (with_reducible first | exact HB.out | apply below_alloc | apply pw_below_drewN | apply below_drew1 | refine below_set ?_ GE128.out | refine below_set ?_ GE129.out) | exact HB.out)) hb); clear BK128; clear BK129; clear HB; have BK128 := n0_; have BK129 := n1_; have HB := n2_; clear n0_ n1_ n2_; (try clear hb); (try clear hb2); (try clear hk); (try clear hi)))
       go_ret
       exact ⟨by first | rfl | (simp [errW_none, errW_some] <;> rfl) | (simp [*, errW_none, errW_some] <;> rfl), by repeat (first | (with_reducible first | exact HB.out | apply below_alloc | apply pw_below_drewN | apply below_drew1 | refine below_set ?_ GE128.out | refine below_set ?_ GE129.out) | exact HB.out)⟩
      ·replace c66 := Bool.eq_false_iff.mpr c66
       subst c66
       have H1 : (some (decide ((l1_3.length : Int) ≤ 16))) = some r := by rw [if_neg (show ¬ (false = true) by decide)] at H; exact H
       clear H
       have H := H1
       clear H1
       obtain rfl := Option.some.inj H
       have hnb73 := NB129_128.out
       have hnc73 := NB128_129.out
       have hcz74_0 : wr.cell? ⟨gb129, 0, none⟩ = some (.string a1_0) := (blk_cell BK129.out 0).trans rfl
       have hcz74_1 : wr.cell? ⟨gb129, 1, none⟩ = some (.int .i64 a1_1) := (blk_cell BK129.out 1).trans rfl
       have hcz74_2 : wr.cell? ⟨gb129, 2, none⟩ = some (.int .i64 a1_2) := (blk_cell BK129.out 2).trans rfl
       have hcz74_3 : wr.cell? ⟨gb129, 3, none⟩ = some (.slice A1_3 l1_3.length c1_3) := (blk_cell BK129.out 3).trans rfl
       have hfz74_0 := blk_frozen BK129.out 0
       have hfz74_1 := blk_frozen BK129.out 1
       have hfz74_2 := blk_frozen BK129.out 2
       have hfz74_3 := blk_frozen BK129.out 3
       go_wp2_with (first | ((with_reducible refine gate_callee (f := 104) rfl ?_); refine goesL_ (some 67) rfl rfl Try.func104 (by kernel_rfl) rfl #[.string a1_0] rfl (by (try simp only [List.map_toArray, List.map_cons, List.map_nil]); first | done | rfl | (simp only [List.length_drop, List.length_take]; rfl)) ?_; (with_reducible refine (spec_l4Key.calls a1_0 true _ A61.out).mono ?_); rintro e w' ⟨rfl, ⟨nd, rfl⟩⟩; refine ⟨_, rfl, ?_⟩) | (go_at_call 68; (with_reducible refine (spec_l9Id.calls a1_1 a1_2 true _ A63.out).mono ?_); rintro e w75 ⟨rfl, hb⟩; have n0_ := Aside0.mk (blk_below (g := gb128) (o := .cells #[.int .i64 a0_0, .int .i64 a0_1, .slice A0_2 l0_2.length c0_2, .slice A0_3 l0_3.length c0_3] 34 (0, 0)) (by (with_reducible repeat (first | refine blk_drewN ?_ _ | refine blk_drew ?_ | refine blk_alloc ?_ _)); exact BK128.out) hb); have n1_ := Aside0.mk (blk_below (g := gb129) (o := .cells #[.string a1_0, .int .i64 a1_1, .int .i64 a1_2, .slice A1_3 l1_3.length c1_3] 107 (0, 0)) (by (with_reducible repeat (first | refine blk_drewN ?_ _ | refine blk_drew ?_ | refine blk_alloc ?_ _)); exact BK129.out) hb); have n2_ := Aside0.mk (below_step (by repeat (first | (with_reducible first | exact HB.out | apply below_alloc | apply pw_below_drewN | apply below_drew1 | refine below_set ?_ GE128.out | refine below_set ?_ GE129.out) | exact HB.out)) hb); clear BK128; clear BK129; clear HB; have BK128 := n0_; have BK129 := n1_; have HB := n2_; clear n0_ n1_ n2_; (try clear hb); (try clear hb2); (try clear hk); (try clear hi); have hcz76_0 : w75.cell? ⟨gb128, 0, none⟩ = some (.int .i64 a0_0) := (blk_cell BK128.out 0).trans rfl; have hcz76_1 : w75.cell? ⟨gb128, 1, none⟩ = some (.int .i64 a0_1) := (blk_cell BK128.out 1).trans rfl; have hcz76_2 : w75.cell? ⟨gb128, 2, none⟩ = some (.slice A0_2 l0_2.length c0_2) := (blk_cell BK128.out 2).trans rfl; have hcz76_3 : w75.cell? ⟨gb128, 3, none⟩ = some (.slice A0_3 l0_3.length c0_3) := (blk_cell BK128.out 3).trans rfl; have hfz76_0 := blk_frozen BK128.out 0; have hfz76_1 := blk_frozen BK128.out 1; have hfz76_2 := blk_frozen BK128.out 2; have hfz76_3 := blk_frozen BK128.out 3; have hcz77_0 : w75.cell? ⟨gb129, 0, none⟩ = some (.string a1_0) := (blk_cell BK129.out 0).trans rfl; have hcz77_1 : w75.cell? ⟨gb129, 1, none⟩ = some (.int .i64 a1_1) := (blk_cell BK129.out 1).trans rfl; have hcz77_2 : w75.cell? ⟨gb129, 2, none⟩ = some (.int .i64 a1_2) := (blk_cell BK129.out 2).trans rfl; have hcz77_3 : w75.cell? ⟨gb129, 3, none⟩ = some (.slice A1_3 l1_3.length c1_3) := (blk_cell BK129.out 3).trans rfl; have hfz77_0 := blk_frozen BK129.out 0; have hfz77_1 := blk_frozen BK129.out 1; have hfz77_2 := blk_frozen BK129.out 2; have hfz77_3 := blk_frozen BK129.out 3) | (go_at_call 69; (with_reducible refine (spec_IdLess.calls a0_0 a0_1 a1_1 a1_2 false _ A65.out).mono ?_); rintro e w78 ⟨rfl, hb⟩; have n0_ := Aside0.mk (blk_below (g := gb128) (o := .cells #[.int .i64 a0_0, .int .i64 a0_1, .slice A0_2 l0_2.length c0_2, .slice A0_3 l0_3.length c0_3] 34 (0, 0)) (by (with_reducible repeat (first | refine blk_drewN ?_ _ | refine blk_drew ?_ | refine blk_alloc ?_ _)); exact BK128.out) hb); have n1_ := Aside0.mk (blk_below (g := gb129) (o := .cells #[.string a1_0, .int .i64 a1_1, .int .i64 a1_2, .slice A1_3 l1_3.length c1_3] 107 (0, 0)) (by (with_reducible repeat (first | refine blk_drewN ?_ _ | refine blk_drew ?_ | refine blk_alloc ?_ _)); exact BK129.out) hb); have n2_ := Aside0.mk (below_step (by repeat (first | (with_reducible first | exact HB.out | apply below_alloc | apply pw_below_drewN | apply below_drew1 | refine below_set ?_ GE128.out | refine below_set ?_ GE129.out) | exact HB.out)) hb); clear BK128; clear BK129; clear HB; have BK128 := n0_; have BK129 := n1_; have HB := n2_; clear n0_ n1_ n2_; (try clear hb); (try clear hb2); (try clear hk); (try clear hi); have hcz79_0 : w78.cell? ⟨gb129, 0, none⟩ = some (.string a1_0) := (blk_cell BK129.out 0).trans rfl; have hcz79_1 : w78.cell? ⟨gb129, 1, none⟩ = some (.int .i64 a1_1) := (blk_cell BK129.out 1).trans rfl; have hcz79_2 : w78.cell? ⟨gb129, 2, none⟩ = some (.int .i64 a1_2) := (blk_cell BK129.out 2).trans rfl; have hcz79_3 : w78.cell? ⟨gb129, 3, none⟩ = some (.slice A1_3 l1_3.length c1_3) := (blk_cell BK129.out 3).trans rfl; have hfz79_0 := blk_frozen BK129.out 0; have hfz79_1 := blk_frozen BK129.out 1; have hfz79_2 := blk_frozen BK129.out 2; have hfz79_3 := blk_frozen BK129.out 3))
       go_ret
       exact ⟨by first | rfl | (simp [errW_none, errW_some] <;> rfl) | (simp [*, errW_none, errW_some] <;> rfl), by repeat (first | (with_reducible first | exact HB.out | apply below_alloc | apply pw_below_drewN | apply below_drew1 | refine below_set ?_ GE128.out | refine below_set ?_ GE129.out) | exact HB.out)⟩
     ·replace c64 := Bool.eq_false_iff.mpr c64
      subst c64
      have H1 : (some false) = some r := by rw [if_neg (show ¬ (false = true) by decide)] at H; exact H
      clear H
      have H := H1
      clear H1
      obtain rfl := Option.some.inj H
      have hnb80 := NB129_128.out
      have hnc80 := NB128_129.out
      have hcz81_0 : wr.cell? ⟨gb129, 0, none⟩ = some (.string a1_0) := (blk_cell BK129.out 0).trans rfl
      have hcz81_1 : wr.cell? ⟨gb129, 1, none⟩ = some (.int .i64 a1_1) := (blk_cell BK129.out 1).trans rfl
      have hcz81_2 : wr.cell? ⟨gb129, 2, none⟩ = some (.int .i64 a1_2) := (blk_cell BK129.out 2).trans rfl
      have hcz81_3 : wr.cell? ⟨gb129, 3, none⟩ = some (.slice A1_3 l1_3.length c1_3) := (blk_cell BK129.out 3).trans rfl
      have hfz81_0 := blk_frozen BK129.out 0
      have hfz81_1 := blk_frozen BK129.out 1
      have hfz81_2 := blk_frozen BK129.out 2
      have hfz81_3 := blk_frozen BK129.out 3
      go_wp2_with (first | ((with_reducible refine gate_callee (f := 104) rfl ?_); refine goesL_ (some 67) rfl rfl Try.func104 (by kernel_rfl) rfl #[.string a1_0] rfl (by (try simp only [List.map_toArray, List.map_cons, List.map_nil]); first | done | rfl | (simp only [List.length_drop, List.length_take]; rfl)) ?_; (with_reducible refine (spec_l4Key.calls a1_0 true _ A61.out).mono ?_); rintro e w' ⟨rfl, ⟨nd, rfl⟩⟩; refine ⟨_, rfl, ?_⟩) | (go_at_call 68; (with_reducible refine (spec_l9Id.calls a1_1 a1_2 false _ A63.out).mono ?_); rintro e w82 ⟨rfl, hb⟩; have n0_ := Aside0.mk (blk_below (g := gb128) (o := .cells #[.int .i64 a0_0, .int .i64 a0_1, .slice A0_2 l0_2.length c0_2, .slice A0_3 l0_3.length c0_3] 34 (0, 0)) (by (with_reducible repeat (first | refine blk_drewN ?_ _ | refine blk_drew ?_ | refine blk_alloc ?_ _)); exact BK128.out) hb); have n1_ := Aside0.mk (blk_below (g := gb129) (o := .cells #[.string a1_0, .int .i64 a1_1, .int .i64 a1_2, .slice A1_3 l1_3.length c1_3] 107 (0, 0)) (by (with_reducible repeat (first | refine blk_drewN ?_ _ | refine blk_drew ?_ | refine blk_alloc ?_ _)); exact BK129.out) hb); have n2_ := Aside0.mk (below_step (by repeat (first | (with_reducible first | exact HB.out | apply below_alloc | apply pw_below_drewN | apply below_drew1 | refine below_set ?_ GE128.out | refine below_set ?_ GE129.out) | exact HB.out)) hb); clear BK128; clear BK129; clear HB; have BK128 := n0_; have BK129 := n1_; have HB := n2_; clear n0_ n1_ n2_; (try clear hb); (try clear hb2); (try clear hk); (try clear hi)))
      go_ret
      exact ⟨by first | rfl | (simp [errW_none, errW_some] <;> rfl) | (simp [*, errW_none, errW_some] <;> rfl), by repeat (first | (with_reducible first | exact HB.out | apply below_alloc | apply pw_below_drewN | apply below_drew1 | refine below_set ?_ GE128.out | refine below_set ?_ GE129.out) | exact HB.out)⟩
    ·replace c62 := Bool.eq_false_iff.mpr c62
     subst c62
     have H1 : (some false) = some r := by rw [if_neg (show ¬ (false = true) by decide)] at H; exact H
     clear H
     have H := H1
     clear H1
     obtain rfl := Option.some.inj H
     have hnb83 := NB129_128.out
     have hnc83 := NB128_129.out
     have hcz84_0 : wr.cell? ⟨gb129, 0, none⟩ = some (.string a1_0) := (blk_cell BK129.out 0).trans rfl
     have hcz84_1 : wr.cell? ⟨gb129, 1, none⟩ = some (.int .i64 a1_1) := (blk_cell BK129.out 1).trans rfl
     have hcz84_2 : wr.cell? ⟨gb129, 2, none⟩ = some (.int .i64 a1_2) := (blk_cell BK129.out 2).trans rfl
     have hcz84_3 : wr.cell? ⟨gb129, 3, none⟩ = some (.slice A1_3 l1_3.length c1_3) := (blk_cell BK129.out 3).trans rfl
     have hfz84_0 := blk_frozen BK129.out 0
     have hfz84_1 := blk_frozen BK129.out 1
     have hfz84_2 := blk_frozen BK129.out 2
     have hfz84_3 := blk_frozen BK129.out 3
     go_wp2_with (first | ((with_reducible refine gate_callee (f := 104) rfl ?_); refine goesL_ (some 67) rfl rfl Try.func104 (by kernel_rfl) rfl #[.string a1_0] rfl (by (try simp only [List.map_toArray, List.map_cons, List.map_nil]); first | done | rfl | (simp only [List.length_drop, List.length_take]; rfl)) ?_; (with_reducible refine (spec_l4Key.calls a1_0 false _ A61.out).mono ?_); rintro e w' ⟨rfl, ⟨nd, rfl⟩⟩; refine ⟨_, rfl, ?_⟩))
     go_ret
     exact ⟨by first | rfl | (simp [errW_none, errW_some] <;> rfl) | (simp [*, errW_none, errW_some] <;> rfl), by repeat (first | (with_reducible first | exact HB.out | apply below_alloc | apply pw_below_drewN | apply below_drew1 | refine below_set ?_ GE128.out | refine below_set ?_ GE129.out) | exact HB.out)⟩
end Go.Proofs.Ytofiljboaegekaa.PFnExactStreamOk
namespace Go.Proofs.Ytofiljboaegekaa.PFnExactStreamOk
open Go.RowKit Go.Proofs.YtofiljboaegekaaW.PrintWords Go.Proofs.YtofiljboaegekaaW.PrintLast Go.Proofs.YtofiljboaegekaaW.PrintMore Go.Proofs.Ytofiljboaegekaa.Reg
attribute [local go_sem] max2_int min2_int max_two min_two max_three min_three max_four min_four
set_option linter.unusedVariables false
set_option linter.unusedSimpArgs false
mutual
def spec_StreamOk.l0 : Nat → Int → Int → Int → List (S66) → List (S107) → Option (Bool)
 | 0, _, _, _, _, _ => none
 | k + 1, x3, x143000, x143001, x143002, x143003 => if x3 < (x143002.length : Int) then (if 0 ≤ x3 then ((spec_l9Id.f ((rd_T66 x143002 x3).f0.f0) ((rd_T66 x143002 x3).f0.f1)).bind fun t145 => (if t145 = true then ((spec_IdLess.f x143000 x143001 ((rd_T66 x143002 x3).f0.f0) ((rd_T66 x143002 x3).f0.f1)).bind fun t146 => (if t146 = true then (spec_StreamOk.j1 k x3 true x143000 x143001 x143002 x143003) else ((spec_FieldsOk.f k ((rd_T66 x143002 x3).f1)).bind fun t147 => (if t147 = true then (if (((rd_T66 x143002 x3).f1).length : Int) = 0 then (spec_StreamOk.j1 k x3 true x143000 x143001 x143002 x143003) else (if x3 > 0 then (if 0 ≤ (wrap64 (x3 - 1)) then (if (wrap64 (x3 - 1)) < (x143002.length : Int) then ((spec_IdLess.f ((rd_T66 x143002 (wrap64 (x3 - 1))).f0.f0) ((rd_T66 x143002 (wrap64 (x3 - 1))).f0.f1) ((rd_T66 x143002 x3).f0.f0) ((rd_T66 x143002 x3).f0.f1)).bind fun t149 => (spec_StreamOk.j1 k x3 (!t149) x143000 x143001 x143002 x143003)) else (none)) else (none)) else (spec_StreamOk.j1 k x3 false x143000 x143001 x143002 x143003))) else (spec_StreamOk.j1 k x3 true x143000 x143001 x143002 x143003))))) else (spec_StreamOk.j1 k x3 true x143000 x143001 x143002 x143003))) else (none)) else (spec_StreamOk.l1 k 0 x143000 x143001 x143002 x143003)
def spec_StreamOk.j1 : Nat → Int → Bool → Int → Int → List (S66) → List (S107) → Option (Bool)
 | 0, _, _, _, _, _, _ => none
 | k + 1, x3, x57, x143000, x143001, x143002, x143003 => if x57 = true then (some false) else (spec_StreamOk.l0 k (wrap64 (x3 + 1)) x143000 x143001 x143002 x143003)
def spec_StreamOk.l1 : Nat → Int → Int → Int → List (S66) → List (S107) → Option (Bool)
 | 0, _, _, _, _, _ => none
 | k + 1, x5, x143000, x143001, x143002, x143003 => if x5 < (x143003.length : Int) then (if 0 ≤ x5 then ((spec_l9Group.f k x143000 x143001 x143002 x143003 ((rd_T107 x143003 x5).f0) ((rd_T107 x143003 x5).f1.f0) ((rd_T107 x143003 x5).f1.f1) ((rd_T107 x143003 x5).f2)).bind fun t152 => (if t152 = true then (if x5 > 0 then (if 0 ≤ (wrap64 (x5 - 1)) then (if (wrap64 (x5 - 1)) < (x143003.length : Int) then (spec_StreamOk.j3 k x5 (!(Op.bytesLess (((rd_T107 x143003 (wrap64 (x5 - 1))).f0).toList) (((rd_T107 x143003 x5).f0).toList))) x143000 x143001 x143002 x143003) else (none)) else (none)) else (spec_StreamOk.j3 k x5 false x143000 x143001 x143002 x143003)) else (spec_StreamOk.j3 k x5 true x143000 x143001 x143002 x143003))) else (none)) else ((spec_l9Id.f x143000 x143001).bind fun t150 => (if t150 = true then (if (x143002.length : Int) ≤ 16 then (some (decide ((x143003.length : Int) ≤ 3))) else (some false)) else (some false)))
def spec_StreamOk.j3 : Nat → Int → Bool → Int → Int → List (S66) → List (S107) → Option (Bool)
 | 0, _, _, _, _, _, _ => none
 | k + 1, x5, x92, x143000, x143001, x143002, x143003 => if x92 = true then (some false) else (spec_StreamOk.l1 k (wrap64 (x5 + 1)) x143000 x143001 x143002 x143003)
end
def spec_StreamOk.f (k : Nat) (a0_0 : Int) (a0_1 : Int) (l0_2 : List (S66)) (l0_3 : List (S107)) : Option (Bool) := spec_StreamOk.l0 k 0 a0_0 a0_1 l0_2 l0_3
def spec_StreamOk.T5 : Bool × List (List Nat × List Nat) := (true, [([], []), ([0], [0]), ([1], [1]), ([2], [2]), ([3, 2], [3]), ([4], [4]), ([5, 4], [4, 5]), ([4], [4]), ([7, 4], [4, 7]), ([6, 8, 4, 4], [4, 6, 8]), ([4, 9], [4, 9]), ([10, 9], [10]), ([11], [11]), ([12, 11], [11, 12]), ([13, 11, 11], [11, 13]), ([14, 11], [11, 14]), ([11, 15], [11, 15]), ([16, 14], [16]), ([17], [17]), ([18, 17], [17, 18]), ([19, 17], [17, 19]), ([20, 17], [17, 20]), ([17, 21], [17, 21]), ([22, 17], [22]), ([23], [23]), ([24, 23], [23, 24]), ([25, 23, 23], [23, 25]), ([26], [26]), ([27, 26], [26, 27]), ([26], [26]), ([29, 26], [26, 29]), ([28, 30, 26], [26, 28, 30]), ([31, 26], [26, 31]), ([32, 26], [26, 32]), ([26], [26]), ([34, 26], [26, 34]), ([33, 35, 26, 26], [26, 33, 35]), ([36, 26], [26, 36]), ([26, 37, 23], [23, 26, 37]), ([23, 38], [23, 38])])
def spec_StreamOk.B5 : List Nat := [0, 1, 3, 7, 15, 31, 63, 31, 159, 511, 1023, 2047, 4095, 8191, 16383, 32767, 65535, 131071, 262143, 524287, 1048575, 2097151, 4194303, 8388607, 16777215, 33554431, 67108863, 134217727, 268435455, 134217727, 671088639, 2147483647, 4294967295, 8589934591, 134217727, 17314086911, 68719476735, 137438953471, 274877906943, 549755813887]
theorem spec_StreamOk.tab5 : rtab .any (opsOf Try.f16 5) = spec_StreamOk.T5 := by kernel_rfl
theorem spec_StreamOk.bits5 : waitsOk spec_StreamOk.T5.2 spec_StreamOk.B5 = true := by kernel_rfl
def spec_StreamOk.T10 : Bool × List (List Nat × List Nat) := (true, [([], []), ([], []), ([1], [1]), ([], []), ([2, 3], [2, 3]), ([4], [4]), ([0, 5], [0, 5]), ([6], [6]), ([7, 6], [7]), ([8], [8]), ([9, 8], [8, 9]), ([10, 8, 8], [8, 10]), ([11], [11]), ([12, 11], [11, 12]), ([11], [11]), ([14, 11], [11, 14]), ([13, 15, 11], [11, 13, 15]), ([16, 11], [11, 16]), ([17, 11], [11, 17]), ([11], [11]), ([19, 11], [11, 19]), ([11], [11]), ([20, 21, 11], [11, 20, 21]), ([22, 11], [11, 22]), ([23, 11], [11, 23]), ([18, 24, 11], [11, 18, 24]), ([11, 25, 8], [8, 11, 25]), ([8, 26], [8, 26])])
def spec_StreamOk.B10 : List Nat := [0, 0, 2, 0, 14, 30, 63, 127, 255, 511, 1023, 2047, 4095, 8191, 4095, 20479, 65535, 131071, 262143, 4095, 528383, 4095, 3674111, 7868415, 16257023, 33554431, 67108863, 134217727]
theorem spec_StreamOk.tab10 : rtab .any (opsOf Try.f16 10) = spec_StreamOk.T10 := by kernel_rfl
theorem spec_StreamOk.bits10 : waitsOk spec_StreamOk.T10.2 spec_StreamOk.B10 = true := by kernel_rfl
set_option maxHeartbeats 8000000 in
set_option maxRecDepth 100000 in
theorem spec_StreamOk.calls (k : Nat) (a0_0 : Int) (a0_1 : Int) (A0_2 : Option Addr) (c0_2 : Nat) (l0_2 : List (S66)) (A0_3 : Option Addr) (c0_3 : Nat) (l0_3 : List (S107)) (r : Bool) (w : World) (hr0_2 : Kd.C k66 w A0_2 l0_2.length l0_2) (hc0_2 : l0_2.length ≤ c0_2) (hr0_3 : Kd.C k107 w A0_3 l0_3.length l0_3) (hc0_3 : l0_3.length ≤ c0_3) (h : spec_StreamOk.f k a0_0 a0_1 l0_2 l0_3 = some r) :
  Calls Try.prog 16 #[.agg #[.int .i64 a0_0, .int .i64 a0_1, .slice A0_2 l0_2.length c0_2, .slice A0_3 l0_3.length c0_3]] w fun e w' => e = .returned (.bool r) ∧ Below w.heap.size w w' := by
 have hu34 := Try.underlying34
 have hu66 := Try.underlying66
 have hu30 := Try.underlying30
 have hu107 := Try.underlying107
 have HR0_2 := Aside0.mk hr0_2
 have HC0_2 := Aside0.mk hc0_2
 clear hr0_2 hc0_2
 have HR0_3 := Aside0.mk hr0_3
 have HC0_3 := Aside0.mk hc0_3
 clear hr0_3 hc0_3
 have HB := Aside0.mk (Below.refl w.heap.size w)
 have H : (spec_StreamOk.l0 k 0 a0_0 a0_1 l0_2 l0_3) = some r := h
 clear h
 have H' := Aside0.mk H
 clear H
 go_enter Try.func16, Try.ntmps16
 go_wp2_with (first | ((with_reducible refine gate_dst (N := 1) rfl ?_); (try (refine gate_guard (by rfl) ?_; dsimp only)); refine box_event ?hg (N := 1) ?hd (cs := #[.int .i64 a0_0, .int .i64 a0_1, .slice A0_2 l0_2.length c0_2, .slice A0_3 l0_3.length c0_3]) (t := 34) ?hr ?_; (case hd => rfl); (case hg => rfl); (case hr => first | (go_simp; done) | (go_simp; rfl)); intro gb142 hg w2 hbox hb; have n0_ := Aside0.mk (below_step (by repeat (first | (with_reducible first | exact HB.out | apply below_alloc | apply pw_below_drewN | apply below_drew1) | exact HB.out)) hb); have n1_ := Aside0.mk (hbox); have n2_ := Aside0.mk ((by rw [hg]; exact (below_size (by repeat (first | (with_reducible first | exact HB.out | apply below_alloc | apply pw_below_drewN | apply below_drew1) | exact HB.out))) : w.heap.size ≤ gb142)); have n3_ := Aside0.mk ((by rw [hg]; exact (below_size (by repeat (first | (with_reducible first | exact HB.out | apply below_alloc | apply pw_below_drewN | apply below_drew1) | exact HB.out))) : w.heap.size ≤ gb142)); clear HB; have HB := n0_; have BK142 := n1_; have GW142 := n2_; have GE142 := n3_; clear n0_ n1_ n2_ n3_; clear hb hbox hg))
 go_loopg [3] k (fun kq v3 w' => ∃ (x3_1 : Int), v3 = .int .i64 x3_1 ∧ Aside0 (spec_StreamOk.l0 kq x3_1 a0_0 a0_1 l0_2 l0_3 = some r) ∧ Aside0 (kq ≤ k) ∧ Aside0 (w'.heap[gb142]? = some (.cells #[.int .i64 a0_0, .int .i64 a0_1, (.slice A0_2 l0_2.length c0_2), (.slice A0_3 l0_3.length c0_3)] 34 (0, 0))) ∧ Aside0 (Below w.heap.size w w'))
 case atStart => exact ⟨(0), (by first | rfl | (simp; done) | (simp [*]; done)), H', ⟨Nat.le_refl _⟩, ⟨by (with_reducible repeat (first | refine blk_drewN ?_ _ | refine blk_drew ?_ | refine blk_alloc ?_ _)); exact BK142.out⟩, ⟨by repeat (first | (with_reducible first | exact HB.out | apply below_alloc | apply pw_below_drewN | apply below_drew1 | refine below_set ?_ GE142.out) | exact HB.out)⟩⟩
 case round =>
  clear H'
  try clear c1
  try clear p2
  obtain ⟨x3_1, rfl, HA, HK1, BK142, HB⟩ := hrel
  cases gk with
  | zero => exact absurd HA.out (by simp [spec_StreamOk.l0])
  | succ k1 =>
   have H := HA.out
   clear HA
   simp only [spec_StreamOk.l0] at H
   have HC3 := Aside0.mk H
   clear H
   have hcz4_0 : wr.cell? ⟨gb142, 0, none⟩ = some (.int .i64 a0_0) := (blk_cell BK142.out 0).trans rfl
   have hcz4_1 : wr.cell? ⟨gb142, 1, none⟩ = some (.int .i64 a0_1) := (blk_cell BK142.out 1).trans rfl
   have hcz4_2 : wr.cell? ⟨gb142, 2, none⟩ = some (.slice A0_2 l0_2.length c0_2) := (blk_cell BK142.out 2).trans rfl
   have hcz4_3 : wr.cell? ⟨gb142, 3, none⟩ = some (.slice A0_3 l0_3.length c0_3) := (blk_cell BK142.out 3).trans rfl
   have hfz4_0 := blk_frozen BK142.out 0
   have hfz4_1 := blk_frozen BK142.out 1
   have hfz4_2 := blk_frozen BK142.out 2
   have hfz4_3 := blk_frozen BK142.out 3
   go_upto_if 10 with (fail)
   have H := HC3.out
   clear HC3
   by_cases c5 : x3_1 < (l0_2.length : Int)
   ·rw [if_pos c5] at H
    have c5b0 : decide (x3_1 < (l0_2.length : Int)) = true := decide_eq_true c5
    clear c5
    (first | rw [c5b0] | rw [c5b1] | (simp only [i64_w, i32_w]; rw [c5b0]) | rw [c5b2] | skip)
    by_cases c6 : 0 ≤ x3_1
    ·rw [if_pos c6] at H
     have c6b0 : decide (0 ≤ x3_1) = true := decide_eq_true c6
     clear c6
     have HC7 := Aside0.mk H
     clear H
     have hcz8_0 : wr.cell? ⟨gb142, 0, none⟩ = some (.int .i64 a0_0) := (blk_cell BK142.out 0).trans rfl
     have hcz8_1 : wr.cell? ⟨gb142, 1, none⟩ = some (.int .i64 a0_1) := (blk_cell BK142.out 1).trans rfl
     have hcz8_2 : wr.cell? ⟨gb142, 2, none⟩ = some (.slice A0_2 l0_2.length c0_2) := (blk_cell BK142.out 2).trans rfl
     have hcz8_3 : wr.cell? ⟨gb142, 3, none⟩ = some (.slice A0_3 l0_3.length c0_3) := (blk_cell BK142.out 3).trans rfl
     have hfz8_0 := blk_frozen BK142.out 0
     have hfz8_1 := blk_frozen BK142.out 1
     have hfz8_2 := blk_frozen BK142.out 2
     have hfz8_3 := blk_frozen BK142.out 3
     have p143 := od (0 ≤ (x3_1 : Int))
     have q143 := od (x3_1 < (l0_2.length : Int))
     obtain ⟨ad143, A143_2, c143_2, e143, hx143_0, hx143_1, hx143_2, hl143_2, hi143_2⟩ := at_T66 HR0_2.out x3_1 p143 q143
     cases e143
     replace hx143_0 := (HB.out.cell (World.block_lt_of_cell? w _ hx143_0)).trans hx143_0
     replace hx143_1 := (HB.out.cell (World.block_lt_of_cell? w _ hx143_1)).trans hx143_1
     replace hx143_2 := (HB.out.cell (World.block_lt_of_cell? w _ hx143_2)).trans hx143_2
     have HR143_2 := Aside0.mk hi143_2
     have HC143_2 := Aside0.mk hl143_2
     clear hi143_2 hl143_2
     replace p143 := eq_true p143
     replace q143 := eq_true q143
     go_upto_region 5 with (first | ((with_reducible refine gate_dst (N := 4) rfl ?_); (try (refine gate_guard (by rfl) ?_; dsimp only)); refine box_event ?hg (N := 4) ?hd (cs := #[.int .i64 0, .int .i64 0, .slice none 0 0]) (t := 66) ?hr ?_; (case hd => rfl); (case hg => rfl); (case hr => first | (go_simp; done) | (go_simp; rfl)); intro gb144 hg w9 hbox hb; have n0_ := Aside0.mk (blk_below (g := gb142) (o := .cells #[.int .i64 a0_0, .int .i64 a0_1, .slice (some ad143) l0_2.length c0_2, .slice A0_3 l0_3.length c0_3] 34 (0, 0)) (by (with_reducible repeat (first | refine blk_drewN ?_ _ | refine blk_drew ?_ | refine blk_alloc ?_ _)); exact BK142.out) hb); have n1_ := Aside0.mk (below_step (by repeat (first | (with_reducible first | exact HB.out | apply below_alloc | apply pw_below_drewN | apply below_drew1 | refine below_set ?_ GE142.out) | exact HB.out)) hb); have n2_ := Aside0.mk (hbox); have n3_ := Aside0.mk ((by rw [hg]; exact (below_size (by repeat (first | (with_reducible first | exact HB.out | apply below_alloc | apply pw_below_drewN | apply below_drew1 | refine below_set ?_ GE142.out) | exact HB.out))) : w.heap.size ≤ gb144)); have n4_ := Aside0.mk ((by rw [hg]; exact (below_size (by repeat (first | (with_reducible first | exact HB.out | apply below_alloc | apply pw_below_drewN | apply below_drew1 | refine below_set ?_ GE142.out) | exact HB.out))) : w.heap.size ≤ gb144)); have n5_ := Aside0.mk ((by rw [hg]; exact Nat.ne_of_lt (blk_lt (g := gb142) (o := .cells #[.int .i64 a0_0, .int .i64 a0_1, .slice (some ad143) l0_2.length c0_2, .slice A0_3 l0_3.length c0_3] 34 (0, 0)) (by (with_reducible repeat (first | refine blk_drewN ?_ _ | refine blk_drew ?_ | refine blk_alloc ?_ _)); exact BK142.out)) : gb142 ≠ gb144)); have n6_ := Aside0.mk ((by rw [hg]; exact Nat.ne_of_gt (blk_lt (g := gb142) (o := .cells #[.int .i64 a0_0, .int .i64 a0_1, .slice (some ad143) l0_2.length c0_2, .slice A0_3 l0_3.length c0_3] 34 (0, 0)) (by (with_reducible repeat (first | refine blk_drewN ?_ _ | refine blk_drew ?_ | refine blk_alloc ?_ _)); exact BK142.out)) : gb144 ≠ gb142)); clear BK142; clear HB; have BK142 := n0_; have HB := n1_; have BK144 := n2_; have GW144 := n3_; have GE144 := n4_; have NB142_144 := n5_; have NB144_142 := n6_; clear n0_ n1_ n2_ n3_ n4_ n5_ n6_; clear hb hbox hg; have hnb10 := NB144_142.out; have hnc10 := NB142_144.out; have hcz11_0 : w9.cell? ⟨gb144, 0, none⟩ = some (.int .i64 0) := (blk_cell BK144.out 0).trans rfl; have hcz11_1 : w9.cell? ⟨gb144, 1, none⟩ = some (.int .i64 0) := (blk_cell BK144.out 1).trans rfl; have hcz11_2 : w9.cell? ⟨gb144, 2, none⟩ = some (.slice none 0 0) := (blk_cell BK144.out 2).trans rfl; have hfz11_0 := blk_frozen BK144.out 0; have hfz11_1 := blk_frozen BK144.out 1; have hfz11_2 := blk_frozen BK144.out 2))
     (try simp only [Act.put, List.setIfInBounds_toArray, List.set_cons_zero, List.set_cons_succ])
     go_cut [57] (fun v57 wc => ∃ (kq : Nat) (x57_6 : Bool), v57 = .bool x57_6 ∧ Aside0 (spec_StreamOk.j1 kq x3_1 x57_6 a0_0 a0_1 l0_2 l0_3 = some r) ∧ Aside0 (kq ≤ k1) ∧ Aside0 (wc.heap[gb142]? = some (.cells #[.int .i64 a0_0, .int .i64 a0_1, (.slice (some ad143) l0_2.length c0_2), (.slice A0_3 l0_3.length c0_3)] 34 (0, 0))) ∧ Aside0 (wc.heap[gb144]? = some (.cells #[.int .i64 ((rd_T66 l0_2 x3_1).f0.f0), .int .i64 ((rd_T66 l0_2 x3_1).f0.f1), (.slice A143_2 ((rd_T66 l0_2 x3_1).f1).length c143_2)] 66 (0, 0))) ∧ Aside0 (Below w.heap.size w wc))
     case first =>
      have H := HC7.out
      clear HC7
      replace H := Option.bind_eq_some_iff.mp H
      obtain ⟨t145, A120, H⟩ := H
      replace H : (if t145 = true then ((spec_IdLess.f a0_0 a0_1 ((rd_T66 l0_2 x3_1).f0.f0) ((rd_T66 l0_2 x3_1).f0.f1)).bind fun t146 => (if t146 = true then (spec_StreamOk.j1 k1 x3_1 true a0_0 a0_1 l0_2 l0_3) else ((spec_FieldsOk.f k1 ((rd_T66 l0_2 x3_1).f1)).bind fun t147 => (if t147 = true then (if (((rd_T66 l0_2 x3_1).f1).length : Int) = 0 then (spec_StreamOk.j1 k1 x3_1 true a0_0 a0_1 l0_2 l0_3) else (if x3_1 > 0 then (if 0 ≤ (wrap64 (x3_1 - 1)) then (if (wrap64 (x3_1 - 1)) < (l0_2.length : Int) then ((spec_IdLess.f ((rd_T66 l0_2 (wrap64 (x3_1 - 1))).f0.f0) ((rd_T66 l0_2 (wrap64 (x3_1 - 1))).f0.f1) ((rd_T66 l0_2 x3_1).f0.f0) ((rd_T66 l0_2 x3_1).f0.f1)).bind fun t149 => (spec_StreamOk.j1 k1 x3_1 (!t149) a0_0 a0_1 l0_2 l0_3)) else (none)) else (none)) else (spec_StreamOk.j1 k1 x3_1 false a0_0 a0_1 l0_2 l0_3))) else (spec_StreamOk.j1 k1 x3_1 true a0_0 a0_1 l0_2 l0_3))))) else (spec_StreamOk.j1 k1 x3_1 true a0_0 a0_1 l0_2 l0_3)) = some r := H
      have A12 := Aside0.mk A120
      clear A120
      by_cases c13 : t145 = true
      ·subst c13
       have H1 : ((spec_IdLess.f a0_0 a0_1 ((rd_T66 l0_2 x3_1).f0.f0) ((rd_T66 l0_2 x3_1).f0.f1)).bind fun t146 => (if t146 = true then (spec_StreamOk.j1 k1 x3_1 true a0_0 a0_1 l0_2 l0_3) else ((spec_FieldsOk.f k1 ((rd_T66 l0_2 x3_1).f1)).bind fun t147 => (if t147 = true then (if (((rd_T66 l0_2 x3_1).f1).length : Int) = 0 then (spec_StreamOk.j1 k1 x3_1 true a0_0 a0_1 l0_2 l0_3) else (if x3_1 > 0 then (if 0 ≤ (wrap64 (x3_1 - 1)) then (if (wrap64 (x3_1 - 1)) < (l0_2.length : Int) then ((spec_IdLess.f ((rd_T66 l0_2 (wrap64 (x3_1 - 1))).f0.f0) ((rd_T66 l0_2 (wrap64 (x3_1 - 1))).f0.f1) ((rd_T66 l0_2 x3_1).f0.f0) ((rd_T66 l0_2 x3_1).f0.f1)).bind fun t149 => (spec_StreamOk.j1 k1 x3_1 (!t149) a0_0 a0_1 l0_2 l0_3)) else (none)) else (none)) else (spec_StreamOk.j1 k1 x3_1 false a0_0 a0_1 l0_2 l0_3))) else (spec_StreamOk.j1 k1 x3_1 true a0_0 a0_1 l0_2 l0_3))))) = some r := by rw [if_pos rfl] at H; exact H
       clear H
       have H := H1
       clear H1
       replace H := Option.bind_eq_some_iff.mp H
       obtain ⟨t146, A140, H⟩ := H
       replace H : (if t146 = true then (spec_StreamOk.j1 k1 x3_1 true a0_0 a0_1 l0_2 l0_3) else ((spec_FieldsOk.f k1 ((rd_T66 l0_2 x3_1).f1)).bind fun t147 => (if t147 = true then (if (((rd_T66 l0_2 x3_1).f1).length : Int) = 0 then (spec_StreamOk.j1 k1 x3_1 true a0_0 a0_1 l0_2 l0_3) else (if x3_1 > 0 then (if 0 ≤ (wrap64 (x3_1 - 1)) then (if (wrap64 (x3_1 - 1)) < (l0_2.length : Int) then ((spec_IdLess.f ((rd_T66 l0_2 (wrap64 (x3_1 - 1))).f0.f0) ((rd_T66 l0_2 (wrap64 (x3_1 - 1))).f0.f1) ((rd_T66 l0_2 x3_1).f0.f0) ((rd_T66 l0_2 x3_1).f0.f1)).bind fun t149 => (spec_StreamOk.j1 k1 x3_1 (!t149) a0_0 a0_1 l0_2 l0_3)) else (none)) else (none)) else (spec_StreamOk.j1 k1 x3_1 false a0_0 a0_1 l0_2 l0_3))) else (spec_StreamOk.j1 k1 x3_1 true a0_0 a0_1 l0_2 l0_3)))) = some r := H
       have A14 := Aside0.mk A140
       clear A140
       by_cases c15 : t146 = true
       ·subst c15
        have H1 : (spec_StreamOk.j1 k1 x3_1 true a0_0 a0_1 l0_2 l0_3) = some r := by rw [if_pos rfl] at H; exact H
        clear H
        have H := H1
        clear H1
        have H' := Aside0.mk H
        clear H
        try go_wp2
        have n0_ : Aside0 ((((w9.setCell ⟨gb144, 0, none⟩ (.int .i64 ((rd_T66 l0_2 x3_1).f0.f0))).setCell ⟨gb144, 1, none⟩ (.int .i64 ((rd_T66 l0_2 x3_1).f0.f1))).setCell ⟨gb144, 2, none⟩ (.slice A143_2 ((rd_T66 l0_2 x3_1).f1).length c143_2)).heap[gb142]? = some (.cells #[.int .i64 a0_0, .int .i64 a0_1, .slice (some ad143) l0_2.length c0_2, .slice A0_3 l0_3.length c0_3] 34 (0, 0))) := ⟨by (with_reducible repeat (first | refine blk_drewN ?_ _ | refine blk_drew ?_ | refine blk_alloc ?_ _)); refine blk_far ?_ NB142_144.out _; (with_reducible repeat (first | refine blk_drewN ?_ _ | refine blk_drew ?_ | refine blk_alloc ?_ _)); refine blk_far ?_ NB142_144.out _; (with_reducible repeat (first | refine blk_drewN ?_ _ | refine blk_drew ?_ | refine blk_alloc ?_ _)); refine blk_far ?_ NB142_144.out _; (with_reducible repeat (first | refine blk_drewN ?_ _ | refine blk_drew ?_ | refine blk_alloc ?_ _)); exact BK142.out⟩
        have n1_ : Aside0 ((((w9.setCell ⟨gb144, 0, none⟩ (.int .i64 ((rd_T66 l0_2 x3_1).f0.f0))).setCell ⟨gb144, 1, none⟩ (.int .i64 ((rd_T66 l0_2 x3_1).f0.f1))).setCell ⟨gb144, 2, none⟩ (.slice A143_2 ((rd_T66 l0_2 x3_1).f1).length c143_2)).heap[gb144]? = some (.cells #[.int .i64 ((rd_T66 l0_2 x3_1).f0.f0), .int .i64 ((rd_T66 l0_2 x3_1).f0.f1), .slice A143_2 ((rd_T66 l0_2 x3_1).f1).length c143_2] 66 (0, 0))) := ⟨by (with_reducible repeat (first | refine blk_drewN ?_ _ | refine blk_drew ?_ | refine blk_alloc ?_ _)); refine blk_put (cs := #[.int .i64 ((rd_T66 l0_2 x3_1).f0.f0), .int .i64 ((rd_T66 l0_2 x3_1).f0.f1), .slice none 0 0]) ?_ 2 _ rfl; (with_reducible repeat (first | refine blk_drewN ?_ _ | refine blk_drew ?_ | refine blk_alloc ?_ _)); refine blk_put (cs := #[.int .i64 ((rd_T66 l0_2 x3_1).f0.f0), .int .i64 0, .slice none 0 0]) ?_ 1 _ rfl; (with_reducible repeat (first | refine blk_drewN ?_ _ | refine blk_drew ?_ | refine blk_alloc ?_ _)); refine blk_put (cs := #[.int .i64 0, .int .i64 0, .slice none 0 0]) ?_ 0 _ rfl; (with_reducible repeat (first | refine blk_drewN ?_ _ | refine blk_drew ?_ | refine blk_alloc ?_ _)); exact BK144.out⟩
        have n2_ : Aside0 (Below w.heap.size w (((w9.setCell ⟨gb144, 0, none⟩ (.int .i64 ((rd_T66 l0_2 x3_1).f0.f0))).setCell ⟨gb144, 1, none⟩ (.int .i64 ((rd_T66 l0_2 x3_1).f0.f1))).setCell ⟨gb144, 2, none⟩ (.slice A143_2 ((rd_T66 l0_2 x3_1).f1).length c143_2))) := ⟨by repeat (first | (with_reducible first | exact HB.out | apply below_alloc | apply pw_below_drewN | apply below_drew1 | refine below_set ?_ GE142.out | refine below_set ?_ GE144.out) | exact HB.out)⟩
        (try clear BK142)
        (try clear BK144)
        (try clear HB)
        generalize (((w9.setCell ⟨gb144, 0, none⟩ (.int .i64 ((rd_T66 l0_2 x3_1).f0.f0))).setCell ⟨gb144, 1, none⟩ (.int .i64 ((rd_T66 l0_2 x3_1).f0.f1))).setCell ⟨gb144, 2, none⟩ (.slice A143_2 ((rd_T66 l0_2 x3_1).f1).length c143_2)) = w16 at n0_ n1_ n2_ ⊢
        have BK142 := n0_
        have BK144 := n1_
        have HB := n2_
        clear n0_ n1_ n2_
        replace BK142 := Aside0.mk (blk_drew BK142.out)
        replace BK144 := Aside0.mk (blk_drew BK144.out)
        replace HB := Aside0.mk (below_drew1 HB.out)
        refine start_ (n := 40) (S := fun w' => w'.cell? ⟨gb144, 0, none⟩ = some (.int .i64 ((rd_T66 l0_2 x3_1).f0.f0)) ∧ w'.cell? ⟨gb144, 1, none⟩ = some (.int .i64 ((rd_T66 l0_2 x3_1).f0.f1)) ∧ w'.cell? ⟨gb144, 2, none⟩ = some (.slice A143_2 ((rd_T66 l0_2 x3_1).f1).length c143_2) ∧ w'.cell? ⟨gb142, 0, none⟩ = some (.int .i64 a0_0) ∧ w'.cell? ⟨gb142, 1, none⟩ = some (.int .i64 a0_1) ∧ w'.cell? ⟨gb142, 2, none⟩ = some (.slice (some ad143) l0_2.length c0_2) ∧ w'.cell? ⟨gb142, 3, none⟩ = some (.slice A0_3 l0_3.length c0_3)) (ds := []) _ (by kernel_rfl) rfl rfl ⟨(blk_cell BK144.out 0).trans rfl, (blk_cell BK144.out 1).trans rfl, (blk_cell BK144.out 2).trans rfl, (blk_cell BK142.out 0).trans rfl, (blk_cell BK142.out 1).trans rfl, (blk_cell BK142.out 2).trans rfl, (blk_cell BK142.out 3).trans rfl⟩ (fun hHeld => ?_); refine with_tabW spec_StreamOk.tab5 spec_StreamOk.bits5 (fun HT_ HW_ => ?_)
        generalize w16.drew = w17 at BK142 BK144 HB hHeld ⊢
        refine pu 0 18 ?_; refine tk 1 19 ?_
        refine on 2 (some 20) (fun K hK => ?_)
        refine ca Try.func68 (spec_l9Id.calls ((rd_T66 l0_2 x3_1).f0.f0) ((rd_T66 l0_2 x3_1).f0.f1) true _ A12.out) ?_
        rintro e w18 ⟨rfl, hb⟩
        refine ⟨_, rfl, ?_⟩
        replace BK142 := Aside0.mk (blk_below (g := gb142) (o := .cells #[.int .i64 a0_0, .int .i64 a0_1, .slice (some ad143) l0_2.length c0_2, .slice A0_3 l0_3.length c0_3] 34 (0, 0)) (by (with_reducible repeat (first | refine blk_drewN ?_ _ | refine blk_drew ?_ | refine blk_alloc ?_ _)); exact BK142.out) hb)
        replace BK144 := Aside0.mk (blk_below (g := gb144) (o := .cells #[.int .i64 ((rd_T66 l0_2 x3_1).f0.f0), .int .i64 ((rd_T66 l0_2 x3_1).f0.f1), .slice A143_2 ((rd_T66 l0_2 x3_1).f1).length c143_2] 66 (0, 0)) (by (with_reducible repeat (first | refine blk_drewN ?_ _ | refine blk_drew ?_ | refine blk_alloc ?_ _)); exact BK144.out) hb)
        replace HB := Aside0.mk (below_step (by repeat (first | (with_reducible first | exact HB.out | apply below_alloc | apply pw_below_drewN | apply below_drew1 | refine below_set ?_ GE142.out | refine below_set ?_ GE144.out) | exact HB.out)) hb)
        (try clear hb)
        (try clear hb2)
        (try clear hk)
        (try clear hi)
        refine hK.out _ _ ⟨(blk_cell BK144.out 0).trans rfl, (blk_cell BK144.out 1).trans rfl, (blk_cell BK144.out 2).trans rfl, (blk_cell BK142.out 0).trans rfl, (blk_cell BK142.out 1).trans rfl, (blk_cell BK142.out 2).trans rfl, (blk_cell BK142.out 3).trans rfl⟩ (fun hHeld => ?_)
        clear hK K
        refine nm ?_; refine pu 3 21 ?_; refine pu 4 22 ?_; refine pu 5 23 ?_; refine pu 7 25 ?_; refine tk 6 24 ?_; refine tk 8 26 ?_
        refine on 9 (some 27) (fun K hK => ?_)
        refine ca Try.func69 (spec_IdLess.calls a0_0 a0_1 ((rd_T66 l0_2 x3_1).f0.f0) ((rd_T66 l0_2 x3_1).f0.f1) true _ A14.out) ?_
        rintro e w19 ⟨rfl, hb⟩
        refine ⟨_, rfl, ?_⟩
        replace BK142 := Aside0.mk (blk_below (g := gb142) (o := .cells #[.int .i64 a0_0, .int .i64 a0_1, .slice (some ad143) l0_2.length c0_2, .slice A0_3 l0_3.length c0_3] 34 (0, 0)) (by (with_reducible repeat (first | refine blk_drewN ?_ _ | refine blk_drew ?_ | refine blk_alloc ?_ _)); exact BK142.out) hb)
        replace BK144 := Aside0.mk (blk_below (g := gb144) (o := .cells #[.int .i64 ((rd_T66 l0_2 x3_1).f0.f0), .int .i64 ((rd_T66 l0_2 x3_1).f0.f1), .slice A143_2 ((rd_T66 l0_2 x3_1).f1).length c143_2] 66 (0, 0)) (by (with_reducible repeat (first | refine blk_drewN ?_ _ | refine blk_drew ?_ | refine blk_alloc ?_ _)); exact BK144.out) hb)
        replace HB := Aside0.mk (below_step (by repeat (first | (with_reducible first | exact HB.out | apply below_alloc | apply pw_below_drewN | apply below_drew1 | refine below_set ?_ GE142.out | refine below_set ?_ GE144.out) | exact HB.out)) hb)
        (try clear hb)
        (try clear hb2)
        (try clear hk)
        (try clear hi)
        refine hK.out _ _ ⟨(blk_cell BK144.out 0).trans rfl, (blk_cell BK144.out 1).trans rfl, (blk_cell BK144.out 2).trans rfl, (blk_cell BK142.out 0).trans rfl, (blk_cell BK142.out 1).trans rfl, (blk_cell BK142.out 2).trans rfl, (blk_cell BK142.out 3).trans rfl⟩ (fun hHeld => ?_)
        clear hK K
        refine nm ?_; refine pu 10 28 ?_; refine pu 11 29 ?_; refine of 12 30 ?_; refine of 13 31 ?_; refine of 14 32 ?_; refine of 15 33 ?_; refine pu 16 34 ?_; refine pu 17 35 ?_; refine of 18 36 ?_; refine of 19 37 ?_; refine of 20 38 ?_; refine of 21 39 ?_; refine pu 22 40 ?_; refine pu 23 41 ?_; refine of 24 42 ?_; refine of 25 43 ?_; refine of 26 44 ?_; refine of 27 45 ?_; refine of 28 46 ?_; refine of 29 47 ?_; refine of 30 48 ?_; refine of 31 49 ?_; refine of 32 50 ?_; refine of 33 51 ?_; refine of 34 52 ?_; refine of 35 53 ?_; refine of 36 54 ?_; refine of 37 55 ?_; refine of 38 56 ?_; refine pu 39 57 ?_
        refine dn ?_
        try go_wp2
        go_meet
        case rel => exact ⟨_, (true), (by first | rfl | (simp; done) | (simp [*]; done)), H', ⟨by have := HK1.out; first | omega | exact Nat.le_refl _⟩, ⟨by (with_reducible repeat (first | refine blk_drewN ?_ _ | refine blk_drew ?_ | refine blk_alloc ?_ _)); exact BK142.out⟩, ⟨by (with_reducible repeat (first | refine blk_drewN ?_ _ | refine blk_drew ?_ | refine blk_alloc ?_ _)); exact BK144.out⟩, ⟨by repeat (first | (with_reducible first | exact HB.out | apply below_alloc | apply pw_below_drewN | apply below_drew1 | refine below_set ?_ GE142.out | refine below_set ?_ GE144.out) | exact HB.out)⟩⟩
       ·replace c15 := Bool.eq_false_iff.mpr c15
        subst c15
        have H1 : ((spec_FieldsOk.f k1 ((rd_T66 l0_2 x3_1).f1)).bind fun t147 => (if t147 = true then (if (((rd_T66 l0_2 x3_1).f1).length : Int) = 0 then (spec_StreamOk.j1 k1 x3_1 true a0_0 a0_1 l0_2 l0_3) else (if x3_1 > 0 then (if 0 ≤ (wrap64 (x3_1 - 1)) then (if (wrap64 (x3_1 - 1)) < (l0_2.length : Int) then ((spec_IdLess.f ((rd_T66 l0_2 (wrap64 (x3_1 - 1))).f0.f0) ((rd_T66 l0_2 (wrap64 (x3_1 - 1))).f0.f1) ((rd_T66 l0_2 x3_1).f0.f0) ((rd_T66 l0_2 x3_1).f0.f1)).bind fun t149 => (spec_StreamOk.j1 k1 x3_1 (!t149) a0_0 a0_1 l0_2 l0_3)) else (none)) else (none)) else (spec_StreamOk.j1 k1 x3_1 false a0_0 a0_1 l0_2 l0_3))) else (spec_StreamOk.j1 k1 x3_1 true a0_0 a0_1 l0_2 l0_3))) = some r := by rw [if_neg (show ¬ (false = true) by decide)] at H; exact H
        clear H
        have H := H1
        clear H1
        replace H := Option.bind_eq_some_iff.mp H
        obtain ⟨t147, A200, H⟩ := H
        replace H : (if t147 = true then (if (((rd_T66 l0_2 x3_1).f1).length : Int) = 0 then (spec_StreamOk.j1 k1 x3_1 true a0_0 a0_1 l0_2 l0_3) else (if x3_1 > 0 then (if 0 ≤ (wrap64 (x3_1 - 1)) then (if (wrap64 (x3_1 - 1)) < (l0_2.length : Int) then ((spec_IdLess.f ((rd_T66 l0_2 (wrap64 (x3_1 - 1))).f0.f0) ((rd_T66 l0_2 (wrap64 (x3_1 - 1))).f0.f1) ((rd_T66 l0_2 x3_1).f0.f0) ((rd_T66 l0_2 x3_1).f0.f1)).bind fun t149 => (spec_StreamOk.j1 k1 x3_1 (!t149) a0_0 a0_1 l0_2 l0_3)) else (none)) else (none)) else (spec_StreamOk.j1 k1 x3_1 false a0_0 a0_1 l0_2 l0_3))) else (spec_StreamOk.j1 k1 x3_1 true a0_0 a0_1 l0_2 l0_3)) = some r := H
        have A20 := Aside0.mk A200
        clear A200
        by_cases c21 : t147 = true
        ·subst c21
         have H1 : (if (((rd_T66 l0_2 x3_1).f1).length : Int) = 0 then (spec_StreamOk.j1 k1 x3_1 true a0_0 a0_1 l0_2 l0_3) else (if x3_1 > 0 then (if 0 ≤ (wrap64 (x3_1 - 1)) then (if (wrap64 (x3_1 - 1)) < (l0_2.length : Int) then ((spec_IdLess.f ((rd_T66 l0_2 (wrap64 (x3_1 - 1))).f0.f0) ((rd_T66 l0_2 (wrap64 (x3_1 - 1))).f0.f1) ((rd_T66 l0_2 x3_1).f0.f0) ((rd_T66 l0_2 x3_1).f0.f1)).bind fun t149 => (spec_StreamOk.j1 k1 x3_1 (!t149) a0_0 a0_1 l0_2 l0_3)) else (none)) else (none)) else (spec_StreamOk.j1 k1 x3_1 false a0_0 a0_1 l0_2 l0_3))) = some r := by rw [if_pos rfl] at H; exact H
         clear H
         have H := H1
         clear H1
         by_cases c22 : (((rd_T66 l0_2 x3_1).f1).length : Int) = 0
         ·rw [if_pos c22] at H
          have c22b0 : ((((rd_T66 l0_2 x3_1).f1).length : Int) == 0) = true := beq_iff_eq.mpr c22
          have c22b1 : ((((rd_T66 l0_2 x3_1).f1).length : Int) != 0) = false := bne_eq_false_iff_eq.mpr c22
          clear c22
          (first | rw [c22b0] | rw [c22b1] | (simp only [i64_w, i32_w]; rw [c22b0]) | rw [c22b2] | skip)
          have H' := Aside0.mk H
          clear H
          try go_wp2
          have n0_ : Aside0 ((((w9.setCell ⟨gb144, 0, none⟩ (.int .i64 ((rd_T66 l0_2 x3_1).f0.f0))).setCell ⟨gb144, 1, none⟩ (.int .i64 ((rd_T66 l0_2 x3_1).f0.f1))).setCell ⟨gb144, 2, none⟩ (.slice A143_2 ((rd_T66 l0_2 x3_1).f1).length c143_2)).heap[gb142]? = some (.cells #[.int .i64 a0_0, .int .i64 a0_1, .slice (some ad143) l0_2.length c0_2, .slice A0_3 l0_3.length c0_3] 34 (0, 0))) := ⟨by (with_reducible repeat (first | refine blk_drewN ?_ _ | refine blk_drew ?_ | refine blk_alloc ?_ _)); refine blk_far ?_ NB142_144.out _; (with_reducible repeat (first | refine blk_drewN ?_ _ | refine blk_drew ?_ | refine blk_alloc ?_ _)); refine blk_far ?_ NB142_144.out _; (with_reducible repeat (first | refine blk_drewN ?_ _ | refine blk_drew ?_ | refine blk_alloc ?_ _)); refine blk_far ?_ NB142_144.out _; (with_reducible repeat (first | refine blk_drewN ?_ _ | refine blk_drew ?_ | refine blk_alloc ?_ _)); exact BK142.out⟩
          have n1_ : Aside0 ((((w9.setCell ⟨gb144, 0, none⟩ (.int .i64 ((rd_T66 l0_2 x3_1).f0.f0))).setCell ⟨gb144, 1, none⟩ (.int .i64 ((rd_T66 l0_2 x3_1).f0.f1))).setCell ⟨gb144, 2, none⟩ (.slice A143_2 ((rd_T66 l0_2 x3_1).f1).length c143_2)).heap[gb144]? = some (.cells #[.int .i64 ((rd_T66 l0_2 x3_1).f0.f0), .int .i64 ((rd_T66 l0_2 x3_1).f0.f1), .slice A143_2 ((rd_T66 l0_2 x3_1).f1).length c143_2] 66 (0, 0))) := ⟨by (with_reducible repeat (first | refine blk_drewN ?_ _ | refine blk_drew ?_ | refine blk_alloc ?_ _)); refine blk_put (cs := #[.int .i64 ((rd_T66 l0_2 x3_1).f0.f0), .int .i64 ((rd_T66 l0_2 x3_1).f0.f1), .slice none 0 0]) ?_ 2 _ rfl; (with_reducible repeat (first | refine blk_drewN ?_ _ | refine blk_drew ?_ | refine blk_alloc ?_ _)); refine blk_put (cs := #[.int .i64 ((rd_T66 l0_2 x3_1).f0.f0), .int .i64 0, .slice none 0 0]) ?_ 1 _ rfl; (with_reducible repeat (first | refine blk_drewN ?_ _ | refine blk_drew ?_ | refine blk_alloc ?_ _)); refine blk_put (cs := #[.int .i64 0, .int .i64 0, .slice none 0 0]) ?_ 0 _ rfl; (with_reducible repeat (first | refine blk_drewN ?_ _ | refine blk_drew ?_ | refine blk_alloc ?_ _)); exact BK144.out⟩
          have n2_ : Aside0 (Below w.heap.size w (((w9.setCell ⟨gb144, 0, none⟩ (.int .i64 ((rd_T66 l0_2 x3_1).f0.f0))).setCell ⟨gb144, 1, none⟩ (.int .i64 ((rd_T66 l0_2 x3_1).f0.f1))).setCell ⟨gb144, 2, none⟩ (.slice A143_2 ((rd_T66 l0_2 x3_1).f1).length c143_2))) := ⟨by repeat (first | (with_reducible first | exact HB.out | apply below_alloc | apply pw_below_drewN | apply below_drew1 | refine below_set ?_ GE142.out | refine below_set ?_ GE144.out) | exact HB.out)⟩
          (try clear BK142)
          (try clear BK144)
          (try clear HB)
          generalize (((w9.setCell ⟨gb144, 0, none⟩ (.int .i64 ((rd_T66 l0_2 x3_1).f0.f0))).setCell ⟨gb144, 1, none⟩ (.int .i64 ((rd_T66 l0_2 x3_1).f0.f1))).setCell ⟨gb144, 2, none⟩ (.slice A143_2 ((rd_T66 l0_2 x3_1).f1).length c143_2)) = w23 at n0_ n1_ n2_ ⊢
          have BK142 := n0_
          have BK144 := n1_
          have HB := n2_
          clear n0_ n1_ n2_
          replace BK142 := Aside0.mk (blk_drew BK142.out)
          replace BK144 := Aside0.mk (blk_drew BK144.out)
          replace HB := Aside0.mk (below_drew1 HB.out)
          refine start_ (n := 40) (S := fun w' => w'.cell? ⟨gb144, 0, none⟩ = some (.int .i64 ((rd_T66 l0_2 x3_1).f0.f0)) ∧ w'.cell? ⟨gb144, 1, none⟩ = some (.int .i64 ((rd_T66 l0_2 x3_1).f0.f1)) ∧ w'.cell? ⟨gb144, 2, none⟩ = some (.slice A143_2 ((rd_T66 l0_2 x3_1).f1).length c143_2) ∧ w'.cell? ⟨gb142, 0, none⟩ = some (.int .i64 a0_0) ∧ w'.cell? ⟨gb142, 1, none⟩ = some (.int .i64 a0_1) ∧ w'.cell? ⟨gb142, 2, none⟩ = some (.slice (some ad143) l0_2.length c0_2) ∧ w'.cell? ⟨gb142, 3, none⟩ = some (.slice A0_3 l0_3.length c0_3)) (ds := []) _ (by kernel_rfl) rfl rfl ⟨(blk_cell BK144.out 0).trans rfl, (blk_cell BK144.out 1).trans rfl, (blk_cell BK144.out 2).trans rfl, (blk_cell BK142.out 0).trans rfl, (blk_cell BK142.out 1).trans rfl, (blk_cell BK142.out 2).trans rfl, (blk_cell BK142.out 3).trans rfl⟩ (fun hHeld => ?_); refine with_tabW spec_StreamOk.tab5 spec_StreamOk.bits5 (fun HT_ HW_ => ?_)
          generalize w23.drew = w24 at BK142 BK144 HB hHeld ⊢
          refine pu 0 18 ?_; refine tk 1 19 ?_
          refine on 2 (some 20) (fun K hK => ?_)
          refine ca Try.func68 (spec_l9Id.calls ((rd_T66 l0_2 x3_1).f0.f0) ((rd_T66 l0_2 x3_1).f0.f1) true _ A12.out) ?_
          rintro e w25 ⟨rfl, hb⟩
          refine ⟨_, rfl, ?_⟩
          replace BK142 := Aside0.mk (blk_below (g := gb142) (o := .cells #[.int .i64 a0_0, .int .i64 a0_1, .slice (some ad143) l0_2.length c0_2, .slice A0_3 l0_3.length c0_3] 34 (0, 0)) (by (with_reducible repeat (first | refine blk_drewN ?_ _ | refine blk_drew ?_ | refine blk_alloc ?_ _)); exact BK142.out) hb)
          replace BK144 := Aside0.mk (blk_below (g := gb144) (o := .cells #[.int .i64 ((rd_T66 l0_2 x3_1).f0.f0), .int .i64 ((rd_T66 l0_2 x3_1).f0.f1), .slice A143_2 ((rd_T66 l0_2 x3_1).f1).length c143_2] 66 (0, 0)) (by (with_reducible repeat (first | refine blk_drewN ?_ _ | refine blk_drew ?_ | refine blk_alloc ?_ _)); exact BK144.out) hb)
          replace HB := Aside0.mk (below_step (by repeat (first | (with_reducible first | exact HB.out | apply below_alloc | apply pw_below_drewN | apply below_drew1 | refine below_set ?_ GE142.out | refine below_set ?_ GE144.out) | exact HB.out)) hb)
          (try clear hb)
          (try clear hb2)
          (try clear hk)
          (try clear hi)
          refine hK.out _ _ ⟨(blk_cell BK144.out 0).trans rfl, (blk_cell BK144.out 1).trans rfl, (blk_cell BK144.out 2).trans rfl, (blk_cell BK142.out 0).trans rfl, (blk_cell BK142.out 1).trans rfl, (blk_cell BK142.out 2).trans rfl, (blk_cell BK142.out 3).trans rfl⟩ (fun hHeld => ?_)
          clear hK K
          refine nm ?_; refine pu 3 21 ?_; refine pu 4 22 ?_; refine pu 5 23 ?_; refine pu 7 25 ?_; refine tk 6 24 ?_; refine tk 8 26 ?_
          refine on 9 (some 27) (fun K hK => ?_)
          refine ca Try.func69 (spec_IdLess.calls a0_0 a0_1 ((rd_T66 l0_2 x3_1).f0.f0) ((rd_T66 l0_2 x3_1).f0.f1) false _ A14.out) ?_
          rintro e w26 ⟨rfl, hb⟩
          refine ⟨_, rfl, ?_⟩
          replace BK142 := Aside0.mk (blk_below (g := gb142) (o := .cells #[.int .i64 a0_0, .int .i64 a0_1, .slice (some ad143) l0_2.length c0_2, .slice A0_3 l0_3.length c0_3] 34 (0, 0)) (by (with_reducible repeat (first | refine blk_drewN ?_ _ | refine blk_drew ?_ | refine blk_alloc ?_ _)); exact BK142.out) hb)
          replace BK144 := Aside0.mk (blk_below (g := gb144) (o := .cells #[.int .i64 ((rd_T66 l0_2 x3_1).f0.f0), .int .i64 ((rd_T66 l0_2 x3_1).f0.f1), .slice A143_2 ((rd_T66 l0_2 x3_1).f1).length c143_2] 66 (0, 0)) (by (with_reducible repeat (first | refine blk_drewN ?_ _ | refine blk_drew ?_ | refine blk_alloc ?_ _)); exact BK144.out) hb)
          replace HB := Aside0.mk (below_step (by repeat (first | (with_reducible first | exact HB.out | apply below_alloc | apply pw_below_drewN | apply below_drew1 | refine below_set ?_ GE142.out | refine below_set ?_ GE144.out) | exact HB.out)) hb)
          (try clear hb)
          (try clear hb2)
          (try clear hk)
          (try clear hi)
          refine hK.out _ _ ⟨(blk_cell BK144.out 0).trans rfl, (blk_cell BK144.out 1).trans rfl, (blk_cell BK144.out 2).trans rfl, (blk_cell BK142.out 0).trans rfl, (blk_cell BK142.out 1).trans rfl, (blk_cell BK142.out 2).trans rfl, (blk_cell BK142.out 3).trans rfl⟩ (fun hHeld => ?_)
          clear hK K
          refine nm ?_; refine pu 10 28 ?_; refine pu 11 29 ?_; refine pu 12 30 ?_; refine tk 13 31 ?_
          refine on 14 (some 32) (fun K hK => ?_)
          refine ca Try.func70 (spec_FieldsOk.calls k1 _ _ ((rd_T66 l0_2 x3_1).f1) true _ ?side1 ?side2 A20.out) ?_
          (case side1 => repeat (first | exact (Kd.C_below HR143_2.out HB.out) | (with_reducible refine Kd.C_alloc ?_ _) | (with_reducible refine Kd.C_drewN ?_ _) | (with_reducible refine Kd.C_drew ?_)))
          (case side2 => exact HC143_2.out)
          rintro e w' ⟨rfl, ⟨nd, rfl⟩⟩
          refine ⟨_, rfl, ?_⟩
          refine hK.out _ _ ⟨(blk_cell BK144.out 0).trans rfl, (blk_cell BK144.out 1).trans rfl, (blk_cell BK144.out 2).trans rfl, (blk_cell BK142.out 0).trans rfl, (blk_cell BK142.out 1).trans rfl, (blk_cell BK142.out 2).trans rfl, (blk_cell BK142.out 3).trans rfl⟩ (fun hHeld => ?_)
          clear hK K
          refine nm ?_; refine pu 15 33 ?_; refine pu 16 34 ?_; refine pu 17 35 ?_; refine pu 18 36 ?_; refine tk 19 37 ?_; refine pu 20 38 ?_; refine pu 21 39 ?_; refine pu 22 40 ?_; refine pu 23 41 ?_; refine of 24 42 ?_; refine of 25 43 ?_; refine of 26 44 ?_; refine of 27 45 ?_; refine of 28 46 ?_; refine of 29 47 ?_; refine of 30 48 ?_; refine of 31 49 ?_; refine of 32 50 ?_; refine of 33 51 ?_; refine of 34 52 ?_; refine of 35 53 ?_; refine of 36 54 ?_; refine of 37 55 ?_; refine of 38 56 ?_; refine pu 39 57 ?_
          refine dn ?_
          try go_wp2
          go_meet
          case rel => exact ⟨_, (true), (by first | rfl | (simp; done) | (simp [*]; done)), H', ⟨by have := HK1.out; first | omega | exact Nat.le_refl _⟩, ⟨by (with_reducible repeat (first | refine blk_drewN ?_ _ | refine blk_drew ?_ | refine blk_alloc ?_ _)); exact BK142.out⟩, ⟨by (with_reducible repeat (first | refine blk_drewN ?_ _ | refine blk_drew ?_ | refine blk_alloc ?_ _)); exact BK144.out⟩, ⟨by repeat (first | (with_reducible first | exact HB.out | apply below_alloc | apply pw_below_drewN | apply below_drew1 | refine below_set ?_ GE142.out | refine below_set ?_ GE144.out) | exact HB.out)⟩⟩
         ·rw [if_neg c22] at H
          have c22b0 : ((((rd_T66 l0_2 x3_1).f1).length : Int) == 0) = false := beq_eq_false_iff_ne.mpr c22
          have c22b1 : ((((rd_T66 l0_2 x3_1).f1).length : Int) != 0) = true := bne_iff_ne.mpr c22
          have c22b2 : ¬ (((rd_T66 l0_2 x3_1).f1) = []) := fun h_ => c22 (by rw [h_]; rfl)
          (first | rw [c22b0] | rw [c22b1] | (simp only [i64_w, i32_w]; rw [c22b0]) | rw [c22b2] | skip)
          by_cases c27 : x3_1 > 0
          ·rw [if_pos c27] at H
           have c27b0 : decide (0 < x3_1) = true := decide_eq_true c27
           clear c27
           obtain ⟨ji28, hji28⟩ : ∃ j_ : Int, (wrap64 (x3_1 - 1)) = j_ := ⟨_, rfl⟩
           replace H : (if 0 ≤ (ji28) then (if (ji28) < (l0_2.length : Int) then ((spec_IdLess.f ((rd_T66 l0_2 (ji28)).f0.f0) ((rd_T66 l0_2 (ji28)).f0.f1) ((rd_T66 l0_2 x3_1).f0.f0) ((rd_T66 l0_2 x3_1).f0.f1)).bind fun t149 => (spec_StreamOk.j1 k1 x3_1 (!t149) a0_0 a0_1 l0_2 l0_3)) else (none)) else (none)) = some r := by first | (rw [hji28] at H; exact H) | (simp only [hji28] at H ⊢; exact H)
           (try rw [hji28] at A12)
           (try rw [hji28] at A14)
           (try rw [hji28] at A20)
           have hji28w : (IntKind.i64.wrap (x3_1 - 1)) = ji28 := (i64_w _).trans hji28
           by_cases c29 : 0 ≤ (ji28)
           ·rw [if_pos c29] at H
            have c29b0 : decide (0 ≤ (ji28)) = true := decide_eq_true c29
            clear c29
            by_cases c30 : (ji28) < (l0_2.length : Int)
            ·rw [if_pos c30] at H
             have c30b0 : decide ((ji28) < (l0_2.length : Int)) = true := decide_eq_true c30
             clear c30
             replace H := Option.bind_eq_some_iff.mp H
             obtain ⟨t149, A310, H⟩ := H
             replace H : (spec_StreamOk.j1 k1 x3_1 (!t149) a0_0 a0_1 l0_2 l0_3) = some r := H
             have A31 := Aside0.mk A310
             clear A310
             have H' := Aside0.mk H
             clear H
             try go_wp2
             have n0_ : Aside0 ((((w9.setCell ⟨gb144, 0, none⟩ (.int .i64 ((rd_T66 l0_2 x3_1).f0.f0))).setCell ⟨gb144, 1, none⟩ (.int .i64 ((rd_T66 l0_2 x3_1).f0.f1))).setCell ⟨gb144, 2, none⟩ (.slice A143_2 ((rd_T66 l0_2 x3_1).f1).length c143_2)).heap[gb142]? = some (.cells #[.int .i64 a0_0, .int .i64 a0_1, .slice (some ad143) l0_2.length c0_2, .slice A0_3 l0_3.length c0_3] 34 (0, 0))) := ⟨by (with_reducible repeat (first | refine blk_drewN ?_ _ | refine blk_drew ?_ | refine blk_alloc ?_ _)); refine blk_far ?_ NB142_144.out _; (with_reducible repeat (first | refine blk_drewN ?_ _ | refine blk_drew ?_ | refine blk_alloc ?_ _)); refine blk_far ?_ NB142_144.out _; (with_reducible repeat (first | refine blk_drewN ?_ _ | refine blk_drew ?_ | refine blk_alloc ?_ _)); refine blk_far ?_ NB142_144.out _; (with_reducible repeat (first | refine blk_drewN ?_ _ | refine blk_drew ?_ | refine blk_alloc ?_ _)); exact BK142.out⟩
             have n1_ : Aside0 ((((w9.setCell ⟨gb144, 0, none⟩ (.int .i64 ((rd_T66 l0_2 x3_1).f0.f0))).setCell ⟨gb144, 1, none⟩ (.int .i64 ((rd_T66 l0_2 x3_1).f0.f1))).setCell ⟨gb144, 2, none⟩ (.slice A143_2 ((rd_T66 l0_2 x3_1).f1).length c143_2)).heap[gb144]? = some (.cells #[.int .i64 ((rd_T66 l0_2 x3_1).f0.f0), .int .i64 ((rd_T66 l0_2 x3_1).f0.f1), .slice A143_2 ((rd_T66 l0_2 x3_1).f1).length c143_2] 66 (0, 0))) := ⟨by (with_reducible repeat (first | refine blk_drewN ?_ _ | refine blk_drew ?_ | refine blk_alloc ?_ _)); refine blk_put (cs := #[.int .i64 ((rd_T66 l0_2 x3_1).f0.f0), .int .i64 ((rd_T66 l0_2 x3_1).f0.f1), .slice none 0 0]) ?_ 2 _ rfl; (with_reducible repeat (first | refine blk_drewN ?_ _ | refine blk_drew ?_ | refine blk_alloc ?_ _)); refine blk_put (cs := #[.int .i64 ((rd_T66 l0_2 x3_1).f0.f0), .int .i64 0, .slice none 0 0]) ?_ 1 _ rfl; (with_reducible repeat (first | refine blk_drewN ?_ _ | refine blk_drew ?_ | refine blk_alloc ?_ _)); refine blk_put (cs := #[.int .i64 0, .int .i64 0, .slice none 0 0]) ?_ 0 _ rfl; (with_reducible repeat (first | refine blk_drewN ?_ _ | refine blk_drew ?_ | refine blk_alloc ?_ _)); exact BK144.out⟩
             have n2_ : Aside0 (Below w.heap.size w (((w9.setCell ⟨gb144, 0, none⟩ (.int .i64 ((rd_T66 l0_2 x3_1).f0.f0))).setCell ⟨gb144, 1, none⟩ (.int .i64 ((rd_T66 l0_2 x3_1).f0.f1))).setCell ⟨gb144, 2, none⟩ (.slice A143_2 ((rd_T66 l0_2 x3_1).f1).length c143_2))) := ⟨by repeat (first | (with_reducible first | exact HB.out | apply below_alloc | apply pw_below_drewN | apply below_drew1 | refine below_set ?_ GE142.out | refine below_set ?_ GE144.out) | exact HB.out)⟩
             (try clear BK142)
             (try clear BK144)
             (try clear HB)
             generalize (((w9.setCell ⟨gb144, 0, none⟩ (.int .i64 ((rd_T66 l0_2 x3_1).f0.f0))).setCell ⟨gb144, 1, none⟩ (.int .i64 ((rd_T66 l0_2 x3_1).f0.f1))).setCell ⟨gb144, 2, none⟩ (.slice A143_2 ((rd_T66 l0_2 x3_1).f1).length c143_2)) = w32 at n0_ n1_ n2_ ⊢
             have BK142 := n0_
             have BK144 := n1_
             have HB := n2_
             clear n0_ n1_ n2_
             replace BK142 := Aside0.mk (blk_drew BK142.out)
             replace BK144 := Aside0.mk (blk_drew BK144.out)
             replace HB := Aside0.mk (below_drew1 HB.out)
             have p148 := od (0 ≤ ((ji28) : Int))
             have q148 := od ((ji28) < (l0_2.length : Int))
             obtain ⟨ad148, A148_2, c148_2, e148, hx148_0, hx148_1, hx148_2, hl148_2, hi148_2⟩ := at_T66 HR0_2.out (ji28) p148 q148
             have hw148_2 := hx148_2
             have hw148_1 := hx148_1
             have hw148_0 := hx148_0
             obtain rfl : ad143 = ad148 := (by injection e148)
             replace hx148_0 := (HB.out.cell (World.block_lt_of_cell? w _ hx148_0)).trans hx148_0
             replace hx148_1 := (HB.out.cell (World.block_lt_of_cell? w _ hx148_1)).trans hx148_1
             replace hx148_2 := (HB.out.cell (World.block_lt_of_cell? w _ hx148_2)).trans hx148_2
             have HR148_2 := Aside0.mk hi148_2
             have HC148_2 := Aside0.mk hl148_2
             clear hi148_2 hl148_2
             replace p148 := eq_true p148
             replace q148 := eq_true q148
             refine start_ (n := 40) (S := fun w' => w'.cell? ⟨gb144, 0, none⟩ = some (.int .i64 ((rd_T66 l0_2 x3_1).f0.f0)) ∧ w'.cell? ⟨gb144, 1, none⟩ = some (.int .i64 ((rd_T66 l0_2 x3_1).f0.f1)) ∧ w'.cell? ⟨gb144, 2, none⟩ = some (.slice A143_2 ((rd_T66 l0_2 x3_1).f1).length c143_2) ∧ w'.cell? ⟨gb142, 0, none⟩ = some (.int .i64 a0_0) ∧ w'.cell? ⟨gb142, 1, none⟩ = some (.int .i64 a0_1) ∧ w'.cell? ⟨gb142, 2, none⟩ = some (.slice (some ad143) l0_2.length c0_2) ∧ w'.cell? ⟨gb142, 3, none⟩ = some (.slice A0_3 l0_3.length c0_3) ∧ w'.cell? (ad143.add (((ji28)).toNat * 3)) = some (.int .i64 ((rd_T66 l0_2 (ji28)).f0.f0)) ∧ w'.cell? ⟨(ad143.add (((ji28)).toNat * 3)).block, (ad143.add (((ji28)).toNat * 3)).off + 1, none⟩ = some (.int .i64 ((rd_T66 l0_2 (ji28)).f0.f1)) ∧ w'.cell? ⟨(ad143.add (((ji28)).toNat * 3)).block, (ad143.add (((ji28)).toNat * 3)).off + 2, none⟩ = some (.slice A148_2 ((rd_T66 l0_2 (ji28)).f1).length c148_2)) (ds := []) _ (by kernel_rfl) rfl rfl ⟨(blk_cell BK144.out 0).trans rfl, (blk_cell BK144.out 1).trans rfl, (blk_cell BK144.out 2).trans rfl, (blk_cell BK142.out 0).trans rfl, (blk_cell BK142.out 1).trans rfl, (blk_cell BK142.out 2).trans rfl, (blk_cell BK142.out 3).trans rfl, ((HB.out.cell (World.block_lt_of_cell? w _ hw148_0)).trans hw148_0), ((HB.out.cell (World.block_lt_of_cell? w _ hw148_1)).trans hw148_1), ((HB.out.cell (World.block_lt_of_cell? w _ hw148_2)).trans hw148_2)⟩ (fun hHeld => ?_); refine with_tabW spec_StreamOk.tab5 spec_StreamOk.bits5 (fun HT_ HW_ => ?_)
             generalize w32.drew = w33 at BK142 BK144 HB HR148_2 hx148_0 hx148_1 hx148_2 hHeld ⊢
             refine pu 0 18 ?_; refine tk 1 19 ?_
             refine on 2 (some 20) (fun K hK => ?_)
             refine ca Try.func68 (spec_l9Id.calls ((rd_T66 l0_2 x3_1).f0.f0) ((rd_T66 l0_2 x3_1).f0.f1) true _ A12.out) ?_
             rintro e w34 ⟨rfl, hb⟩
             refine ⟨_, rfl, ?_⟩
             replace BK142 := Aside0.mk (blk_below (g := gb142) (o := .cells #[.int .i64 a0_0, .int .i64 a0_1, .slice (some ad143) l0_2.length c0_2, .slice A0_3 l0_3.length c0_3] 34 (0, 0)) (by (with_reducible repeat (first | refine blk_drewN ?_ _ | refine blk_drew ?_ | refine blk_alloc ?_ _)); exact BK142.out) hb)
             replace BK144 := Aside0.mk (blk_below (g := gb144) (o := .cells #[.int .i64 ((rd_T66 l0_2 x3_1).f0.f0), .int .i64 ((rd_T66 l0_2 x3_1).f0.f1), .slice A143_2 ((rd_T66 l0_2 x3_1).f1).length c143_2] 66 (0, 0)) (by (with_reducible repeat (first | refine blk_drewN ?_ _ | refine blk_drew ?_ | refine blk_alloc ?_ _)); exact BK144.out) hb)
             replace HB := Aside0.mk (below_step (by repeat (first | (with_reducible first | exact HB.out | apply below_alloc | apply pw_below_drewN | apply below_drew1 | refine below_set ?_ GE142.out | refine below_set ?_ GE144.out) | exact HB.out)) hb)
             (try clear hb)
             (try clear hb2)
             (try clear hk)
             (try clear hi)
             refine hK.out _ _ ⟨(blk_cell BK144.out 0).trans rfl, (blk_cell BK144.out 1).trans rfl, (blk_cell BK144.out 2).trans rfl, (blk_cell BK142.out 0).trans rfl, (blk_cell BK142.out 1).trans rfl, (blk_cell BK142.out 2).trans rfl, (blk_cell BK142.out 3).trans rfl, ((HB.out.cell (World.block_lt_of_cell? w _ hw148_0)).trans hw148_0), ((HB.out.cell (World.block_lt_of_cell? w _ hw148_1)).trans hw148_1), ((HB.out.cell (World.block_lt_of_cell? w _ hw148_2)).trans hw148_2)⟩ (fun hHeld => ?_)
             clear hK K
             refine nm ?_; refine pu 3 21 ?_; refine pu 4 22 ?_; refine pu 5 23 ?_; refine pu 7 25 ?_; refine tk 6 24 ?_; refine tk 8 26 ?_
             refine on 9 (some 27) (fun K hK => ?_)
             refine ca Try.func69 (spec_IdLess.calls a0_0 a0_1 ((rd_T66 l0_2 x3_1).f0.f0) ((rd_T66 l0_2 x3_1).f0.f1) false _ A14.out) ?_
             rintro e w35 ⟨rfl, hb⟩
             refine ⟨_, rfl, ?_⟩
             replace BK142 := Aside0.mk (blk_below (g := gb142) (o := .cells #[.int .i64 a0_0, .int .i64 a0_1, .slice (some ad143) l0_2.length c0_2, .slice A0_3 l0_3.length c0_3] 34 (0, 0)) (by (with_reducible repeat (first | refine blk_drewN ?_ _ | refine blk_drew ?_ | refine blk_alloc ?_ _)); exact BK142.out) hb)
             replace BK144 := Aside0.mk (blk_below (g := gb144) (o := .cells #[.int .i64 ((rd_T66 l0_2 x3_1).f0.f0), .int .i64 ((rd_T66 l0_2 x3_1).f0.f1), .slice A143_2 ((rd_T66 l0_2 x3_1).f1).length c143_2] 66 (0, 0)) (by (with_reducible repeat (first | refine blk_drewN ?_ _ | refine blk_drew ?_ | refine blk_alloc ?_ _)); exact BK144.out) hb)
             replace HB := Aside0.mk (below_step (by repeat (first | (with_reducible first | exact HB.out | apply below_alloc | apply pw_below_drewN | apply below_drew1 | refine below_set ?_ GE142.out | refine below_set ?_ GE144.out) | exact HB.out)) hb)
             (try clear hb)
             (try clear hb2)
             (try clear hk)
             (try clear hi)
             refine hK.out _ _ ⟨(blk_cell BK144.out 0).trans rfl, (blk_cell BK144.out 1).trans rfl, (blk_cell BK144.out 2).trans rfl, (blk_cell BK142.out 0).trans rfl, (blk_cell BK142.out 1).trans rfl, (blk_cell BK142.out 2).trans rfl, (blk_cell BK142.out 3).trans rfl, ((HB.out.cell (World.block_lt_of_cell? w _ hw148_0)).trans hw148_0), ((HB.out.cell (World.block_lt_of_cell? w _ hw148_1)).trans hw148_1), ((HB.out.cell (World.block_lt_of_cell? w _ hw148_2)).trans hw148_2)⟩ (fun hHeld => ?_)
             clear hK K
             refine nm ?_; refine pu 10 28 ?_; refine pu 11 29 ?_; refine pu 12 30 ?_; refine tk 13 31 ?_
             refine on 14 (some 32) (fun K hK => ?_)
             refine ca Try.func70 (spec_FieldsOk.calls k1 _ _ ((rd_T66 l0_2 x3_1).f1) true _ ?side1 ?side2 A20.out) ?_
             (case side1 => repeat (first | exact (Kd.C_below HR143_2.out HB.out) | (with_reducible refine Kd.C_alloc ?_ _) | (with_reducible refine Kd.C_drewN ?_ _) | (with_reducible refine Kd.C_drew ?_)))
             (case side2 => exact HC143_2.out)
             rintro e w' ⟨rfl, ⟨nd, rfl⟩⟩
             refine ⟨_, rfl, ?_⟩
             refine hK.out _ _ ⟨(blk_cell BK144.out 0).trans rfl, (blk_cell BK144.out 1).trans rfl, (blk_cell BK144.out 2).trans rfl, (blk_cell BK142.out 0).trans rfl, (blk_cell BK142.out 1).trans rfl, (blk_cell BK142.out 2).trans rfl, (blk_cell BK142.out 3).trans rfl, ((HB.out.cell (World.block_lt_of_cell? w _ hw148_0)).trans hw148_0), ((HB.out.cell (World.block_lt_of_cell? w _ hw148_1)).trans hw148_1), ((HB.out.cell (World.block_lt_of_cell? w _ hw148_2)).trans hw148_2)⟩ (fun hHeld => ?_)
             clear hK K
             refine nm ?_; refine pu 15 33 ?_; refine pu 16 34 ?_; refine pu 17 35 ?_; refine pu 18 36 ?_; refine tk 19 37 ?_; refine pu 20 38 ?_; refine pu 21 39 ?_; refine pu 22 40 ?_; refine pu 23 41 ?_; refine pu 24 42 ?_; refine pu 25 43 ?_; refine pu 26 44 ?_; refine pu 27 45 ?_; refine pu 29 47 ?_; refine pu 30 48 ?_; refine pu 34 52 ?_; refine tk 28 46 ?_; refine pu 31 49 ?_; refine pu 32 50 ?_; refine tk 33 51 ?_; refine tk 35 53 ?_
             refine on 36 (some 54) (fun K hK => ?_)
             refine goes_ Try.func69 (by kernel_rfl) rfl #[.agg #[.int .i64 ((rd_T66 l0_2 (ji28)).f0.f0), .int .i64 ((rd_T66 l0_2 (ji28)).f0.f1)], .agg #[.int .i64 ((rd_T66 l0_2 x3_1).f0.f0), .int .i64 ((rd_T66 l0_2 x3_1).f0.f1)]] (by rfl) rfl rfl (by (try simp only [List.map_toArray, List.map_cons, List.map_nil]); first | done | (simp only [hji28]; rfl) | rfl | (simp only [List.length_drop, List.length_take]; rfl)) ?_
             with_reducible refine (spec_IdLess.calls ((rd_T66 l0_2 (ji28)).f0.f0) ((rd_T66 l0_2 (ji28)).f0.f1) ((rd_T66 l0_2 x3_1).f0.f0) ((rd_T66 l0_2 x3_1).f0.f1) t149 _ A31.out).mono ?_
             rintro e w36 ⟨rfl, hb⟩
             refine ⟨_, rfl, ?_⟩
             replace BK142 := Aside0.mk (blk_below (g := gb142) (o := .cells #[.int .i64 a0_0, .int .i64 a0_1, .slice (some ad143) l0_2.length c0_2, .slice A0_3 l0_3.length c0_3] 34 (0, 0)) (by (with_reducible repeat (first | refine blk_drewN ?_ _ | refine blk_drew ?_ | refine blk_alloc ?_ _)); exact BK142.out) hb)
             replace BK144 := Aside0.mk (blk_below (g := gb144) (o := .cells #[.int .i64 ((rd_T66 l0_2 x3_1).f0.f0), .int .i64 ((rd_T66 l0_2 x3_1).f0.f1), .slice A143_2 ((rd_T66 l0_2 x3_1).f1).length c143_2] 66 (0, 0)) (by (with_reducible repeat (first | refine blk_drewN ?_ _ | refine blk_drew ?_ | refine blk_alloc ?_ _)); exact BK144.out) hb)
             replace HB := Aside0.mk (below_step (by repeat (first | (with_reducible first | exact HB.out | apply below_alloc | apply pw_below_drewN | apply below_drew1 | refine below_set ?_ GE142.out | refine below_set ?_ GE144.out) | exact HB.out)) hb)
             (try clear hb)
             (try clear hb2)
             (try clear hk)
             (try clear hi)
             refine hK.out _ _ ⟨(blk_cell BK144.out 0).trans rfl, (blk_cell BK144.out 1).trans rfl, (blk_cell BK144.out 2).trans rfl, (blk_cell BK142.out 0).trans rfl, (blk_cell BK142.out 1).trans rfl, (blk_cell BK142.out 2).trans rfl, (blk_cell BK142.out 3).trans rfl, ((HB.out.cell (World.block_lt_of_cell? w _ hw148_0)).trans hw148_0), ((HB.out.cell (World.block_lt_of_cell? w _ hw148_1)).trans hw148_1), ((HB.out.cell (World.block_lt_of_cell? w _ hw148_2)).trans hw148_2)⟩ (fun hHeld => ?_)
             clear hK K
             refine nm ?_; refine pu 37 55 ?_; refine pu 38 56 ?_; refine pu 39 57 ?_
             refine dn ?_
             try go_wp2
             go_meet
             case rel => exact ⟨_, (!t149), (by first | rfl | (simp; done) | (simp [*]; done)), H', ⟨by have := HK1.out; first | omega | exact Nat.le_refl _⟩, ⟨by (with_reducible repeat (first | refine blk_drewN ?_ _ | refine blk_drew ?_ | refine blk_alloc ?_ _)); exact BK142.out⟩, ⟨by (with_reducible repeat (first | refine blk_drewN ?_ _ | refine blk_drew ?_ | refine blk_alloc ?_ _)); exact BK144.out⟩, ⟨by repeat (first | (with_reducible first | exact HB.out | apply below_alloc | apply pw_below_drewN | apply below_drew1 | refine below_set ?_ GE142.out | refine below_set ?_ GE144.out) | exact HB.out)⟩⟩
            ·rw [if_neg c30] at H
             exact absurd H (by simp)
           ·rw [if_neg c29] at H
            exact absurd H (by simp)
          ·rw [if_neg c27] at H
           have c27b0 : decide (0 < x3_1) = false := decide_eq_false c27
           clear c27
           have H' := Aside0.mk H
           clear H
           try go_wp2
           have n0_ : Aside0 ((((w9.setCell ⟨gb144, 0, none⟩ (.int .i64 ((rd_T66 l0_2 x3_1).f0.f0))).setCell ⟨gb144, 1, none⟩ (.int .i64 ((rd_T66 l0_2 x3_1).f0.f1))).setCell ⟨gb144, 2, none⟩ (.slice A143_2 ((rd_T66 l0_2 x3_1).f1).length c143_2)).heap[gb142]? = some (.cells #[.int .i64 a0_0, .int .i64 a0_1, .slice (some ad143) l0_2.length c0_2, .slice A0_3 l0_3.length c0_3] 34 (0, 0))) := ⟨by (with_reducible repeat (first | refine blk_drewN ?_ _ | refine blk_drew ?_ | refine blk_alloc ?_ _)); refine blk_far ?_ NB142_144.out _; (with_reducible repeat (first | refine blk_drewN ?_ _ | refine blk_drew ?_ | refine blk_alloc ?_ _)); refine blk_far ?_ NB142_144.out _; (with_reducible repeat (first | refine blk_drewN ?_ _ | refine blk_drew ?_ | refine blk_alloc ?_ _)); refine blk_far ?_ NB142_144.out _; (with_reducible repeat (first | refine blk_drewN ?_ _ | refine blk_drew ?_ | refine blk_alloc ?_ _)); exact BK142.out⟩
           have n1_ : Aside0 ((((w9.setCell ⟨gb144, 0, none⟩ (.int .i64 ((rd_T66 l0_2 x3_1).f0.f0))).setCell ⟨gb144, 1, none⟩ (.int .i64 ((rd_T66 l0_2 x3_1).f0.f1))).setCell ⟨gb144, 2, none⟩ (.slice A143_2 ((rd_T66 l0_2 x3_1).f1).length c143_2)).heap[gb144]? = some (.cells #[.int .i64 ((rd_T66 l0_2 x3_1).f0.f0), .int .i64 ((rd_T66 l0_2 x3_1).f0.f1), .slice A143_2 ((rd_T66 l0_2 x3_1).f1).length c143_2] 66 (0, 0))) := ⟨by (with_reducible repeat (first | refine blk_drewN ?_ _ | refine blk_drew ?_ | refine blk_alloc ?_ _)); refine blk_put (cs := #[.int .i64 ((rd_T66 l0_2 x3_1).f0.f0), .int .i64 ((rd_T66 l0_2 x3_1).f0.f1), .slice none 0 0]) ?_ 2 _ rfl; (with_reducible repeat (first | refine blk_drewN ?_ _ | refine blk_drew ?_ | refine blk_alloc ?_ _)); refine blk_put (cs := #[.int .i64 ((rd_T66 l0_2 x3_1).f0.f0), .int .i64 0, .slice none 0 0]) ?_ 1 _ rfl; (with_reducible repeat (first | refine blk_drewN ?_ _ | refine blk_drew ?_ | refine blk_alloc ?_ _)); refine blk_put (cs := #[.int .i64 0, .int .i64 0, .slice none 0 0]) ?_ 0 _ rfl; (with_reducible repeat (first | refine blk_drewN ?_ _ | refine blk_drew ?_ | refine blk_alloc ?_ _)); exact BK144.out⟩
           have n2_ : Aside0 (Below w.heap.size w (((w9.setCell ⟨gb144, 0, none⟩ (.int .i64 ((rd_T66 l0_2 x3_1).f0.f0))).setCell ⟨gb144, 1, none⟩ (.int .i64 ((rd_T66 l0_2 x3_1).f0.f1))).setCell ⟨gb144, 2, none⟩ (.slice A143_2 ((rd_T66 l0_2 x3_1).f1).length c143_2))) := ⟨by repeat (first | (with_reducible first | exact HB.out | apply below_alloc | apply pw_below_drewN | apply below_drew1 | refine below_set ?_ GE142.out | refine below_set ?_ GE144.out) | exact HB.out)⟩
           (try clear BK142)
           (try clear BK144)
           (try clear HB)
           generalize (((w9.setCell ⟨gb144, 0, none⟩ (.int .i64 ((rd_T66 l0_2 x3_1).f0.f0))).setCell ⟨gb144, 1, none⟩ (.int .i64 ((rd_T66 l0_2 x3_1).f0.f1))).setCell ⟨gb144, 2, none⟩ (.slice A143_2 ((rd_T66 l0_2 x3_1).f1).length c143_2)) = w37 at n0_ n1_ n2_ ⊢
           have BK142 := n0_
           have BK144 := n1_
           have HB := n2_
           clear n0_ n1_ n2_
           replace BK142 := Aside0.mk (blk_drew BK142.out)
           replace BK144 := Aside0.mk (blk_drew BK144.out)
           replace HB := Aside0.mk (below_drew1 HB.out)
           refine start_ (n := 40) (S := fun w' => w'.cell? ⟨gb144, 0, none⟩ = some (.int .i64 ((rd_T66 l0_2 x3_1).f0.f0)) ∧ w'.cell? ⟨gb144, 1, none⟩ = some (.int .i64 ((rd_T66 l0_2 x3_1).f0.f1)) ∧ w'.cell? ⟨gb144, 2, none⟩ = some (.slice A143_2 ((rd_T66 l0_2 x3_1).f1).length c143_2) ∧ w'.cell? ⟨gb142, 0, none⟩ = some (.int .i64 a0_0) ∧ w'.cell? ⟨gb142, 1, none⟩ = some (.int .i64 a0_1) ∧ w'.cell? ⟨gb142, 2, none⟩ = some (.slice (some ad143) l0_2.length c0_2) ∧ w'.cell? ⟨gb142, 3, none⟩ = some (.slice A0_3 l0_3.length c0_3)) (ds := []) _ (by kernel_rfl) rfl rfl ⟨(blk_cell BK144.out 0).trans rfl, (blk_cell BK144.out 1).trans rfl, (blk_cell BK144.out 2).trans rfl, (blk_cell BK142.out 0).trans rfl, (blk_cell BK142.out 1).trans rfl, (blk_cell BK142.out 2).trans rfl, (blk_cell BK142.out 3).trans rfl⟩ (fun hHeld => ?_); refine with_tabW spec_StreamOk.tab5 spec_StreamOk.bits5 (fun HT_ HW_ => ?_)
           generalize w37.drew = w38 at BK142 BK144 HB hHeld ⊢
           refine pu 0 18 ?_; refine tk 1 19 ?_
           refine on 2 (some 20) (fun K hK => ?_)
           refine ca Try.func68 (spec_l9Id.calls ((rd_T66 l0_2 x3_1).f0.f0) ((rd_T66 l0_2 x3_1).f0.f1) true _ A12.out) ?_
           rintro e w39 ⟨rfl, hb⟩
           refine ⟨_, rfl, ?_⟩
           replace BK142 := Aside0.mk (blk_below (g := gb142) (o := .cells #[.int .i64 a0_0, .int .i64 a0_1, .slice (some ad143) l0_2.length c0_2, .slice A0_3 l0_3.length c0_3] 34 (0, 0)) (by (with_reducible repeat (first | refine blk_drewN ?_ _ | refine blk_drew ?_ | refine blk_alloc ?_ _)); exact BK142.out) hb)
           replace BK144 := Aside0.mk (blk_below (g := gb144) (o := .cells #[.int .i64 ((rd_T66 l0_2 x3_1).f0.f0), .int .i64 ((rd_T66 l0_2 x3_1).f0.f1), .slice A143_2 ((rd_T66 l0_2 x3_1).f1).length c143_2] 66 (0, 0)) (by (with_reducible repeat (first | refine blk_drewN ?_ _ | refine blk_drew ?_ | refine blk_alloc ?_ _)); exact BK144.out) hb)
           replace HB := Aside0.mk (below_step (by repeat (first | (with_reducible first | exact HB.out | apply below_alloc | apply pw_below_drewN | apply below_drew1 | refine below_set ?_ GE142.out | refine below_set ?_ GE144.out) | exact HB.out)) hb)
           (try clear hb)
           (try clear hb2)
           (try clear hk)
           (try clear hi)
           refine hK.out _ _ ⟨(blk_cell BK144.out 0).trans rfl, (blk_cell BK144.out 1).trans rfl, (blk_cell BK144.out 2).trans rfl, (blk_cell BK142.out 0).trans rfl, (blk_cell BK142.out 1).trans rfl, (blk_cell BK142.out 2).trans rfl, (blk_cell BK142.out 3).trans rfl⟩ (fun hHeld => ?_)
           clear hK K
           refine nm ?_; refine pu 3 21 ?_; refine pu 4 22 ?_; refine pu 5 23 ?_; refine pu 7 25 ?_; refine tk 6 24 ?_; refine tk 8 26 ?_
           refine on 9 (some 27) (fun K hK => ?_)
           refine ca Try.func69 (spec_IdLess.calls a0_0 a0_1 ((rd_T66 l0_2 x3_1).f0.f0) ((rd_T66 l0_2 x3_1).f0.f1) false _ A14.out) ?_
           rintro e w40 ⟨rfl, hb⟩
           refine ⟨_, rfl, ?_⟩
           replace BK142 := Aside0.mk (blk_below (g := gb142) (o := .cells #[.int .i64 a0_0, .int .i64 a0_1, .slice (some ad143) l0_2.length c0_2, .slice A0_3 l0_3.length c0_3] 34 (0, 0)) (by (with_reducible repeat (first | refine blk_drewN ?_ _ | refine blk_drew ?_ | refine blk_alloc ?_ _)); exact BK142.out) hb)
           replace BK144 := Aside0.mk (blk_below (g := gb144) (o := .cells #[.int .i64 ((rd_T66 l0_2 x3_1).f0.f0), .int .i64 ((rd_T66 l0_2 x3_1).f0.f1), .slice A143_2 ((rd_T66 l0_2 x3_1).f1).length c143_2] 66 (0, 0)) (by (with_reducible repeat (first | refine blk_drewN ?_ _ | refine blk_drew ?_ | refine blk_alloc ?_ _)); exact BK144.out) hb)
           replace HB := Aside0.mk (below_step (by repeat (first | (with_reducible first | exact HB.out | apply below_alloc | apply pw_below_drewN | apply below_drew1 | refine below_set ?_ GE142.out | refine below_set ?_ GE144.out) | exact HB.out)) hb)
           (try clear hb)
           (try clear hb2)
           (try clear hk)
           (try clear hi)
           refine hK.out _ _ ⟨(blk_cell BK144.out 0).trans rfl, (blk_cell BK144.out 1).trans rfl, (blk_cell BK144.out 2).trans rfl, (blk_cell BK142.out 0).trans rfl, (blk_cell BK142.out 1).trans rfl, (blk_cell BK142.out 2).trans rfl, (blk_cell BK142.out 3).trans rfl⟩ (fun hHeld => ?_)
           clear hK K
           refine nm ?_; refine pu 10 28 ?_; refine pu 11 29 ?_; refine pu 12 30 ?_; refine tk 13 31 ?_
           refine on 14 (some 32) (fun K hK => ?_)
           refine ca Try.func70 (spec_FieldsOk.calls k1 _ _ ((rd_T66 l0_2 x3_1).f1) true _ ?side1 ?side2 A20.out) ?_
           (case side1 => repeat (first | exact (Kd.C_below HR143_2.out HB.out) | (with_reducible refine Kd.C_alloc ?_ _) | (with_reducible refine Kd.C_drewN ?_ _) | (with_reducible refine Kd.C_drew ?_)))
           (case side2 => exact HC143_2.out)
           rintro e w' ⟨rfl, ⟨nd, rfl⟩⟩
           refine ⟨_, rfl, ?_⟩
           refine hK.out _ _ ⟨(blk_cell BK144.out 0).trans rfl, (blk_cell BK144.out 1).trans rfl, (blk_cell BK144.out 2).trans rfl, (blk_cell BK142.out 0).trans rfl, (blk_cell BK142.out 1).trans rfl, (blk_cell BK142.out 2).trans rfl, (blk_cell BK142.out 3).trans rfl⟩ (fun hHeld => ?_)
           clear hK K
           refine nm ?_; refine pu 15 33 ?_; refine pu 16 34 ?_; refine pu 17 35 ?_; refine pu 18 36 ?_; refine tk 19 37 ?_; refine pu 20 38 ?_; refine pu 21 39 ?_; refine pu 22 40 ?_; refine pu 23 41 ?_; refine pu 24 42 ?_; refine pu 25 43 ?_; refine pu 26 44 ?_; refine of 27 45 ?_; refine of 28 46 ?_; refine of 29 47 ?_; refine of 30 48 ?_; refine of 31 49 ?_; refine of 32 50 ?_; refine of 33 51 ?_; refine of 34 52 ?_; refine of 35 53 ?_; refine of 36 54 ?_; refine of 37 55 ?_; refine pu 38 56 ?_; refine pu 39 57 ?_
           refine dn ?_
           try go_wp2
           go_meet
           case rel => exact ⟨_, (false), (by first | rfl | (simp; done) | (simp [*]; done)), H', ⟨by have := HK1.out; first | omega | exact Nat.le_refl _⟩, ⟨by (with_reducible repeat (first | refine blk_drewN ?_ _ | refine blk_drew ?_ | refine blk_alloc ?_ _)); exact BK142.out⟩, ⟨by (with_reducible repeat (first | refine blk_drewN ?_ _ | refine blk_drew ?_ | refine blk_alloc ?_ _)); exact BK144.out⟩, ⟨by repeat (first | (with_reducible first | exact HB.out | apply below_alloc | apply pw_below_drewN | apply below_drew1 | refine below_set ?_ GE142.out | refine below_set ?_ GE144.out) | exact HB.out)⟩⟩
        ·replace c21 := Bool.eq_false_iff.mpr c21
         subst c21
         have H1 : (spec_StreamOk.j1 k1 x3_1 true a0_0 a0_1 l0_2 l0_3) = some r := by rw [if_neg (show ¬ (false = true) by decide)] at H; exact H
         clear H
         have H := H1
         clear H1
         have H' := Aside0.mk H
         clear H
         try go_wp2
         have n0_ : Aside0 ((((w9.setCell ⟨gb144, 0, none⟩ (.int .i64 ((rd_T66 l0_2 x3_1).f0.f0))).setCell ⟨gb144, 1, none⟩ (.int .i64 ((rd_T66 l0_2 x3_1).f0.f1))).setCell ⟨gb144, 2, none⟩ (.slice A143_2 ((rd_T66 l0_2 x3_1).f1).length c143_2)).heap[gb142]? = some (.cells #[.int .i64 a0_0, .int .i64 a0_1, .slice (some ad143) l0_2.length c0_2, .slice A0_3 l0_3.length c0_3] 34 (0, 0))) := ⟨by (with_reducible repeat (first | refine blk_drewN ?_ _ | refine blk_drew ?_ | refine blk_alloc ?_ _)); refine blk_far ?_ NB142_144.out _; (with_reducible repeat (first | refine blk_drewN ?_ _ | refine blk_drew ?_ | refine blk_alloc ?_ _)); refine blk_far ?_ NB142_144.out _; (with_reducible repeat (first | refine blk_drewN ?_ _ | refine blk_drew ?_ | refine blk_alloc ?_ _)); refine blk_far ?_ NB142_144.out _; (with_reducible repeat (first | refine blk_drewN ?_ _ | refine blk_drew ?_ | refine blk_alloc ?_ _)); exact BK142.out⟩
         have n1_ : Aside0 ((((w9.setCell ⟨gb144, 0, none⟩ (.int .i64 ((rd_T66 l0_2 x3_1).f0.f0))).setCell ⟨gb144, 1, none⟩ (.int .i64 ((rd_T66 l0_2 x3_1).f0.f1))).setCell ⟨gb144, 2, none⟩ (.slice A143_2 ((rd_T66 l0_2 x3_1).f1).length c143_2)).heap[gb144]? = some (.cells #[.int .i64 ((rd_T66 l0_2 x3_1).f0.f0), .int .i64 ((rd_T66 l0_2 x3_1).f0.f1), .slice A143_2 ((rd_T66 l0_2 x3_1).f1).length c143_2] 66 (0, 0))) := ⟨by (with_reducible repeat (first | refine blk_drewN ?_ _ | refine blk_drew ?_ | refine blk_alloc ?_ _)); refine blk_put (cs := #[.int .i64 ((rd_T66 l0_2 x3_1).f0.f0), .int .i64 ((rd_T66 l0_2 x3_1).f0.f1), .slice none 0 0]) ?_ 2 _ rfl; (with_reducible repeat (first | refine blk_drewN ?_ _ | refine blk_drew ?_ | refine blk_alloc ?_ _)); refine blk_put (cs := #[.int .i64 ((rd_T66 l0_2 x3_1).f0.f0), .int .i64 0, .slice none 0 0]) ?_ 1 _ rfl; (with_reducible repeat (first | refine blk_drewN ?_ _ | refine blk_drew ?_ | refine blk_alloc ?_ _)); refine blk_put (cs := #[.int .i64 0, .int .i64 0, .slice none 0 0]) ?_ 0 _ rfl; (with_reducible repeat (first | refine blk_drewN ?_ _ | refine blk_drew ?_ | refine blk_alloc ?_ _)); exact BK144.out⟩
         have n2_ : Aside0 (Below w.heap.size w (((w9.setCell ⟨gb144, 0, none⟩ (.int .i64 ((rd_T66 l0_2 x3_1).f0.f0))).setCell ⟨gb144, 1, none⟩ (.int .i64 ((rd_T66 l0_2 x3_1).f0.f1))).setCell ⟨gb144, 2, none⟩ (.slice A143_2 ((rd_T66 l0_2 x3_1).f1).length c143_2))) := ⟨by repeat (first | (with_reducible first | exact HB.out | apply below_alloc | apply pw_below_drewN | apply below_drew1 | refine below_set ?_ GE142.out | refine below_set ?_ GE144.out) | exact HB.out)⟩
         (try clear BK142)
         (try clear BK144)
         (try clear HB)
         generalize (((w9.setCell ⟨gb144, 0, none⟩ (.int .i64 ((rd_T66 l0_2 x3_1).f0.f0))).setCell ⟨gb144, 1, none⟩ (.int .i64 ((rd_T66 l0_2 x3_1).f0.f1))).setCell ⟨gb144, 2, none⟩ (.slice A143_2 ((rd_T66 l0_2 x3_1).f1).length c143_2)) = w41 at n0_ n1_ n2_ ⊢
         have BK142 := n0_
         have BK144 := n1_
         have HB := n2_
         clear n0_ n1_ n2_
         replace BK142 := Aside0.mk (blk_drew BK142.out)
         replace BK144 := Aside0.mk (blk_drew BK144.out)
         replace HB := Aside0.mk (below_drew1 HB.out)
         refine start_ (n := 40) (S := fun w' => w'.cell? ⟨gb144, 0, none⟩ = some (.int .i64 ((rd_T66 l0_2 x3_1).f0.f0)) ∧ w'.cell? ⟨gb144, 1, none⟩ = some (.int .i64 ((rd_T66 l0_2 x3_1).f0.f1)) ∧ w'.cell? ⟨gb144, 2, none⟩ = some (.slice A143_2 ((rd_T66 l0_2 x3_1).f1).length c143_2) ∧ w'.cell? ⟨gb142, 0, none⟩ = some (.int .i64 a0_0) ∧ w'.cell? ⟨gb142, 1, none⟩ = some (.int .i64 a0_1) ∧ w'.cell? ⟨gb142, 2, none⟩ = some (.slice (some ad143) l0_2.length c0_2) ∧ w'.cell? ⟨gb142, 3, none⟩ = some (.slice A0_3 l0_3.length c0_3)) (ds := []) _ (by kernel_rfl) rfl rfl ⟨(blk_cell BK144.out 0).trans rfl, (blk_cell BK144.out 1).trans rfl, (blk_cell BK144.out 2).trans rfl, (blk_cell BK142.out 0).trans rfl, (blk_cell BK142.out 1).trans rfl, (blk_cell BK142.out 2).trans rfl, (blk_cell BK142.out 3).trans rfl⟩ (fun hHeld => ?_); refine with_tabW spec_StreamOk.tab5 spec_StreamOk.bits5 (fun HT_ HW_ => ?_)
         generalize w41.drew = w42 at BK142 BK144 HB hHeld ⊢
         refine pu 0 18 ?_; refine tk 1 19 ?_
         refine on 2 (some 20) (fun K hK => ?_)
         refine ca Try.func68 (spec_l9Id.calls ((rd_T66 l0_2 x3_1).f0.f0) ((rd_T66 l0_2 x3_1).f0.f1) true _ A12.out) ?_
         rintro e w43 ⟨rfl, hb⟩
         refine ⟨_, rfl, ?_⟩
         replace BK142 := Aside0.mk (blk_below (g := gb142) (o := .cells #[.int .i64 a0_0, .int .i64 a0_1, .slice (some ad143) l0_2.length c0_2, .slice A0_3 l0_3.length c0_3] 34 (0, 0)) (by (with_reducible repeat (first | refine blk_drewN ?_ _ | refine blk_drew ?_ | refine blk_alloc ?_ _)); exact BK142.out) hb)
         replace BK144 := Aside0.mk (blk_below (g := gb144) (o := .cells #[.int .i64 ((rd_T66 l0_2 x3_1).f0.f0), .int .i64 ((rd_T66 l0_2 x3_1).f0.f1), .slice A143_2 ((rd_T66 l0_2 x3_1).f1).length c143_2] 66 (0, 0)) (by (with_reducible repeat (first | refine blk_drewN ?_ _ | refine blk_drew ?_ | refine blk_alloc ?_ _)); exact BK144.out) hb)
         replace HB := Aside0.mk (below_step (by repeat (first | (with_reducible first | exact HB.out | apply below_alloc | apply pw_below_drewN | apply below_drew1 | refine below_set ?_ GE142.out | refine below_set ?_ GE144.out) | exact HB.out)) hb)
         (try clear hb)
         (try clear hb2)
         (try clear hk)
         (try clear hi)
         refine hK.out _ _ ⟨(blk_cell BK144.out 0).trans rfl, (blk_cell BK144.out 1).trans rfl, (blk_cell BK144.out 2).trans rfl, (blk_cell BK142.out 0).trans rfl, (blk_cell BK142.out 1).trans rfl, (blk_cell BK142.out 2).trans rfl, (blk_cell BK142.out 3).trans rfl⟩ (fun hHeld => ?_)
         clear hK K
         refine nm ?_; refine pu 3 21 ?_; refine pu 4 22 ?_; refine pu 5 23 ?_; refine pu 7 25 ?_; refine tk 6 24 ?_; refine tk 8 26 ?_
         refine on 9 (some 27) (fun K hK => ?_)
         refine ca Try.func69 (spec_IdLess.calls a0_0 a0_1 ((rd_T66 l0_2 x3_1).f0.f0) ((rd_T66 l0_2 x3_1).f0.f1) false _ A14.out) ?_
         rintro e w44 ⟨rfl, hb⟩
         refine ⟨_, rfl, ?_⟩
         replace BK142 := Aside0.mk (blk_below (g := gb142) (o := .cells #[.int .i64 a0_0, .int .i64 a0_1, .slice (some ad143) l0_2.length c0_2, .slice A0_3 l0_3.length c0_3] 34 (0, 0)) (by (with_reducible repeat (first | refine blk_drewN ?_ _ | refine blk_drew ?_ | refine blk_alloc ?_ _)); exact BK142.out) hb)
         replace BK144 := Aside0.mk (blk_below (g := gb144) (o := .cells #[.int .i64 ((rd_T66 l0_2 x3_1).f0.f0), .int .i64 ((rd_T66 l0_2 x3_1).f0.f1), .slice A143_2 ((rd_T66 l0_2 x3_1).f1).length c143_2] 66 (0, 0)) (by (with_reducible repeat (first | refine blk_drewN ?_ _ | refine blk_drew ?_ | refine blk_alloc ?_ _)); exact BK144.out) hb)
         replace HB := Aside0.mk (below_step (by repeat (first | (with_reducible first | exact HB.out | apply below_alloc | apply pw_below_drewN | apply below_drew1 | refine below_set ?_ GE142.out | refine below_set ?_ GE144.out) | exact HB.out)) hb)
         (try clear hb)
         (try clear hb2)
         (try clear hk)
         (try clear hi)
         refine hK.out _ _ ⟨(blk_cell BK144.out 0).trans rfl, (blk_cell BK144.out 1).trans rfl, (blk_cell BK144.out 2).trans rfl, (blk_cell BK142.out 0).trans rfl, (blk_cell BK142.out 1).trans rfl, (blk_cell BK142.out 2).trans rfl, (blk_cell BK142.out 3).trans rfl⟩ (fun hHeld => ?_)
         clear hK K
         refine nm ?_; refine pu 10 28 ?_; refine pu 11 29 ?_; refine pu 12 30 ?_; refine tk 13 31 ?_
         refine on 14 (some 32) (fun K hK => ?_)
         refine ca Try.func70 (spec_FieldsOk.calls k1 _ _ ((rd_T66 l0_2 x3_1).f1) false _ ?side1 ?side2 A20.out) ?_
         (case side1 => repeat (first | exact (Kd.C_below HR143_2.out HB.out) | (with_reducible refine Kd.C_alloc ?_ _) | (with_reducible refine Kd.C_drewN ?_ _) | (with_reducible refine Kd.C_drew ?_)))
         (case side2 => exact HC143_2.out)
         rintro e w' ⟨rfl, ⟨nd, rfl⟩⟩
         refine ⟨_, rfl, ?_⟩
         refine hK.out _ _ ⟨(blk_cell BK144.out 0).trans rfl, (blk_cell BK144.out 1).trans rfl, (blk_cell BK144.out 2).trans rfl, (blk_cell BK142.out 0).trans rfl, (blk_cell BK142.out 1).trans rfl, (blk_cell BK142.out 2).trans rfl, (blk_cell BK142.out 3).trans rfl⟩ (fun hHeld => ?_)
         clear hK K
         refine nm ?_; refine pu 15 33 ?_; refine pu 16 34 ?_; refine pu 17 35 ?_; refine of 18 36 ?_; refine of 19 37 ?_; refine of 20 38 ?_; refine of 21 39 ?_; refine pu 22 40 ?_; refine pu 23 41 ?_; refine of 24 42 ?_; refine of 25 43 ?_; refine of 26 44 ?_; refine of 27 45 ?_; refine of 28 46 ?_; refine of 29 47 ?_; refine of 30 48 ?_; refine of 31 49 ?_; refine of 32 50 ?_; refine of 33 51 ?_; refine of 34 52 ?_; refine of 35 53 ?_; refine of 36 54 ?_; refine of 37 55 ?_; refine of 38 56 ?_; refine pu 39 57 ?_
         refine dn ?_
         try go_wp2
         go_meet
         case rel => exact ⟨_, (true), (by first | rfl | (simp; done) | (simp [*]; done)), H', ⟨by have := HK1.out; first | omega | exact Nat.le_refl _⟩, ⟨by (with_reducible repeat (first | refine blk_drewN ?_ _ | refine blk_drew ?_ | refine blk_alloc ?_ _)); exact BK142.out⟩, ⟨by (with_reducible repeat (first | refine blk_drewN ?_ _ | refine blk_drew ?_ | refine blk_alloc ?_ _)); exact BK144.out⟩, ⟨by repeat (first | (with_reducible first | exact HB.out | apply below_alloc | apply pw_below_drewN | apply below_drew1 | refine below_set ?_ GE142.out | refine below_set ?_ GE144.out) | exact HB.out)⟩⟩
      ·replace c13 := Bool.eq_false_iff.mpr c13
       subst c13
       have H1 : (spec_StreamOk.j1 k1 x3_1 true a0_0 a0_1 l0_2 l0_3) = some r := by rw [if_neg (show ¬ (false = true) by decide)] at H; exact H
       clear H
       have H := H1
       clear H1
       have H' := Aside0.mk H
       clear H
       try go_wp2
       have n0_ : Aside0 ((((w9.setCell ⟨gb144, 0, none⟩ (.int .i64 ((rd_T66 l0_2 x3_1).f0.f0))).setCell ⟨gb144, 1, none⟩ (.int .i64 ((rd_T66 l0_2 x3_1).f0.f1))).setCell ⟨gb144, 2, none⟩ (.slice A143_2 ((rd_T66 l0_2 x3_1).f1).length c143_2)).heap[gb142]? = some (.cells #[.int .i64 a0_0, .int .i64 a0_1, .slice (some ad143) l0_2.length c0_2, .slice A0_3 l0_3.length c0_3] 34 (0, 0))) := ⟨by (with_reducible repeat (first | refine blk_drewN ?_ _ | refine blk_drew ?_ | refine blk_alloc ?_ _)); refine blk_far ?_ NB142_144.out _; (with_reducible repeat (first | refine blk_drewN ?_ _ | refine blk_drew ?_ | refine blk_alloc ?_ _)); refine blk_far ?_ NB142_144.out _; (with_reducible repeat (first | refine blk_drewN ?_ _ | refine blk_drew ?_ | refine blk_alloc ?_ _)); refine blk_far ?_ NB142_144.out _; (with_reducible repeat (first | refine blk_drewN ?_ _ | refine blk_drew ?_ | refine blk_alloc ?_ _)); exact BK142.out⟩
       have n1_ : Aside0 ((((w9.setCell ⟨gb144, 0, none⟩ (.int .i64 ((rd_T66 l0_2 x3_1).f0.f0))).setCell ⟨gb144, 1, none⟩ (.int .i64 ((rd_T66 l0_2 x3_1).f0.f1))).setCell ⟨gb144, 2, none⟩ (.slice A143_2 ((rd_T66 l0_2 x3_1).f1).length c143_2)).heap[gb144]? = some (.cells #[.int .i64 ((rd_T66 l0_2 x3_1).f0.f0), .int .i64 ((rd_T66 l0_2 x3_1).f0.f1), .slice A143_2 ((rd_T66 l0_2 x3_1).f1).length c143_2] 66 (0, 0))) := ⟨by (with_reducible repeat (first | refine blk_drewN ?_ _ | refine blk_drew ?_ | refine blk_alloc ?_ _)); refine blk_put (cs := #[.int .i64 ((rd_T66 l0_2 x3_1).f0.f0), .int .i64 ((rd_T66 l0_2 x3_1).f0.f1), .slice none 0 0]) ?_ 2 _ rfl; (with_reducible repeat (first | refine blk_drewN ?_ _ | refine blk_drew ?_ | refine blk_alloc ?_ _)); refine blk_put (cs := #[.int .i64 ((rd_T66 l0_2 x3_1).f0.f0), .int .i64 0, .slice none 0 0]) ?_ 1 _ rfl; (with_reducible repeat (first | refine blk_drewN ?_ _ | refine blk_drew ?_ | refine blk_alloc ?_ _)); refine blk_put (cs := #[.int .i64 0, .int .i64 0, .slice none 0 0]) ?_ 0 _ rfl; (with_reducible repeat (first | refine blk_drewN ?_ _ | refine blk_drew ?_ | refine blk_alloc ?_ _)); exact BK144.out⟩
       have n2_ : Aside0 (Below w.heap.size w (((w9.setCell ⟨gb144, 0, none⟩ (.int .i64 ((rd_T66 l0_2 x3_1).f0.f0))).setCell ⟨gb144, 1, none⟩ (.int .i64 ((rd_T66 l0_2 x3_1).f0.f1))).setCell ⟨gb144, 2, none⟩ (.slice A143_2 ((rd_T66 l0_2 x3_1).f1).length c143_2))) := ⟨by repeat (first | (with_reducible first | exact HB.out | apply below_alloc | apply pw_below_drewN | apply below_drew1 | refine below_set ?_ GE142.out | refine below_set ?_ GE144.out) | exact HB.out)⟩
       (try clear BK142)
       (try clear BK144)
       (try clear HB)
       generalize (((w9.setCell ⟨gb144, 0, none⟩ (.int .i64 ((rd_T66 l0_2 x3_1).f0.f0))).setCell ⟨gb144, 1, none⟩ (.int .i64 ((rd_T66 l0_2 x3_1).f0.f1))).setCell ⟨gb144, 2, none⟩ (.slice A143_2 ((rd_T66 l0_2 x3_1).f1).length c143_2)) = w45 at n0_ n1_ n2_ ⊢
       have BK142 := n0_
       have BK144 := n1_
       have HB := n2_
       clear n0_ n1_ n2_
       replace BK142 := Aside0.mk (blk_drew BK142.out)
       replace BK144 := Aside0.mk (blk_drew BK144.out)
       replace HB := Aside0.mk (below_drew1 HB.out)
       refine start_ (n := 40) (S := fun w' => w'.cell? ⟨gb144, 0, none⟩ = some (.int .i64 ((rd_T66 l0_2 x3_1).f0.f0)) ∧ w'.cell? ⟨gb144, 1, none⟩ = some (.int .i64 ((rd_T66 l0_2 x3_1).f0.f1)) ∧ w'.cell? ⟨gb144, 2, none⟩ = some (.slice A143_2 ((rd_T66 l0_2 x3_1).f1).length c143_2)) (ds := []) _ (by kernel_rfl) rfl rfl ⟨(blk_cell BK144.out 0).trans rfl, (blk_cell BK144.out 1).trans rfl, (blk_cell BK144.out 2).trans rfl⟩ (fun hHeld => ?_); refine with_tabW spec_StreamOk.tab5 spec_StreamOk.bits5 (fun HT_ HW_ => ?_)
       generalize w45.drew = w46 at BK142 BK144 HB hHeld ⊢
       refine pu 0 18 ?_; refine tk 1 19 ?_
       refine on 2 (some 20) (fun K hK => ?_)
       refine ca Try.func68 (spec_l9Id.calls ((rd_T66 l0_2 x3_1).f0.f0) ((rd_T66 l0_2 x3_1).f0.f1) false _ A12.out) ?_
       rintro e w47 ⟨rfl, hb⟩
       refine ⟨_, rfl, ?_⟩
       replace BK142 := Aside0.mk (blk_below (g := gb142) (o := .cells #[.int .i64 a0_0, .int .i64 a0_1, .slice (some ad143) l0_2.length c0_2, .slice A0_3 l0_3.length c0_3] 34 (0, 0)) (by (with_reducible repeat (first | refine blk_drewN ?_ _ | refine blk_drew ?_ | refine blk_alloc ?_ _)); exact BK142.out) hb)
       replace BK144 := Aside0.mk (blk_below (g := gb144) (o := .cells #[.int .i64 ((rd_T66 l0_2 x3_1).f0.f0), .int .i64 ((rd_T66 l0_2 x3_1).f0.f1), .slice A143_2 ((rd_T66 l0_2 x3_1).f1).length c143_2] 66 (0, 0)) (by (with_reducible repeat (first | refine blk_drewN ?_ _ | refine blk_drew ?_ | refine blk_alloc ?_ _)); exact BK144.out) hb)
       replace HB := Aside0.mk (below_step (by repeat (first | (with_reducible first | exact HB.out | apply below_alloc | apply pw_below_drewN | apply below_drew1 | refine below_set ?_ GE142.out | refine below_set ?_ GE144.out) | exact HB.out)) hb)
       (try clear hb)
       (try clear hb2)
       (try clear hk)
       (try clear hi)
       refine hK.out _ _ ⟨(blk_cell BK144.out 0).trans rfl, (blk_cell BK144.out 1).trans rfl, (blk_cell BK144.out 2).trans rfl⟩ (fun hHeld => ?_)
       clear hK K
       refine nm ?_; refine pu 3 21 ?_; refine pu 4 22 ?_; refine of 5 23 ?_; refine of 6 24 ?_; refine of 7 25 ?_; refine of 8 26 ?_; refine of 9 27 ?_; refine pu 10 28 ?_; refine pu 11 29 ?_; refine of 12 30 ?_; refine of 13 31 ?_; refine of 14 32 ?_; refine of 15 33 ?_; refine pu 16 34 ?_; refine pu 17 35 ?_; refine of 18 36 ?_; refine of 19 37 ?_; refine of 20 38 ?_; refine of 21 39 ?_; refine pu 22 40 ?_; refine pu 23 41 ?_; refine of 24 42 ?_; refine of 25 43 ?_; refine of 26 44 ?_; refine of 27 45 ?_; refine of 28 46 ?_; refine of 29 47 ?_; refine of 30 48 ?_; refine of 31 49 ?_; refine of 32 50 ?_; refine of 33 51 ?_; refine of 34 52 ?_; refine of 35 53 ?_; refine of 36 54 ?_; refine of 37 55 ?_; refine of 38 56 ?_; refine pu 39 57 ?_
       refine dn ?_
       try go_wp2
       go_meet
       case rel => exact ⟨_, (true), (by first | rfl | (simp; done) | (simp [*]; done)), H', ⟨by have := HK1.out; first | omega | exact Nat.le_refl _⟩, ⟨by (with_reducible repeat (first | refine blk_drewN ?_ _ | refine blk_drew ?_ | refine blk_alloc ?_ _)); exact BK142.out⟩, ⟨by (with_reducible repeat (first | refine blk_drewN ?_ _ | refine blk_drew ?_ | refine blk_alloc ?_ _)); exact BK144.out⟩, ⟨by repeat (first | (with_reducible first | exact HB.out | apply below_alloc | apply pw_below_drewN | apply below_drew1 | refine below_set ?_ GE142.out | refine below_set ?_ GE144.out) | exact HB.out)⟩⟩
     case rest =>
      clear HC7
      try clear c1
      try clear c2
      try clear p2
      try clear c6
      try clear c7
      try clear c13
      try clear c14
      try clear c21
      obtain ⟨kq, x57_6, rfl, HA, HJ6, BK142, BK144, HB⟩ := hcut
      cases kq with
      | zero => exact absurd HA.out (by simp [spec_StreamOk.j1])
      | succ kj6 =>
       have H := HA.out
       clear HA
       simp only [spec_StreamOk.j1] at H
       by_cases c48 : x57_6 = true
       ·subst c48
        have H1 : (some false) = some r := by rw [if_pos rfl] at H; exact H
        clear H
        have H := H1
        clear H1
        obtain rfl := Option.some.inj H
        go_wp2
        go_ret
        exact ⟨by first | rfl | (simp [errW_none, errW_some] <;> rfl) | (simp [*, errW_none, errW_some] <;> rfl), by repeat (first | (with_reducible first | exact HB.out | apply below_alloc | apply pw_below_drewN | apply below_drew1 | refine below_set ?_ GE142.out | refine below_set ?_ GE144.out) | exact HB.out)⟩
       ·replace c48 := Bool.eq_false_iff.mpr c48
        subst c48
        have H1 : (spec_StreamOk.l0 kj6 (wrap64 (x3_1 + 1)) a0_0 a0_1 l0_2 l0_3) = some r := by rw [if_neg (show ¬ (false = true) by decide)] at H; exact H
        clear H
        have H := H1
        clear H1
        have H' := Aside0.mk H
        clear H
        go_wp2
        go_roundg kj6
        case measure => have := HK1.out; have := HJ6.out; omega
        case rel => exact ⟨(wrap64 (x3_1 + 1)), (by first | rfl | (simp; done) | (simp [*]; done)), H', ⟨by have := HK1.out; have := HJ6.out; omega⟩, ⟨by (with_reducible repeat (first | refine blk_drewN ?_ _ | refine blk_drew ?_ | refine blk_alloc ?_ _)); exact BK142.out⟩, ⟨by repeat (first | (with_reducible first | exact HB.out | apply below_alloc | apply pw_below_drewN | apply below_drew1 | refine below_set ?_ GE142.out | refine below_set ?_ GE144.out) | exact HB.out)⟩⟩
    ·rw [if_neg c6] at H
     exact absurd H (by simp)
   ·rw [if_neg c5] at H
    have c5b0 : decide (x3_1 < (l0_2.length : Int)) = false := decide_eq_false c5
    clear c5
    (first | rw [c5b0] | rw [c5b1] | (simp only [i64_w, i32_w]; rw [c5b0]) | rw [c5b2] | skip)
    have H' := Aside0.mk H
    clear H
    go_wp2
    go_loopg [5] k1 (fun kq v5 w' => ∃ (x5_2 : Int), v5 = .int .i64 x5_2 ∧ Aside0 (spec_StreamOk.l1 kq x5_2 a0_0 a0_1 l0_2 l0_3 = some r) ∧ Aside0 (kq ≤ k1) ∧ Aside0 (w'.heap[gb142]? = some (.cells #[.int .i64 a0_0, .int .i64 a0_1, (.slice A0_2 l0_2.length c0_2), (.slice A0_3 l0_3.length c0_3)] 34 (0, 0))) ∧ Aside0 (Below w.heap.size w w'))
    case atStart => exact ⟨(0), (by first | rfl | (simp; done) | (simp [*]; done)), H', ⟨Nat.le_refl _⟩, ⟨by (with_reducible repeat (first | refine blk_drewN ?_ _ | refine blk_drew ?_ | refine blk_alloc ?_ _)); exact BK142.out⟩, ⟨by repeat (first | (with_reducible first | exact HB.out | apply below_alloc | apply pw_below_drewN | apply below_drew1 | refine below_set ?_ GE142.out) | exact HB.out)⟩⟩
    case round =>
     clear H'
     try clear c1
     try clear c2
     try clear p2
     try clear c4
     try clear c5
     try clear c5b0
     try clear c5b1
     try clear c5b2
     try clear c6
     try clear p6
     try clear c7
     try clear c13
     try clear c14
     try clear c21
     try clear c48
     try clear p2
     obtain ⟨x5_2, rfl, HA, HK2, BK142, HB⟩ := hrel
     cases gk with
     | zero => exact absurd HA.out (by simp [spec_StreamOk.l1])
     | succ k2 =>
      have H := HA.out
      clear HA
      simp only [spec_StreamOk.l1] at H
      have HC49 := Aside0.mk H
      clear H
      have hcz50_0 : wr.cell? ⟨gb142, 0, none⟩ = some (.int .i64 a0_0) := (blk_cell BK142.out 0).trans rfl
      have hcz50_1 : wr.cell? ⟨gb142, 1, none⟩ = some (.int .i64 a0_1) := (blk_cell BK142.out 1).trans rfl
      have hcz50_2 : wr.cell? ⟨gb142, 2, none⟩ = some (.slice A0_2 l0_2.length c0_2) := (blk_cell BK142.out 2).trans rfl
      have hcz50_3 : wr.cell? ⟨gb142, 3, none⟩ = some (.slice A0_3 l0_3.length c0_3) := (blk_cell BK142.out 3).trans rfl
      have hfz50_0 := blk_frozen BK142.out 0
      have hfz50_1 := blk_frozen BK142.out 1
      have hfz50_2 := blk_frozen BK142.out 2
      have hfz50_3 := blk_frozen BK142.out 3
      go_upto_if 62 with (fail)
      have H := HC49.out
      clear HC49
      by_cases c51 : x5_2 < (l0_3.length : Int)
      ·rw [if_pos c51] at H
       have c51b0 : decide (x5_2 < (l0_3.length : Int)) = true := decide_eq_true c51
       clear c51
       (first | rw [c51b0] | rw [c51b1] | (simp only [i64_w, i32_w]; rw [c51b0]) | rw [c51b2] | skip)
       have HC52 := Aside0.mk H
       clear H
       go_upto_region 10 with (fail)
       go_cut [92] (fun v92 wc => ∃ (kq : Nat) (x92_51 : Bool), v92 = .bool x92_51 ∧ Aside0 (spec_StreamOk.j3 kq x5_2 x92_51 a0_0 a0_1 l0_2 l0_3 = some r) ∧ Aside0 (kq ≤ k2) ∧ Aside0 (wc.heap[gb142]? = some (.cells #[.int .i64 a0_0, .int .i64 a0_1, (.slice A0_2 l0_2.length c0_2), (.slice A0_3 l0_3.length c0_3)] 34 (0, 0))) ∧ Aside0 (Below w.heap.size w wc))
       case first =>
        have H := HC52.out
        clear HC52
        by_cases c53 : 0 ≤ x5_2
        ·rw [if_pos c53] at H
         have c53b0 : decide (0 ≤ x5_2) = true := decide_eq_true c53
         clear c53
         (first | rw [c53b0] | rw [c53b1] | (simp only [i64_w, i32_w]; rw [c53b0]) | rw [c53b2] | skip)
         replace H := Option.bind_eq_some_iff.mp H
         obtain ⟨t152, A540, H⟩ := H
         replace H : (if t152 = true then (if x5_2 > 0 then (if 0 ≤ (wrap64 (x5_2 - 1)) then (if (wrap64 (x5_2 - 1)) < (l0_3.length : Int) then (spec_StreamOk.j3 k2 x5_2 (!(Op.bytesLess (((rd_T107 l0_3 (wrap64 (x5_2 - 1))).f0).toList) (((rd_T107 l0_3 x5_2).f0).toList))) a0_0 a0_1 l0_2 l0_3) else (none)) else (none)) else (spec_StreamOk.j3 k2 x5_2 false a0_0 a0_1 l0_2 l0_3)) else (spec_StreamOk.j3 k2 x5_2 true a0_0 a0_1 l0_2 l0_3)) = some r := H
         have A54 := Aside0.mk A540
         clear A540
         by_cases c55 : t152 = true
         ·subst c55
          have H1 : (if x5_2 > 0 then (if 0 ≤ (wrap64 (x5_2 - 1)) then (if (wrap64 (x5_2 - 1)) < (l0_3.length : Int) then (spec_StreamOk.j3 k2 x5_2 (!(Op.bytesLess (((rd_T107 l0_3 (wrap64 (x5_2 - 1))).f0).toList) (((rd_T107 l0_3 x5_2).f0).toList))) a0_0 a0_1 l0_2 l0_3) else (none)) else (none)) else (spec_StreamOk.j3 k2 x5_2 false a0_0 a0_1 l0_2 l0_3)) = some r := by rw [if_pos rfl] at H; exact H
          clear H
          have H := H1
          clear H1
          by_cases c56 : x5_2 > 0
          ·rw [if_pos c56] at H
           have c56b0 : decide (0 < x5_2) = true := decide_eq_true c56
           clear c56
           obtain ⟨ji57, hji57⟩ : ∃ j_ : Int, (wrap64 (x5_2 - 1)) = j_ := ⟨_, rfl⟩
           replace H : (if 0 ≤ (ji57) then (if (ji57) < (l0_3.length : Int) then (spec_StreamOk.j3 k2 x5_2 (!(Op.bytesLess (((rd_T107 l0_3 (ji57)).f0).toList) (((rd_T107 l0_3 x5_2).f0).toList))) a0_0 a0_1 l0_2 l0_3) else (none)) else (none)) = some r := by first | (rw [hji57] at H; exact H) | (simp only [hji57] at H ⊢; exact H)
           (try rw [hji57] at A54)
           have hji57w : (IntKind.i64.wrap (x5_2 - 1)) = ji57 := (i64_w _).trans hji57
           by_cases c58 : 0 ≤ (ji57)
           ·rw [if_pos c58] at H
            have c58b0 : decide (0 ≤ (ji57)) = true := decide_eq_true c58
            clear c58
            by_cases c59 : (ji57) < (l0_3.length : Int)
            ·rw [if_pos c59] at H
             have c59b0 : decide ((ji57) < (l0_3.length : Int)) = true := decide_eq_true c59
             clear c59
             have H' := Aside0.mk H
             clear H
             try go_wp2
             replace BK142 := Aside0.mk (blk_drew BK142.out)
             replace HB := Aside0.mk (below_drew1 HB.out)
             have p151 := od (0 ≤ (x5_2 : Int))
             have q151 := od (x5_2 < (l0_3.length : Int))
             obtain ⟨ad151, A151_3, c151_3, e151, hx151_0, hx151_1, hx151_2, hx151_3, hl151_3, hi151_3⟩ := at_T107 HR0_3.out x5_2 p151 q151
             have hw151_3 := hx151_3
             have hw151_2 := hx151_2
             have hw151_1 := hx151_1
             have hw151_0 := hx151_0
             cases e151
             replace hx151_0 := (HB.out.cell (World.block_lt_of_cell? w _ hx151_0)).trans hx151_0
             replace hx151_1 := (HB.out.cell (World.block_lt_of_cell? w _ hx151_1)).trans hx151_1
             replace hx151_2 := (HB.out.cell (World.block_lt_of_cell? w _ hx151_2)).trans hx151_2
             replace hx151_3 := (HB.out.cell (World.block_lt_of_cell? w _ hx151_3)).trans hx151_3
             have HR151_3 := Aside0.mk hi151_3
             have HC151_3 := Aside0.mk hl151_3
             clear hi151_3 hl151_3
             replace p151 := eq_true p151
             replace q151 := eq_true q151
             have p153 := od (0 ≤ ((ji57) : Int))
             have q153 := od ((ji57) < (l0_3.length : Int))
             obtain ⟨ad153, A153_3, c153_3, e153, hx153_0, hx153_1, hx153_2, hx153_3, hl153_3, hi153_3⟩ := at_T107 HR0_3.out (ji57) p153 q153
             have hw153_3 := hx153_3
             have hw153_2 := hx153_2
             have hw153_1 := hx153_1
             have hw153_0 := hx153_0
             obtain rfl : ad151 = ad153 := (by injection e153)
             replace hx153_0 := (HB.out.cell (World.block_lt_of_cell? w _ hx153_0)).trans hx153_0
             replace hx153_1 := (HB.out.cell (World.block_lt_of_cell? w _ hx153_1)).trans hx153_1
             replace hx153_2 := (HB.out.cell (World.block_lt_of_cell? w _ hx153_2)).trans hx153_2
             replace hx153_3 := (HB.out.cell (World.block_lt_of_cell? w _ hx153_3)).trans hx153_3
             have HR153_3 := Aside0.mk hi153_3
             have HC153_3 := Aside0.mk hl153_3
             clear hi153_3 hl153_3
             replace p153 := eq_true p153
             replace q153 := eq_true q153
             have p154 := od (0 ≤ (x5_2 : Int))
             have q154 := od (x5_2 < (l0_3.length : Int))
             obtain ⟨ad154, A154_3, c154_3, e154, hx154_0, hx154_1, hx154_2, hx154_3, hl154_3, hi154_3⟩ := at_T107 HR0_3.out x5_2 p154 q154
             have hw154_3 := hx154_3
             have hw154_2 := hx154_2
             have hw154_1 := hx154_1
             have hw154_0 := hx154_0
             obtain rfl : ad151 = ad154 := (by injection e154)
             replace hx154_0 := (HB.out.cell (World.block_lt_of_cell? w _ hx154_0)).trans hx154_0
             replace hx154_1 := (HB.out.cell (World.block_lt_of_cell? w _ hx154_1)).trans hx154_1
             replace hx154_2 := (HB.out.cell (World.block_lt_of_cell? w _ hx154_2)).trans hx154_2
             replace hx154_3 := (HB.out.cell (World.block_lt_of_cell? w _ hx154_3)).trans hx154_3
             have HR154_3 := Aside0.mk hi154_3
             have HC154_3 := Aside0.mk hl154_3
             clear hi154_3 hl154_3
             replace p154 := eq_true p154
             replace q154 := eq_true q154
             refine start_ (n := 28) (S := fun w' => w'.cell? ⟨gb142, 0, none⟩ = some (.int .i64 a0_0) ∧ w'.cell? ⟨gb142, 1, none⟩ = some (.int .i64 a0_1) ∧ w'.cell? ⟨gb142, 2, none⟩ = some (.slice A0_2 l0_2.length c0_2) ∧ w'.cell? ⟨gb142, 3, none⟩ = some (.slice (some ad151) l0_3.length c0_3) ∧ w'.cell? (ad151.add ((x5_2).toNat * 4)) = some (.string ((rd_T107 l0_3 x5_2).f0)) ∧ w'.cell? ⟨(ad151.add ((x5_2).toNat * 4)).block, (ad151.add ((x5_2).toNat * 4)).off + 1, none⟩ = some (.int .i64 ((rd_T107 l0_3 x5_2).f1.f0)) ∧ w'.cell? ⟨(ad151.add ((x5_2).toNat * 4)).block, (ad151.add ((x5_2).toNat * 4)).off + 2, none⟩ = some (.int .i64 ((rd_T107 l0_3 x5_2).f1.f1)) ∧ w'.cell? ⟨(ad151.add ((x5_2).toNat * 4)).block, (ad151.add ((x5_2).toNat * 4)).off + 3, none⟩ = some (.slice A151_3 ((rd_T107 l0_3 x5_2).f2).length c151_3) ∧ w'.cell? (ad151.add (((ji57)).toNat * 4)) = some (.string ((rd_T107 l0_3 (ji57)).f0)) ∧ w'.cell? ⟨(ad151.add (((ji57)).toNat * 4)).block, (ad151.add (((ji57)).toNat * 4)).off + 1, none⟩ = some (.int .i64 ((rd_T107 l0_3 (ji57)).f1.f0)) ∧ w'.cell? ⟨(ad151.add (((ji57)).toNat * 4)).block, (ad151.add (((ji57)).toNat * 4)).off + 2, none⟩ = some (.int .i64 ((rd_T107 l0_3 (ji57)).f1.f1)) ∧ w'.cell? ⟨(ad151.add (((ji57)).toNat * 4)).block, (ad151.add (((ji57)).toNat * 4)).off + 3, none⟩ = some (.slice A153_3 ((rd_T107 l0_3 (ji57)).f2).length c153_3) ∧ w'.cell? (ad151.add ((x5_2).toNat * 4)) = some (.string ((rd_T107 l0_3 x5_2).f0)) ∧ w'.cell? ⟨(ad151.add ((x5_2).toNat * 4)).block, (ad151.add ((x5_2).toNat * 4)).off + 1, none⟩ = some (.int .i64 ((rd_T107 l0_3 x5_2).f1.f0)) ∧ w'.cell? ⟨(ad151.add ((x5_2).toNat * 4)).block, (ad151.add ((x5_2).toNat * 4)).off + 2, none⟩ = some (.int .i64 ((rd_T107 l0_3 x5_2).f1.f1)) ∧ w'.cell? ⟨(ad151.add ((x5_2).toNat * 4)).block, (ad151.add ((x5_2).toNat * 4)).off + 3, none⟩ = some (.slice A154_3 ((rd_T107 l0_3 x5_2).f2).length c154_3)) (ds := []) _ (by kernel_rfl) rfl rfl ⟨(blk_cell BK142.out 0).trans rfl, (blk_cell BK142.out 1).trans rfl, (blk_cell BK142.out 2).trans rfl, (blk_cell BK142.out 3).trans rfl, ((HB.out.cell (World.block_lt_of_cell? w _ hw151_0)).trans hw151_0), ((HB.out.cell (World.block_lt_of_cell? w _ hw151_1)).trans hw151_1), ((HB.out.cell (World.block_lt_of_cell? w _ hw151_2)).trans hw151_2), ((HB.out.cell (World.block_lt_of_cell? w _ hw151_3)).trans hw151_3), ((HB.out.cell (World.block_lt_of_cell? w _ hw153_0)).trans hw153_0), ((HB.out.cell (World.block_lt_of_cell? w _ hw153_1)).trans hw153_1), ((HB.out.cell (World.block_lt_of_cell? w _ hw153_2)).trans hw153_2), ((HB.out.cell (World.block_lt_of_cell? w _ hw153_3)).trans hw153_3), ((HB.out.cell (World.block_lt_of_cell? w _ hw154_0)).trans hw154_0), ((HB.out.cell (World.block_lt_of_cell? w _ hw154_1)).trans hw154_1), ((HB.out.cell (World.block_lt_of_cell? w _ hw154_2)).trans hw154_2), ((HB.out.cell (World.block_lt_of_cell? w _ hw154_3)).trans hw154_3)⟩ (fun hHeld => ?_); refine with_tabW spec_StreamOk.tab10 spec_StreamOk.bits10 (fun HT_ HW_ => ?_)
             generalize wr.drew = w60 at BK142 HB HR151_3 HR153_3 HR154_3 hx151_0 hx151_1 hx151_2 hx151_3 hx153_0 hx153_1 hx153_2 hx153_3 hx154_0 hx154_1 hx154_2 hx154_3 hHeld ⊢
             refine pu 1 66 ?_; refine pu 3 68 ?_; refine tk 0 65 ?_; refine tk 2 67 ?_; refine pu 4 69 ?_; refine tk 5 70 ?_
             refine on 6 (some 71) (fun K hK => ?_)
             refine ca Try.func71 (spec_l9Group.calls k2 a0_0 a0_1 _ _ l0_2 _ _ l0_3 ((rd_T107 l0_3 x5_2).f0) ((rd_T107 l0_3 x5_2).f1.f0) ((rd_T107 l0_3 x5_2).f1.f1) _ _ ((rd_T107 l0_3 x5_2).f2) true _ ?side1 ?side2 ?side3 ?side4 ?side5 ?side6 A54.out) ?_
             (case side1 => repeat (first | exact (Kd.C_below HR0_2.out HB.out) | (with_reducible refine Kd.C_alloc ?_ _) | (with_reducible refine Kd.C_drewN ?_ _) | (with_reducible refine Kd.C_drew ?_)))
             (case side2 => exact HC0_2.out)
             (case side3 => repeat (first | exact (Kd.C_below HR0_3.out HB.out) | (with_reducible refine Kd.C_alloc ?_ _) | (with_reducible refine Kd.C_drewN ?_ _) | (with_reducible refine Kd.C_drew ?_)))
             (case side4 => exact HC0_3.out)
             (case side5 => repeat (first | exact (Kd.C_below HR151_3.out HB.out) | (with_reducible refine Kd.C_alloc ?_ _) | (with_reducible refine Kd.C_drewN ?_ _) | (with_reducible refine Kd.C_drew ?_)))
             (case side6 => exact HC151_3.out)
             rintro e w61 ⟨rfl, hb⟩
             refine ⟨_, rfl, ?_⟩
             replace BK142 := Aside0.mk (blk_below (g := gb142) (o := .cells #[.int .i64 a0_0, .int .i64 a0_1, .slice A0_2 l0_2.length c0_2, .slice (some ad151) l0_3.length c0_3] 34 (0, 0)) (by (with_reducible repeat (first | refine blk_drewN ?_ _ | refine blk_drew ?_ | refine blk_alloc ?_ _)); exact BK142.out) hb)
             replace HB := Aside0.mk (below_step (by repeat (first | (with_reducible first | exact HB.out | apply below_alloc | apply pw_below_drewN | apply below_drew1 | refine below_set ?_ GE142.out) | exact HB.out)) hb)
             (try clear hb)
             (try clear hb2)
             (try clear hk)
             (try clear hi)
             refine hK.out _ _ ⟨(blk_cell BK142.out 0).trans rfl, (blk_cell BK142.out 1).trans rfl, (blk_cell BK142.out 2).trans rfl, (blk_cell BK142.out 3).trans rfl, ((HB.out.cell (World.block_lt_of_cell? w _ hw151_0)).trans hw151_0), ((HB.out.cell (World.block_lt_of_cell? w _ hw151_1)).trans hw151_1), ((HB.out.cell (World.block_lt_of_cell? w _ hw151_2)).trans hw151_2), ((HB.out.cell (World.block_lt_of_cell? w _ hw151_3)).trans hw151_3), ((HB.out.cell (World.block_lt_of_cell? w _ hw153_0)).trans hw153_0), ((HB.out.cell (World.block_lt_of_cell? w _ hw153_1)).trans hw153_1), ((HB.out.cell (World.block_lt_of_cell? w _ hw153_2)).trans hw153_2), ((HB.out.cell (World.block_lt_of_cell? w _ hw153_3)).trans hw153_3), ((HB.out.cell (World.block_lt_of_cell? w _ hw154_0)).trans hw154_0), ((HB.out.cell (World.block_lt_of_cell? w _ hw154_1)).trans hw154_1), ((HB.out.cell (World.block_lt_of_cell? w _ hw154_2)).trans hw154_2), ((HB.out.cell (World.block_lt_of_cell? w _ hw154_3)).trans hw154_3)⟩ (fun hHeld => ?_)
             clear hK K
             refine nm ?_; refine pu 7 72 ?_; refine pu 8 73 ?_; refine pu 9 74 ?_; refine pu 10 75 ?_; refine pu 11 76 ?_; refine pu 12 77 ?_; refine pu 14 79 ?_; refine pu 15 80 ?_; refine pu 19 84 ?_; refine pu 21 86 ?_; refine tk 13 78 ?_; refine pu 16 81 ?_; refine pu 17 82 ?_; refine tk 18 83 ?_; refine tk 20 85 ?_; refine pu 22 87 ?_; refine pu 23 88 ?_; refine tk 24 89 ?_; refine pu 25 90 ?_; refine pu 26 91 ?_; refine pu 27 92 ?_
             refine dn ?_
             try go_wp2
             go_meet
             case rel => exact ⟨_, (!(Op.bytesLess (((rd_T107 l0_3 (ji57)).f0).toList) (((rd_T107 l0_3 x5_2).f0).toList))), (by first | rfl | (simp; done) | (simp only [← hji57] <;> (first | rfl | simp)) | (simp [*]; done)), H', ⟨by have := HK1.out; have := HK2.out; first | omega | exact Nat.le_refl _⟩, ⟨by (with_reducible repeat (first | refine blk_drewN ?_ _ | refine blk_drew ?_ | refine blk_alloc ?_ _)); exact BK142.out⟩, ⟨by repeat (first | (with_reducible first | exact HB.out | apply below_alloc | apply pw_below_drewN | apply below_drew1 | refine below_set ?_ GE142.out) | exact HB.out)⟩⟩
            ·rw [if_neg c59] at H
             exact absurd H (by simp)
           ·rw [if_neg c58] at H
            exact absurd H (by simp)
          ·rw [if_neg c56] at H
           have c56b0 : decide (0 < x5_2) = false := decide_eq_false c56
           clear c56
           have H' := Aside0.mk H
           clear H
           try go_wp2
           replace BK142 := Aside0.mk (blk_drew BK142.out)
           replace HB := Aside0.mk (below_drew1 HB.out)
           have p151 := od (0 ≤ (x5_2 : Int))
           have q151 := od (x5_2 < (l0_3.length : Int))
           obtain ⟨ad151, A151_3, c151_3, e151, hx151_0, hx151_1, hx151_2, hx151_3, hl151_3, hi151_3⟩ := at_T107 HR0_3.out x5_2 p151 q151
           have hw151_3 := hx151_3
           have hw151_2 := hx151_2
           have hw151_1 := hx151_1
           have hw151_0 := hx151_0
           cases e151
           replace hx151_0 := (HB.out.cell (World.block_lt_of_cell? w _ hx151_0)).trans hx151_0
           replace hx151_1 := (HB.out.cell (World.block_lt_of_cell? w _ hx151_1)).trans hx151_1
           replace hx151_2 := (HB.out.cell (World.block_lt_of_cell? w _ hx151_2)).trans hx151_2
           replace hx151_3 := (HB.out.cell (World.block_lt_of_cell? w _ hx151_3)).trans hx151_3
           have HR151_3 := Aside0.mk hi151_3
           have HC151_3 := Aside0.mk hl151_3
           clear hi151_3 hl151_3
           replace p151 := eq_true p151
           replace q151 := eq_true q151
           refine start_ (n := 28) (S := fun w' => w'.cell? ⟨gb142, 0, none⟩ = some (.int .i64 a0_0) ∧ w'.cell? ⟨gb142, 1, none⟩ = some (.int .i64 a0_1) ∧ w'.cell? ⟨gb142, 2, none⟩ = some (.slice A0_2 l0_2.length c0_2) ∧ w'.cell? ⟨gb142, 3, none⟩ = some (.slice (some ad151) l0_3.length c0_3) ∧ w'.cell? (ad151.add ((x5_2).toNat * 4)) = some (.string ((rd_T107 l0_3 x5_2).f0)) ∧ w'.cell? ⟨(ad151.add ((x5_2).toNat * 4)).block, (ad151.add ((x5_2).toNat * 4)).off + 1, none⟩ = some (.int .i64 ((rd_T107 l0_3 x5_2).f1.f0)) ∧ w'.cell? ⟨(ad151.add ((x5_2).toNat * 4)).block, (ad151.add ((x5_2).toNat * 4)).off + 2, none⟩ = some (.int .i64 ((rd_T107 l0_3 x5_2).f1.f1)) ∧ w'.cell? ⟨(ad151.add ((x5_2).toNat * 4)).block, (ad151.add ((x5_2).toNat * 4)).off + 3, none⟩ = some (.slice A151_3 ((rd_T107 l0_3 x5_2).f2).length c151_3)) (ds := []) _ (by kernel_rfl) rfl rfl ⟨(blk_cell BK142.out 0).trans rfl, (blk_cell BK142.out 1).trans rfl, (blk_cell BK142.out 2).trans rfl, (blk_cell BK142.out 3).trans rfl, ((HB.out.cell (World.block_lt_of_cell? w _ hw151_0)).trans hw151_0), ((HB.out.cell (World.block_lt_of_cell? w _ hw151_1)).trans hw151_1), ((HB.out.cell (World.block_lt_of_cell? w _ hw151_2)).trans hw151_2), ((HB.out.cell (World.block_lt_of_cell? w _ hw151_3)).trans hw151_3)⟩ (fun hHeld => ?_); refine with_tabW spec_StreamOk.tab10 spec_StreamOk.bits10 (fun HT_ HW_ => ?_)
           generalize wr.drew = w62 at BK142 HB HR151_3 hx151_0 hx151_1 hx151_2 hx151_3 hHeld ⊢
           refine pu 1 66 ?_; refine pu 3 68 ?_; refine tk 0 65 ?_; refine tk 2 67 ?_; refine pu 4 69 ?_; refine tk 5 70 ?_
           refine on 6 (some 71) (fun K hK => ?_)
           refine ca Try.func71 (spec_l9Group.calls k2 a0_0 a0_1 _ _ l0_2 _ _ l0_3 ((rd_T107 l0_3 x5_2).f0) ((rd_T107 l0_3 x5_2).f1.f0) ((rd_T107 l0_3 x5_2).f1.f1) _ _ ((rd_T107 l0_3 x5_2).f2) true _ ?side1 ?side2 ?side3 ?side4 ?side5 ?side6 A54.out) ?_
           (case side1 => repeat (first | exact (Kd.C_below HR0_2.out HB.out) | (with_reducible refine Kd.C_alloc ?_ _) | (with_reducible refine Kd.C_drewN ?_ _) | (with_reducible refine Kd.C_drew ?_)))
           (case side2 => exact HC0_2.out)
           (case side3 => repeat (first | exact (Kd.C_below HR0_3.out HB.out) | (with_reducible refine Kd.C_alloc ?_ _) | (with_reducible refine Kd.C_drewN ?_ _) | (with_reducible refine Kd.C_drew ?_)))
           (case side4 => exact HC0_3.out)
           (case side5 => repeat (first | exact (Kd.C_below HR151_3.out HB.out) | (with_reducible refine Kd.C_alloc ?_ _) | (with_reducible refine Kd.C_drewN ?_ _) | (with_reducible refine Kd.C_drew ?_)))
           (case side6 => exact HC151_3.out)
           rintro e w63 ⟨rfl, hb⟩
           refine ⟨_, rfl, ?_⟩
           replace BK142 := Aside0.mk (blk_below (g := gb142) (o := .cells #[.int .i64 a0_0, .int .i64 a0_1, .slice A0_2 l0_2.length c0_2, .slice (some ad151) l0_3.length c0_3] 34 (0, 0)) (by (with_reducible repeat (first | refine blk_drewN ?_ _ | refine blk_drew ?_ | refine blk_alloc ?_ _)); exact BK142.out) hb)
           replace HB := Aside0.mk (below_step (by repeat (first | (with_reducible first | exact HB.out | apply below_alloc | apply pw_below_drewN | apply below_drew1 | refine below_set ?_ GE142.out) | exact HB.out)) hb)
           (try clear hb)
           (try clear hb2)
           (try clear hk)
           (try clear hi)
           refine hK.out _ _ ⟨(blk_cell BK142.out 0).trans rfl, (blk_cell BK142.out 1).trans rfl, (blk_cell BK142.out 2).trans rfl, (blk_cell BK142.out 3).trans rfl, ((HB.out.cell (World.block_lt_of_cell? w _ hw151_0)).trans hw151_0), ((HB.out.cell (World.block_lt_of_cell? w _ hw151_1)).trans hw151_1), ((HB.out.cell (World.block_lt_of_cell? w _ hw151_2)).trans hw151_2), ((HB.out.cell (World.block_lt_of_cell? w _ hw151_3)).trans hw151_3)⟩ (fun hHeld => ?_)
           clear hK K
           refine nm ?_; refine pu 7 72 ?_; refine pu 8 73 ?_; refine pu 9 74 ?_; refine pu 10 75 ?_; refine pu 11 76 ?_; refine of 12 77 ?_; refine of 13 78 ?_; refine of 14 79 ?_; refine of 15 80 ?_; refine of 16 81 ?_; refine of 17 82 ?_; refine of 18 83 ?_; refine of 19 84 ?_; refine of 20 85 ?_; refine of 21 86 ?_; refine of 22 87 ?_; refine of 23 88 ?_; refine of 24 89 ?_; refine of 25 90 ?_; refine pu 26 91 ?_; refine pu 27 92 ?_
           refine dn ?_
           try go_wp2
           go_meet
           case rel => exact ⟨_, (false), (by first | rfl | (simp; done) | (simp [*]; done)), H', ⟨by have := HK1.out; have := HK2.out; first | omega | exact Nat.le_refl _⟩, ⟨by (with_reducible repeat (first | refine blk_drewN ?_ _ | refine blk_drew ?_ | refine blk_alloc ?_ _)); exact BK142.out⟩, ⟨by repeat (first | (with_reducible first | exact HB.out | apply below_alloc | apply pw_below_drewN | apply below_drew1 | refine below_set ?_ GE142.out) | exact HB.out)⟩⟩
         ·replace c55 := Bool.eq_false_iff.mpr c55
          subst c55
          have H1 : (spec_StreamOk.j3 k2 x5_2 true a0_0 a0_1 l0_2 l0_3) = some r := by rw [if_neg (show ¬ (false = true) by decide)] at H; exact H
          clear H
          have H := H1
          clear H1
          have H' := Aside0.mk H
          clear H
          try go_wp2
          replace BK142 := Aside0.mk (blk_drew BK142.out)
          replace HB := Aside0.mk (below_drew1 HB.out)
          have p151 := od (0 ≤ (x5_2 : Int))
          have q151 := od (x5_2 < (l0_3.length : Int))
          obtain ⟨ad151, A151_3, c151_3, e151, hx151_0, hx151_1, hx151_2, hx151_3, hl151_3, hi151_3⟩ := at_T107 HR0_3.out x5_2 p151 q151
          have hw151_3 := hx151_3
          have hw151_2 := hx151_2
          have hw151_1 := hx151_1
          have hw151_0 := hx151_0
          cases e151
          replace hx151_0 := (HB.out.cell (World.block_lt_of_cell? w _ hx151_0)).trans hx151_0
          replace hx151_1 := (HB.out.cell (World.block_lt_of_cell? w _ hx151_1)).trans hx151_1
          replace hx151_2 := (HB.out.cell (World.block_lt_of_cell? w _ hx151_2)).trans hx151_2
          replace hx151_3 := (HB.out.cell (World.block_lt_of_cell? w _ hx151_3)).trans hx151_3
          have HR151_3 := Aside0.mk hi151_3
          have HC151_3 := Aside0.mk hl151_3
          clear hi151_3 hl151_3
          replace p151 := eq_true p151
          replace q151 := eq_true q151
          refine start_ (n := 28) (S := fun w' => w'.cell? ⟨gb142, 0, none⟩ = some (.int .i64 a0_0) ∧ w'.cell? ⟨gb142, 1, none⟩ = some (.int .i64 a0_1) ∧ w'.cell? ⟨gb142, 2, none⟩ = some (.slice A0_2 l0_2.length c0_2) ∧ w'.cell? ⟨gb142, 3, none⟩ = some (.slice (some ad151) l0_3.length c0_3) ∧ w'.cell? (ad151.add ((x5_2).toNat * 4)) = some (.string ((rd_T107 l0_3 x5_2).f0)) ∧ w'.cell? ⟨(ad151.add ((x5_2).toNat * 4)).block, (ad151.add ((x5_2).toNat * 4)).off + 1, none⟩ = some (.int .i64 ((rd_T107 l0_3 x5_2).f1.f0)) ∧ w'.cell? ⟨(ad151.add ((x5_2).toNat * 4)).block, (ad151.add ((x5_2).toNat * 4)).off + 2, none⟩ = some (.int .i64 ((rd_T107 l0_3 x5_2).f1.f1)) ∧ w'.cell? ⟨(ad151.add ((x5_2).toNat * 4)).block, (ad151.add ((x5_2).toNat * 4)).off + 3, none⟩ = some (.slice A151_3 ((rd_T107 l0_3 x5_2).f2).length c151_3)) (ds := []) _ (by kernel_rfl) rfl rfl ⟨(blk_cell BK142.out 0).trans rfl, (blk_cell BK142.out 1).trans rfl, (blk_cell BK142.out 2).trans rfl, (blk_cell BK142.out 3).trans rfl, ((HB.out.cell (World.block_lt_of_cell? w _ hw151_0)).trans hw151_0), ((HB.out.cell (World.block_lt_of_cell? w _ hw151_1)).trans hw151_1), ((HB.out.cell (World.block_lt_of_cell? w _ hw151_2)).trans hw151_2), ((HB.out.cell (World.block_lt_of_cell? w _ hw151_3)).trans hw151_3)⟩ (fun hHeld => ?_); refine with_tabW spec_StreamOk.tab10 spec_StreamOk.bits10 (fun HT_ HW_ => ?_)
          generalize wr.drew = w64 at BK142 HB HR151_3 hx151_0 hx151_1 hx151_2 hx151_3 hHeld ⊢
          refine pu 1 66 ?_; refine pu 3 68 ?_; refine tk 0 65 ?_; refine tk 2 67 ?_; refine pu 4 69 ?_; refine tk 5 70 ?_
          refine on 6 (some 71) (fun K hK => ?_)
          refine ca Try.func71 (spec_l9Group.calls k2 a0_0 a0_1 _ _ l0_2 _ _ l0_3 ((rd_T107 l0_3 x5_2).f0) ((rd_T107 l0_3 x5_2).f1.f0) ((rd_T107 l0_3 x5_2).f1.f1) _ _ ((rd_T107 l0_3 x5_2).f2) false _ ?side1 ?side2 ?side3 ?side4 ?side5 ?side6 A54.out) ?_
          (case side1 => repeat (first | exact (Kd.C_below HR0_2.out HB.out) | (with_reducible refine Kd.C_alloc ?_ _) | (with_reducible refine Kd.C_drewN ?_ _) | (with_reducible refine Kd.C_drew ?_)))
          (case side2 => exact HC0_2.out)
          (case side3 => repeat (first | exact (Kd.C_below HR0_3.out HB.out) | (with_reducible refine Kd.C_alloc ?_ _) | (with_reducible refine Kd.C_drewN ?_ _) | (with_reducible refine Kd.C_drew ?_)))
          (case side4 => exact HC0_3.out)
          (case side5 => repeat (first | exact (Kd.C_below HR151_3.out HB.out) | (with_reducible refine Kd.C_alloc ?_ _) | (with_reducible refine Kd.C_drewN ?_ _) | (with_reducible refine Kd.C_drew ?_)))
          (case side6 => exact HC151_3.out)
          rintro e w65 ⟨rfl, hb⟩
          refine ⟨_, rfl, ?_⟩
          replace BK142 := Aside0.mk (blk_below (g := gb142) (o := .cells #[.int .i64 a0_0, .int .i64 a0_1, .slice A0_2 l0_2.length c0_2, .slice (some ad151) l0_3.length c0_3] 34 (0, 0)) (by (with_reducible repeat (first | refine blk_drewN ?_ _ | refine blk_drew ?_ | refine blk_alloc ?_ _)); exact BK142.out) hb)
          replace HB := Aside0.mk (below_step (by repeat (first | (with_reducible first | exact HB.out | apply below_alloc | apply pw_below_drewN | apply below_drew1 | refine below_set ?_ GE142.out) | exact HB.out)) hb)
          (try clear hb)
          (try clear hb2)
          (try clear hk)
          (try clear hi)
          refine hK.out _ _ ⟨(blk_cell BK142.out 0).trans rfl, (blk_cell BK142.out 1).trans rfl, (blk_cell BK142.out 2).trans rfl, (blk_cell BK142.out 3).trans rfl, ((HB.out.cell (World.block_lt_of_cell? w _ hw151_0)).trans hw151_0), ((HB.out.cell (World.block_lt_of_cell? w _ hw151_1)).trans hw151_1), ((HB.out.cell (World.block_lt_of_cell? w _ hw151_2)).trans hw151_2), ((HB.out.cell (World.block_lt_of_cell? w _ hw151_3)).trans hw151_3)⟩ (fun hHeld => ?_)
          clear hK K
          refine nm ?_; refine pu 7 72 ?_; refine pu 8 73 ?_; refine of 9 74 ?_; refine of 10 75 ?_; refine of 11 76 ?_; refine of 12 77 ?_; refine of 13 78 ?_; refine of 14 79 ?_; refine of 15 80 ?_; refine of 16 81 ?_; refine of 17 82 ?_; refine of 18 83 ?_; refine of 19 84 ?_; refine of 20 85 ?_; refine of 21 86 ?_; refine of 22 87 ?_; refine of 23 88 ?_; refine of 24 89 ?_; refine of 25 90 ?_; refine of 26 91 ?_; refine pu 27 92 ?_
          refine dn ?_
          try go_wp2
          go_meet
          case rel => exact ⟨_, (true), (by first | rfl | (simp; done) | (simp [*]; done)), H', ⟨by have := HK1.out; have := HK2.out; first | omega | exact Nat.le_refl _⟩, ⟨by (with_reducible repeat (first | refine blk_drewN ?_ _ | refine blk_drew ?_ | refine blk_alloc ?_ _)); exact BK142.out⟩, ⟨by repeat (first | (with_reducible first | exact HB.out | apply below_alloc | apply pw_below_drewN | apply below_drew1 | refine below_set ?_ GE142.out) | exact HB.out)⟩⟩
        ·rw [if_neg c53] at H
         exact absurd H (by simp)
       case rest =>
        clear HC52
        try clear c1
        try clear p1
        try clear q1
        try clear hx1
        try clear p2
        try clear c5
        try clear c7
        try clear c15
        try clear p15
        try clear q15
        try clear hx15
        try clear c53
        try clear c55
        try clear c56
        try clear c56b0
        try clear c58
        try clear c59
        try clear hx151_0
        try clear hx151_1
        try clear hx151_2
        try clear hx151_3
        try clear p151
        try clear q151
        obtain ⟨kq, x92_51, rfl, HA, HJ51, BK142, HB⟩ := hcut
        cases kq with
        | zero => exact absurd HA.out (by simp [spec_StreamOk.j3])
        | succ kj51 =>
         have H := HA.out
         clear HA
         simp only [spec_StreamOk.j3] at H
         by_cases c66 : x92_51 = true
         ·subst c66
          have H1 : (some false) = some r := by rw [if_pos rfl] at H; exact H
          clear H
          have H := H1
          clear H1
          obtain rfl := Option.some.inj H
          go_wp2
          go_ret
          exact ⟨by first | rfl | (simp [errW_none, errW_some] <;> rfl) | (simp [*, errW_none, errW_some] <;> rfl), by repeat (first | (with_reducible first | exact HB.out | apply below_alloc | apply pw_below_drewN | apply below_drew1 | refine below_set ?_ GE142.out) | exact HB.out)⟩
         ·replace c66 := Bool.eq_false_iff.mpr c66
          subst c66
          have H1 : (spec_StreamOk.l1 kj51 (wrap64 (x5_2 + 1)) a0_0 a0_1 l0_2 l0_3) = some r := by rw [if_neg (show ¬ (false = true) by decide)] at H; exact H
          clear H
          have H := H1
          clear H1
          have H' := Aside0.mk H
          clear H
          go_wp2
          go_roundg kj51
          case measure => have := HK1.out; have := HK2.out; have := HJ51.out; omega
          case rel => exact ⟨(wrap64 (x5_2 + 1)), (by first | rfl | (simp; done) | (simp [*]; done)), H', ⟨by have := HK1.out; have := HK2.out; have := HJ51.out; omega⟩, ⟨by (with_reducible repeat (first | refine blk_drewN ?_ _ | refine blk_drew ?_ | refine blk_alloc ?_ _)); exact BK142.out⟩, ⟨by repeat (first | (with_reducible first | exact HB.out | apply below_alloc | apply pw_below_drewN | apply below_drew1 | refine below_set ?_ GE142.out) | exact HB.out)⟩⟩
      ·rw [if_neg c51] at H
       have c51b0 : decide (x5_2 < (l0_3.length : Int)) = false := decide_eq_false c51
       clear c51
       (first | rw [c51b0] | rw [c51b1] | (simp only [i64_w, i32_w]; rw [c51b0]) | rw [c51b2] | skip)
       replace H := Option.bind_eq_some_iff.mp H
       obtain ⟨t150, A670, H⟩ := H
       replace H : (if t150 = true then (if (l0_2.length : Int) ≤ 16 then (some (decide ((l0_3.length : Int) ≤ 3))) else (some false)) else (some false)) = some r := H
       have A67 := Aside0.mk A670
       clear A670
       by_cases c68 : t150 = true
       ·subst c68
        have H1 : (if (l0_2.length : Int) ≤ 16 then (some (decide ((l0_3.length : Int) ≤ 3))) else (some false)) = some r := by rw [if_pos rfl] at H; exact H
        clear H
        have H := H1
        clear H1
        by_cases c69 : (l0_2.length : Int) ≤ 16
        ·rw [if_pos c69] at H
         have c69b0 : decide ((l0_2.length : Int) ≤ 16) = true := decide_eq_true c69
         have c69b1 : decide (l0_2.length ≤ 16) = true := decide_eq_true (by omega)
         clear c69
         obtain rfl := Option.some.inj H
         have hcz70_0 : wr.cell? ⟨gb142, 0, none⟩ = some (.int .i64 a0_0) := (blk_cell BK142.out 0).trans rfl
         have hcz70_1 : wr.cell? ⟨gb142, 1, none⟩ = some (.int .i64 a0_1) := (blk_cell BK142.out 1).trans rfl
         have hcz70_2 : wr.cell? ⟨gb142, 2, none⟩ = some (.slice A0_2 l0_2.length c0_2) := (blk_cell BK142.out 2).trans rfl
         have hcz70_3 : wr.cell? ⟨gb142, 3, none⟩ = some (.slice A0_3 l0_3.length c0_3) := (blk_cell BK142.out 3).trans rfl
         have hfz70_0 := blk_frozen BK142.out 0
         have hfz70_1 := blk_frozen BK142.out 1
         have hfz70_2 := blk_frozen BK142.out 2
         have hfz70_3 := blk_frozen BK142.out 3
         go_wp2_with (first | ((with_reducible refine gate_callee (f := 68) rfl ?_); refine goesL_ (some 95) rfl rfl Try.func68 (by kernel_rfl) rfl #[.agg #[.int .i64 a0_0, .int .i64 a0_1]] rfl (by (try simp only [List.map_toArray, List.map_cons, List.map_nil]); first | done | rfl | (simp only [List.length_drop, List.length_take]; rfl)) ?_; (with_reducible refine (spec_l9Id.calls a0_0 a0_1 true _ A67.out).mono ?_); rintro e w71 ⟨rfl, hb⟩; refine ⟨_, rfl, ?_⟩; have n0_ := Aside0.mk (blk_below (g := gb142) (o := .cells #[.int .i64 a0_0, .int .i64 a0_1, .slice A0_2 l0_2.length c0_2, .slice A0_3 l0_3.length c0_3] 34 (0, 0)) (by (with_reducible repeat (first | refine blk_drewN ?_ _ | refine blk_drew ?_ | refine blk_alloc ?_ _)); exact BK142.out) hb); have n1_ := Aside0.mk (below_step (by repeat (first | (with_reducible first | exact HB.out | apply below_alloc | apply pw_below_drewN | apply below_drew1 | refine below_set ?_ GE142.out) | exact HB.out)) hb); clear BK142; clear HB; have BK142 := n0_; have HB := n1_; clear n0_ n1_; (try clear hb); (try clear hb2); (try clear hk); (try clear hi); have hcz72_0 : w71.cell? ⟨gb142, 0, none⟩ = some (.int .i64 a0_0) := (blk_cell BK142.out 0).trans rfl; have hcz72_1 : w71.cell? ⟨gb142, 1, none⟩ = some (.int .i64 a0_1) := (blk_cell BK142.out 1).trans rfl; have hcz72_2 : w71.cell? ⟨gb142, 2, none⟩ = some (.slice A0_2 l0_2.length c0_2) := (blk_cell BK142.out 2).trans rfl; have hcz72_3 : w71.cell? ⟨gb142, 3, none⟩ = some (.slice A0_3 l0_3.length c0_3) := (blk_cell BK142.out 3).trans rfl; have hfz72_0 := blk_frozen BK142.out 0; have hfz72_1 := blk_frozen BK142.out 1; have hfz72_2 := blk_frozen BK142.out 2; have hfz72_3 := blk_frozen BK142.out 3))
         go_ret
         exact ⟨by first | rfl | (simp [errW_none, errW_some] <;> rfl) | (simp [*, errW_none, errW_some] <;> rfl), by repeat (first | (with_reducible first | exact HB.out | apply below_alloc | apply pw_below_drewN | apply below_drew1 | refine below_set ?_ GE142.out) | exact HB.out)⟩
        ·rw [if_neg c69] at H
         have c69b0 : decide ((l0_2.length : Int) ≤ 16) = false := decide_eq_false c69
         have c69b1 : decide (l0_2.length ≤ 16) = false := decide_eq_false (by omega)
         clear c69
         obtain rfl := Option.some.inj H
         have hcz73_0 : wr.cell? ⟨gb142, 0, none⟩ = some (.int .i64 a0_0) := (blk_cell BK142.out 0).trans rfl
         have hcz73_1 : wr.cell? ⟨gb142, 1, none⟩ = some (.int .i64 a0_1) := (blk_cell BK142.out 1).trans rfl
         have hcz73_2 : wr.cell? ⟨gb142, 2, none⟩ = some (.slice A0_2 l0_2.length c0_2) := (blk_cell BK142.out 2).trans rfl
         have hcz73_3 : wr.cell? ⟨gb142, 3, none⟩ = some (.slice A0_3 l0_3.length c0_3) := (blk_cell BK142.out 3).trans rfl
         have hfz73_0 := blk_frozen BK142.out 0
         have hfz73_1 := blk_frozen BK142.out 1
         have hfz73_2 := blk_frozen BK142.out 2
         have hfz73_3 := blk_frozen BK142.out 3
         go_wp2_with (first | ((with_reducible refine gate_callee (f := 68) rfl ?_); refine goesL_ (some 95) rfl rfl Try.func68 (by kernel_rfl) rfl #[.agg #[.int .i64 a0_0, .int .i64 a0_1]] rfl (by (try simp only [List.map_toArray, List.map_cons, List.map_nil]); first | done | rfl | (simp only [List.length_drop, List.length_take]; rfl)) ?_; (with_reducible refine (spec_l9Id.calls a0_0 a0_1 true _ A67.out).mono ?_); rintro e w74 ⟨rfl, hb⟩; refine ⟨_, rfl, ?_⟩; have n0_ := Aside0.mk (blk_below (g := gb142) (o := .cells #[.int .i64 a0_0, .int .i64 a0_1, .slice A0_2 l0_2.length c0_2, .slice A0_3 l0_3.length c0_3] 34 (0, 0)) (by (with_reducible repeat (first | refine blk_drewN ?_ _ | refine blk_drew ?_ | refine blk_alloc ?_ _)); exact BK142.out) hb); have n1_ := Aside0.mk (below_step (by repeat (first | (with_reducible first | exact HB.out | apply below_alloc | apply pw_below_drewN | apply below_drew1 | refine below_set ?_ GE142.out) | exact HB.out)) hb); clear BK142; clear HB; have BK142 := n0_; have HB := n1_; clear n0_ n1_; (try clear hb); (try clear hb2); (try clear hk); (try clear hi); have hcz75_0 : w74.cell? ⟨gb142, 0, none⟩ = some (.int .i64 a0_0) := (blk_cell BK142.out 0).trans rfl; have hcz75_1 : w74.cell? ⟨gb142, 1, none⟩ = some (.int .i64 a0_1) := (blk_cell BK142.out 1).trans rfl; have hcz75_2 : w74.cell? ⟨gb142, 2, none⟩ = some (.slice A0_2 l0_2.length c0_2) := (blk_cell BK142.out 2).trans rfl; have hcz75_3 : w74.cell? ⟨gb142, 3, none⟩ = some (.slice A0_3 l0_3.length c0_3) := (blk_cell BK142.out 3).trans rfl; have hfz75_0 := blk_frozen BK142.out 0; have hfz75_1 := blk_frozen BK142.out 1; have hfz75_2 := blk_frozen BK142.out 2; have hfz75_3 := blk_frozen BK142.out 3))
         go_ret
         exact ⟨by first | rfl | (simp [errW_none, errW_some] <;> rfl) | (simp [*, errW_none, errW_some] <;> rfl), by repeat (first | (with_reducible first | exact HB.out | apply below_alloc | apply pw_below_drewN | apply below_drew1 | refine below_set ?_ GE142.out) | exact HB.out)⟩
       ·replace c68 := Bool.eq_false_iff.mpr c68
        subst c68
        have H1 : (some false) = some r := by rw [if_neg (show ¬ (false = true) by decide)] at H; exact H
        clear H
        have H := H1
        clear H1
        obtain rfl := Option.some.inj H
        have hcz76_0 : wr.cell? ⟨gb142, 0, none⟩ = some (.int .i64 a0_0) := (blk_cell BK142.out 0).trans rfl
        have hcz76_1 : wr.cell? ⟨gb142, 1, none⟩ = some (.int .i64 a0_1) := (blk_cell BK142.out 1).trans rfl
        have hcz76_2 : wr.cell? ⟨gb142, 2, none⟩ = some (.slice A0_2 l0_2.length c0_2) := (blk_cell BK142.out 2).trans rfl
        have hcz76_3 : wr.cell? ⟨gb142, 3, none⟩ = some (.slice A0_3 l0_3.length c0_3) := (blk_cell BK142.out 3).trans rfl
        have hfz76_0 := blk_frozen BK142.out 0
        have hfz76_1 := blk_frozen BK142.out 1
        have hfz76_2 := blk_frozen BK142.out 2
        have hfz76_3 := blk_frozen BK142.out 3
        go_wp2_with (first | ((with_reducible refine gate_callee (f := 68) rfl ?_); refine goesL_ (some 95) rfl rfl Try.func68 (by kernel_rfl) rfl #[.agg #[.int .i64 a0_0, .int .i64 a0_1]] rfl (by (try simp only [List.map_toArray, List.map_cons, List.map_nil]); first | done | rfl | (simp only [List.length_drop, List.length_take]; rfl)) ?_; (with_reducible refine (spec_l9Id.calls a0_0 a0_1 false _ A67.out).mono ?_); rintro e w77 ⟨rfl, hb⟩; refine ⟨_, rfl, ?_⟩; have n0_ := Aside0.mk (blk_below (g := gb142) (o := .cells #[.int .i64 a0_0, .int .i64 a0_1, .slice A0_2 l0_2.length c0_2, .slice A0_3 l0_3.length c0_3] 34 (0, 0)) (by (with_reducible repeat (first | refine blk_drewN ?_ _ | refine blk_drew ?_ | refine blk_alloc ?_ _)); exact BK142.out) hb); have n1_ := Aside0.mk (below_step (by repeat (first | (with_reducible first | exact HB.out | apply below_alloc | apply pw_below_drewN | apply below_drew1 | refine below_set ?_ GE142.out) | exact HB.out)) hb); clear BK142; clear HB; have BK142 := n0_; have HB := n1_; clear n0_ n1_; (try clear hb); (try clear hb2); (try clear hk); (try clear hi)))
        go_ret
        exact ⟨by first | rfl | (simp [errW_none, errW_some] <;> rfl) | (simp [*, errW_none, errW_some] <;> rfl), by repeat (first | (with_reducible first | exact HB.out | apply below_alloc | apply pw_below_drewN | apply below_drew1 | refine below_set ?_ GE142.out) | exact HB.out)⟩
end Go.Proofs.Ytofiljboaegekaa.PFnExactStreamOk
