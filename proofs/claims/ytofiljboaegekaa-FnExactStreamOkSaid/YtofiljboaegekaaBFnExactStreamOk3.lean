/- Texts of this claim, packed: walks and laws that its row stands on. Each states its own conditions. -/
import Derived.Test.YtofiljboaegekaaBFnExactStreamOk0
import Derived.Test.YtofiljboaegekaaBFnExactStreamOk2
namespace Go.Proofs.Ytofiljboaegekaa.PFnExactStreamOk
open Go.RowKit Go.Proofs.YtofiljboaegekaaW.PrintWords Go.Proofs.YtofiljboaegekaaW.PrintLast Go.Proofs.YtofiljboaegekaaW.PrintMore Go.Proofs.Ytofiljboaegekaa.Reg
attribute [local go_sem] max2_int min2_int max_two min_two max_three min_three max_four min_four
set_option linter.unusedVariables false
set_option linter.unusedSimpArgs false
mutual
def impl_groupOk.l0 : Nat → List (S57) → Int → Int → ByteArray → Int → Int → List (S57) → Option (Bool)
 | 0, _, _, _, _, _, _, _ => none
 | k + 1, x6, x7, x8, x254000, x254001, x254002, x254003 => if x8 < x7 then (if 0 ≤ x8 then (if x8 < (x6.length : Int) then ((impl_idOk.f ((rd_T57 x6 x8).f0.f0) ((rd_T57 x6 x8).f0.f1)).bind fun t256 => (if t256 = true then (if x8 > 0 then (if 0 ≤ (wrap64 (x8 - 1)) then (if (wrap64 (x8 - 1)) < (x254003.length : Int) then ((impl_idOrder.f k ((rd_T57 x254003 (wrap64 (x8 - 1))).f0.f0) ((rd_T57 x254003 (wrap64 (x8 - 1))).f0.f1) ((rd_T57 x6 x8).f0.f0) ((rd_T57 x6 x8).f0.f1)).bind fun t258 => (if t258 ≥ 0 then (impl_groupOk.j1 k x6 x7 x8 true x254000 x254001 x254002 x254003 ((rd_T57 x6 x8).f0.f0) ((rd_T57 x6 x8).f0.f1) ((rd_T57 x6 x8).f1) ((rd_T57 x6 x8).f2) ((rd_T57 x6 x8).f3)) else ((impl_IdLess.f k x254001 x254002 ((rd_T57 x6 x8).f0.f0) ((rd_T57 x6 x8).f0.f1)).bind fun t259 => (impl_groupOk.j1 k x6 x7 x8 t259 x254000 x254001 x254002 x254003 ((rd_T57 x6 x8).f0.f0) ((rd_T57 x6 x8).f0.f1) ((rd_T57 x6 x8).f1) ((rd_T57 x6 x8).f2) ((rd_T57 x6 x8).f3))))) else (none)) else (none)) else ((impl_IdLess.f k x254001 x254002 ((rd_T57 x6 x8).f0.f0) ((rd_T57 x6 x8).f0.f1)).bind fun t260 => (impl_groupOk.j1 k x6 x7 x8 t260 x254000 x254001 x254002 x254003 ((rd_T57 x6 x8).f0.f0) ((rd_T57 x6 x8).f0.f1) ((rd_T57 x6 x8).f1) ((rd_T57 x6 x8).f2) ((rd_T57 x6 x8).f3)))) else (impl_groupOk.j1 k x6 x7 x8 true x254000 x254001 x254002 x254003 ((rd_T57 x6 x8).f0.f0) ((rd_T57 x6 x8).f0.f1) ((rd_T57 x6 x8).f1) ((rd_T57 x6 x8).f2) ((rd_T57 x6 x8).f3)))) else (none)) else (none)) else ((impl_keyOk.f x254000).bind fun t264 => (if t264 = true then ((impl_idOk.f x254001 x254002).bind fun t265 => (if t265 = true then (some (decide ((x254003.length : Int) ≤ 16))) else (some false))) else (some false)))
def impl_groupOk.j1 : Nat → List (S57) → Int → Int → Bool → ByteArray → Int → Int → List (S57) → Int → Int → ByteArray → Int → Int → Option (Bool)
 | 0, _, _, _, _, _, _, _, _, _, _, _, _, _ => none
 | k + 1, x6, x7, x8, x40, x254000, x254001, x254002, x254003, x256000, x256001, x256002, x256003, x256004 => if x40 = true then (some false) else ((impl_keyOk.f x256002).bind fun t261 => (if t261 = true then ((impl_within.f x256003 0 1000000).bind fun t262 => (if t262 = true then ((impl_within.f x256004 1 1000000000).bind fun t263 => (impl_groupOk.j2 k x6 x7 x8 (!t263) x254000 x254001 x254002 x254003)) else (impl_groupOk.j2 k x6 x7 x8 true x254000 x254001 x254002 x254003))) else (impl_groupOk.j2 k x6 x7 x8 true x254000 x254001 x254002 x254003)))
def impl_groupOk.j2 : Nat → List (S57) → Int → Int → Bool → ByteArray → Int → Int → List (S57) → Option (Bool)
 | 0, _, _, _, _, _, _, _, _ => none
 | k + 1, x6, x7, x8, x56, x254000, x254001, x254002, x254003 => if x56 = true then (some false) else (impl_groupOk.l0 k x6 x7 (wrap64 (x8 + 1)) x254000 x254001 x254002 x254003)
end
def impl_groupOk.f (k : Nat) (a0_0 : ByteArray) (a0_1 : Int) (a0_2 : Int) (l0_3 : List (S57)) : Option (Bool) := impl_groupOk.l0 k l0_3 (l0_3.length : Int) 0 a0_0 a0_1 a0_2 l0_3
def impl_groupOk.T4 : Bool × List (List Nat × List Nat) := (true, [([], []), ([0], [0]), ([1], [1]), ([2], [2]), ([3, 2], [3]), ([4], [4]), ([5, 4], [4, 5]), ([6, 4, 4], [4, 6]), ([7], [7]), ([8, 7], [7, 8]), ([7], [7]), ([10, 7], [7, 10]), ([9, 11, 7], [7, 9, 11]), ([12, 7], [7, 12]), ([13, 7], [7, 13]), ([7], [7]), ([15, 7], [7, 15]), ([14, 16, 7, 7], [7, 14, 16]), ([17, 7], [7, 17]), ([7, 18, 4], [4, 7, 18]), ([4, 19], [4, 19]), ([20, 17], [20]), ([21], [21]), ([22, 21], [21, 22]), ([21], [21]), ([24, 21], [21, 24]), ([23, 25, 21, 21], [21, 23, 25]), ([21, 26], [21, 26])])
def impl_groupOk.B4 : List Nat := [0, 1, 3, 7, 15, 31, 63, 127, 255, 511, 255, 1279, 4095, 8191, 16383, 255, 33023, 131071, 262143, 524287, 1048575, 2097151, 4194303, 8388607, 4194303, 20971519, 67108863, 134217727]
theorem impl_groupOk.tab4 : rtab .any (opsOf Try.f77 4) = impl_groupOk.T4 := by kernel_rfl
theorem impl_groupOk.bits4 : waitsOk impl_groupOk.T4.2 impl_groupOk.B4 = true := by kernel_rfl
set_option maxHeartbeats 8000000 in
set_option maxRecDepth 100000 in
theorem impl_groupOk.calls (k : Nat) (a0_0 : ByteArray) (a0_1 : Int) (a0_2 : Int) (A0_3 : Option Addr) (c0_3 : Nat) (l0_3 : List (S57)) (r : Bool) (w : World) (hr0_3 : Kd.C k57 w A0_3 l0_3.length l0_3) (hc0_3 : l0_3.length ≤ c0_3) (h : impl_groupOk.f k a0_0 a0_1 a0_2 l0_3 = some r) :
  Calls Try.prog 77 #[.agg #[.string a0_0, .int .i64 a0_1, .int .i64 a0_2, .slice A0_3 l0_3.length c0_3]] w fun e w' => e = .returned (.bool r) ∧ Below w.heap.size w w' := by
 have hu107 := Try.underlying107
 have hu57 := Try.underlying57
 have hu30 := Try.underlying30
 have HR0_3 := Aside0.mk hr0_3
 have HC0_3 := Aside0.mk hc0_3
 clear hr0_3 hc0_3
 have HB := Aside0.mk (Below.refl w.heap.size w)
 have H : (impl_groupOk.l0 k l0_3 (l0_3.length : Int) 0 a0_0 a0_1 a0_2 l0_3) = some r := h
 clear h
 have H' := Aside0.mk H
 clear H
 go_enter Try.func77, Try.ntmps77
 go_wp2_with (first | ((with_reducible refine gate_dst (N := 1) rfl ?_); (try (refine gate_guard (by rfl) ?_; dsimp only)); refine box_event ?hg (N := 1) ?hd (cs := #[.string a0_0, .int .i64 a0_1, .int .i64 a0_2, .slice A0_3 l0_3.length c0_3]) (t := 107) ?hr ?_; (case hd => rfl); (case hg => rfl); (case hr => first | (go_simp; done) | (go_simp; rfl)); intro gb253 hg w2 hbox hb; have n0_ := Aside0.mk (below_step (by repeat (first | (with_reducible first | exact HB.out | apply below_alloc | apply pw_below_drewN | apply below_drew1) | exact HB.out)) hb); have n1_ := Aside0.mk (hbox); have n2_ := Aside0.mk ((by rw [hg]; exact (below_size (by repeat (first | (with_reducible first | exact HB.out | apply below_alloc | apply pw_below_drewN | apply below_drew1) | exact HB.out))) : w.heap.size ≤ gb253)); have n3_ := Aside0.mk ((by rw [hg]; exact (below_size (by repeat (first | (with_reducible first | exact HB.out | apply below_alloc | apply pw_below_drewN | apply below_drew1) | exact HB.out))) : w.heap.size ≤ gb253)); clear HB; have HB := n0_; have BK253 := n1_; have GW253 := n2_; have GE253 := n3_; clear n0_ n1_ n2_ n3_; clear hb hbox hg; have hcz3_0 : w2.cell? ⟨gb253, 0, none⟩ = some (.string a0_0) := (blk_cell BK253.out 0).trans rfl; have hcz3_1 : w2.cell? ⟨gb253, 1, none⟩ = some (.int .i64 a0_1) := (blk_cell BK253.out 1).trans rfl; have hcz3_2 : w2.cell? ⟨gb253, 2, none⟩ = some (.int .i64 a0_2) := (blk_cell BK253.out 2).trans rfl; have hcz3_3 : w2.cell? ⟨gb253, 3, none⟩ = some (.slice A0_3 l0_3.length c0_3) := (blk_cell BK253.out 3).trans rfl; have hfz3_0 := blk_frozen BK253.out 0; have hfz3_1 := blk_frozen BK253.out 1; have hfz3_2 := blk_frozen BK253.out 2; have hfz3_3 := blk_frozen BK253.out 3))
 go_loopg [8] k (fun kq v8 w' => ∃ (x8_1 : Int), v8 = .int .i64 x8_1 ∧ Aside0 (impl_groupOk.l0 kq l0_3 (l0_3.length : Int) x8_1 a0_0 a0_1 a0_2 l0_3 = some r) ∧ Aside0 (kq ≤ k) ∧ Aside0 (w'.heap[gb253]? = some (.cells #[.string a0_0, .int .i64 a0_1, .int .i64 a0_2, (.slice A0_3 l0_3.length c0_3)] 107 (0, 0))) ∧ Aside0 (Below w.heap.size w w'))
 case atStart => exact ⟨(0), (by first | rfl | (simp; done) | (simp [*]; done)), H', ⟨Nat.le_refl _⟩, ⟨by (with_reducible repeat (first | refine blk_drewN ?_ _ | refine blk_drew ?_ | refine blk_alloc ?_ _)); exact BK253.out⟩, ⟨by repeat (first | (with_reducible first | exact HB.out | apply below_alloc | apply pw_below_drewN | apply below_drew1 | refine below_set ?_ GE253.out) | exact HB.out)⟩⟩
 case round =>
  clear H'
  try clear p2
  try clear hcz3_0
  try clear hcz3_1
  try clear hcz3_2
  try clear hcz3_3
  try clear hfz3_0
  try clear hfz3_1
  try clear hfz3_2
  try clear hfz3_3
  obtain ⟨x8_1, rfl, HA, HK1, BK253, HB⟩ := hrel
  cases gk with
  | zero => exact absurd HA.out (by simp [impl_groupOk.l0])
  | succ k1 =>
   have H := HA.out
   clear HA
   simp only [impl_groupOk.l0] at H
   by_cases c4 : x8_1 < (l0_3.length : Int)
   ·rw [if_pos c4] at H
    have c4b0 : decide (x8_1 < (l0_3.length : Int)) = true := decide_eq_true c4
    clear c4
    by_cases c5 : 0 ≤ x8_1
    ·rw [if_pos c5] at H
     have c5b0 : decide (0 ≤ x8_1) = true := decide_eq_true c5
     clear c5
     by_cases c6 : x8_1 < (l0_3.length : Int)
     ·rw [if_pos c6] at H
      have c6b0 : decide (x8_1 < (l0_3.length : Int)) = true := decide_eq_true c6
      clear c6
      have HC7 := Aside0.mk H
      clear H
      have p254 := od (0 ≤ (x8_1 : Int))
      have q254 := od (x8_1 < (l0_3.length : Int))
      obtain ⟨ad254, e254, hx254_0, hx254_1, hx254_2, hx254_3, hx254_4⟩ := at_T57 HR0_3.out x8_1 p254 q254
      cases e254
      replace hx254_0 := (HB.out.cell (World.block_lt_of_cell? w _ hx254_0)).trans hx254_0
      replace hx254_1 := (HB.out.cell (World.block_lt_of_cell? w _ hx254_1)).trans hx254_1
      replace hx254_2 := (HB.out.cell (World.block_lt_of_cell? w _ hx254_2)).trans hx254_2
      replace hx254_3 := (HB.out.cell (World.block_lt_of_cell? w _ hx254_3)).trans hx254_3
      replace hx254_4 := (HB.out.cell (World.block_lt_of_cell? w _ hx254_4)).trans hx254_4
      replace p254 := eq_true p254
      replace q254 := eq_true q254
      go_upto_region 4 with (first | ((with_reducible refine gate_dst (N := 4) rfl ?_); (try (refine gate_guard (by rfl) ?_; dsimp only)); refine box_event ?hg (N := 4) ?hd (cs := #[.int .i64 0, .int .i64 0, .string (⟨#[]⟩ : ByteArray), .int .i64 0, .int .i64 0]) (t := 57) ?hr ?_; (case hd => rfl); (case hg => rfl); (case hr => first | (go_simp; done) | (go_simp; rfl)); intro gb255 hg w8 hbox hb; have n0_ := Aside0.mk (blk_below (g := gb253) (o := .cells #[.string a0_0, .int .i64 a0_1, .int .i64 a0_2, .slice (some ad254) l0_3.length c0_3] 107 (0, 0)) (by (with_reducible repeat (first | refine blk_drewN ?_ _ | refine blk_drew ?_ | refine blk_alloc ?_ _)); exact BK253.out) hb); have n1_ := Aside0.mk (below_step (by repeat (first | (with_reducible first | exact HB.out | apply below_alloc | apply pw_below_drewN | apply below_drew1 | refine below_set ?_ GE253.out) | exact HB.out)) hb); have n2_ := Aside0.mk (hbox); have n3_ := Aside0.mk ((by rw [hg]; exact (below_size (by repeat (first | (with_reducible first | exact HB.out | apply below_alloc | apply pw_below_drewN | apply below_drew1 | refine below_set ?_ GE253.out) | exact HB.out))) : w.heap.size ≤ gb255)); have n4_ := Aside0.mk ((by rw [hg]; exact (below_size (by repeat (first | (with_reducible first | exact HB.out | apply below_alloc | apply pw_below_drewN | apply below_drew1 | refine below_set ?_ GE253.out) | exact HB.out))) : w.heap.size ≤ gb255)); have n5_ := Aside0.mk ((by rw [hg]; exact Nat.ne_of_lt (blk_lt (g := gb253) (o := .cells #[.string a0_0, .int .i64 a0_1, .int .i64 a0_2, .slice (some ad254) l0_3.length c0_3] 107 (0, 0)) (by (with_reducible repeat (first | refine blk_drewN ?_ _ | refine blk_drew ?_ | refine blk_alloc ?_ _)); exact BK253.out)) : gb253 ≠ gb255)); have n6_ := Aside0.mk ((by rw [hg]; exact Nat.ne_of_gt (blk_lt (g := gb253) (o := .cells #[.string a0_0, .int .i64 a0_1, .int .i64 a0_2, .slice (some ad254) l0_3.length c0_3] 107 (0, 0)) (by (with_reducible repeat (first | refine blk_drewN ?_ _ | refine blk_drew ?_ | refine blk_alloc ?_ _)); exact BK253.out)) : gb255 ≠ gb253)); clear BK253; clear HB; have BK253 := n0_; have HB := n1_; have BK255 := n2_; have GW255 := n3_; have GE255 := n4_; have NB253_255 := n5_; have NB255_253 := n6_; clear n0_ n1_ n2_ n3_ n4_ n5_ n6_; clear hb hbox hg; have hnb9 := NB255_253.out; have hnc9 := NB253_255.out; have hcz10_0 : w8.cell? ⟨gb255, 0, none⟩ = some (.int .i64 0) := (blk_cell BK255.out 0).trans rfl; have hcz10_1 : w8.cell? ⟨gb255, 1, none⟩ = some (.int .i64 0) := (blk_cell BK255.out 1).trans rfl; have hcz10_2 : w8.cell? ⟨gb255, 2, none⟩ = some (.string (⟨#[]⟩ : ByteArray)) := (blk_cell BK255.out 2).trans rfl; have hcz10_3 : w8.cell? ⟨gb255, 3, none⟩ = some (.int .i64 0) := (blk_cell BK255.out 3).trans rfl; have hcz10_4 : w8.cell? ⟨gb255, 4, none⟩ = some (.int .i64 0) := (blk_cell BK255.out 4).trans rfl; have hfz10_0 := blk_frozen BK255.out 0; have hfz10_1 := blk_frozen BK255.out 1; have hfz10_2 := blk_frozen BK255.out 2; have hfz10_3 := blk_frozen BK255.out 3; have hfz10_4 := blk_frozen BK255.out 4))
      (try simp only [Act.put, List.setIfInBounds_toArray, List.set_cons_zero, List.set_cons_succ])
      go_cut [40] (fun v40 wc => ∃ (kq : Nat) (x40_6 : Bool), v40 = .bool x40_6 ∧ Aside0 (impl_groupOk.j1 kq l0_3 (l0_3.length : Int) x8_1 x40_6 a0_0 a0_1 a0_2 l0_3 ((rd_T57 l0_3 x8_1).f0.f0) ((rd_T57 l0_3 x8_1).f0.f1) ((rd_T57 l0_3 x8_1).f1) ((rd_T57 l0_3 x8_1).f2) ((rd_T57 l0_3 x8_1).f3) = some r) ∧ Aside0 (kq ≤ k1) ∧ Aside0 (wc.heap[gb253]? = some (.cells #[.string a0_0, .int .i64 a0_1, .int .i64 a0_2, (.slice (some ad254) l0_3.length c0_3)] 107 (0, 0))) ∧ Aside0 (wc.heap[gb255]? = some (.cells #[.int .i64 ((rd_T57 l0_3 x8_1).f0.f0), .int .i64 ((rd_T57 l0_3 x8_1).f0.f1), .string ((rd_T57 l0_3 x8_1).f1), .int .i64 ((rd_T57 l0_3 x8_1).f2), .int .i64 ((rd_T57 l0_3 x8_1).f3)] 57 (0, 0))) ∧ Aside0 (Below w.heap.size w wc))
      case first =>
       have H := HC7.out
       clear HC7
       replace H := Option.bind_eq_some_iff.mp H
       obtain ⟨t256, A110, H⟩ := H
       replace H : (if t256 = true then (if x8_1 > 0 then (if 0 ≤ (wrap64 (x8_1 - 1)) then (if (wrap64 (x8_1 - 1)) < (l0_3.length : Int) then ((impl_idOrder.f k1 ((rd_T57 l0_3 (wrap64 (x8_1 - 1))).f0.f0) ((rd_T57 l0_3 (wrap64 (x8_1 - 1))).f0.f1) ((rd_T57 l0_3 x8_1).f0.f0) ((rd_T57 l0_3 x8_1).f0.f1)).bind fun t258 => (if t258 ≥ 0 then (impl_groupOk.j1 k1 l0_3 (l0_3.length : Int) x8_1 true a0_0 a0_1 a0_2 l0_3 ((rd_T57 l0_3 x8_1).f0.f0) ((rd_T57 l0_3 x8_1).f0.f1) ((rd_T57 l0_3 x8_1).f1) ((rd_T57 l0_3 x8_1).f2) ((rd_T57 l0_3 x8_1).f3)) else ((impl_IdLess.f k1 a0_1 a0_2 ((rd_T57 l0_3 x8_1).f0.f0) ((rd_T57 l0_3 x8_1).f0.f1)).bind fun t259 => (impl_groupOk.j1 k1 l0_3 (l0_3.length : Int) x8_1 t259 a0_0 a0_1 a0_2 l0_3 ((rd_T57 l0_3 x8_1).f0.f0) ((rd_T57 l0_3 x8_1).f0.f1) ((rd_T57 l0_3 x8_1).f1) ((rd_T57 l0_3 x8_1).f2) ((rd_T57 l0_3 x8_1).f3))))) else (none)) else (none)) else ((impl_IdLess.f k1 a0_1 a0_2 ((rd_T57 l0_3 x8_1).f0.f0) ((rd_T57 l0_3 x8_1).f0.f1)).bind fun t260 => (impl_groupOk.j1 k1 l0_3 (l0_3.length : Int) x8_1 t260 a0_0 a0_1 a0_2 l0_3 ((rd_T57 l0_3 x8_1).f0.f0) ((rd_T57 l0_3 x8_1).f0.f1) ((rd_T57 l0_3 x8_1).f1) ((rd_T57 l0_3 x8_1).f2) ((rd_T57 l0_3 x8_1).f3)))) else (impl_groupOk.j1 k1 l0_3 (l0_3.length : Int) x8_1 true a0_0 a0_1 a0_2 l0_3 ((rd_T57 l0_3 x8_1).f0.f0) ((rd_T57 l0_3 x8_1).f0.f1) ((rd_T57 l0_3 x8_1).f1) ((rd_T57 l0_3 x8_1).f2) ((rd_T57 l0_3 x8_1).f3))) = some r := H
       have A11 := Aside0.mk A110
       clear A110
       by_cases c12 : t256 = true
       ·subst c12
        have H1 : (if x8_1 > 0 then (if 0 ≤ (wrap64 (x8_1 - 1)) then (if (wrap64 (x8_1 - 1)) < (l0_3.length : Int) then ((impl_idOrder.f k1 ((rd_T57 l0_3 (wrap64 (x8_1 - 1))).f0.f0) ((rd_T57 l0_3 (wrap64 (x8_1 - 1))).f0.f1) ((rd_T57 l0_3 x8_1).f0.f0) ((rd_T57 l0_3 x8_1).f0.f1)).bind fun t258 => (if t258 ≥ 0 then (impl_groupOk.j1 k1 l0_3 (l0_3.length : Int) x8_1 true a0_0 a0_1 a0_2 l0_3 ((rd_T57 l0_3 x8_1).f0.f0) ((rd_T57 l0_3 x8_1).f0.f1) ((rd_T57 l0_3 x8_1).f1) ((rd_T57 l0_3 x8_1).f2) ((rd_T57 l0_3 x8_1).f3)) else ((impl_IdLess.f k1 a0_1 a0_2 ((rd_T57 l0_3 x8_1).f0.f0) ((rd_T57 l0_3 x8_1).f0.f1)).bind fun t259 => (impl_groupOk.j1 k1 l0_3 (l0_3.length : Int) x8_1 t259 a0_0 a0_1 a0_2 l0_3 ((rd_T57 l0_3 x8_1).f0.f0) ((rd_T57 l0_3 x8_1).f0.f1) ((rd_T57 l0_3 x8_1).f1) ((rd_T57 l0_3 x8_1).f2) ((rd_T57 l0_3 x8_1).f3))))) else (none)) else (none)) else ((impl_IdLess.f k1 a0_1 a0_2 ((rd_T57 l0_3 x8_1).f0.f0) ((rd_T57 l0_3 x8_1).f0.f1)).bind fun t260 => (impl_groupOk.j1 k1 l0_3 (l0_3.length : Int) x8_1 t260 a0_0 a0_1 a0_2 l0_3 ((rd_T57 l0_3 x8_1).f0.f0) ((rd_T57 l0_3 x8_1).f0.f1) ((rd_T57 l0_3 x8_1).f1) ((rd_T57 l0_3 x8_1).f2) ((rd_T57 l0_3 x8_1).f3)))) = some r := by rw [if_pos rfl] at H; exact H
        clear H
        have H := H1
        clear H1
        by_cases c13 : x8_1 > 0
        ·rw [if_pos c13] at H
         have c13b0 : decide (0 < x8_1) = true := decide_eq_true c13
         clear c13
         (first | rw [c13b0] | rw [c13b1] | (simp only [i64_w, i32_w]; rw [c13b0]) | rw [c13b2] | skip)
         obtain ⟨ji14, hji14⟩ : ∃ j_ : Int, (wrap64 (x8_1 - 1)) = j_ := ⟨_, rfl⟩
         replace H : (if 0 ≤ (ji14) then (if (ji14) < (l0_3.length : Int) then ((impl_idOrder.f k1 ((rd_T57 l0_3 (ji14)).f0.f0) ((rd_T57 l0_3 (ji14)).f0.f1) ((rd_T57 l0_3 x8_1).f0.f0) ((rd_T57 l0_3 x8_1).f0.f1)).bind fun t258 => (if t258 ≥ 0 then (impl_groupOk.j1 k1 l0_3 (l0_3.length : Int) x8_1 true a0_0 a0_1 a0_2 l0_3 ((rd_T57 l0_3 x8_1).f0.f0) ((rd_T57 l0_3 x8_1).f0.f1) ((rd_T57 l0_3 x8_1).f1) ((rd_T57 l0_3 x8_1).f2) ((rd_T57 l0_3 x8_1).f3)) else ((impl_IdLess.f k1 a0_1 a0_2 ((rd_T57 l0_3 x8_1).f0.f0) ((rd_T57 l0_3 x8_1).f0.f1)).bind fun t259 => (impl_groupOk.j1 k1 l0_3 (l0_3.length : Int) x8_1 t259 a0_0 a0_1 a0_2 l0_3 ((rd_T57 l0_3 x8_1).f0.f0) ((rd_T57 l0_3 x8_1).f0.f1) ((rd_T57 l0_3 x8_1).f1) ((rd_T57 l0_3 x8_1).f2) ((rd_T57 l0_3 x8_1).f3))))) else (none)) else (none)) = some r := by first | (rw [hji14] at H; exact H) | (simp only [hji14] at H ⊢; exact H)
         (try rw [hji14] at A11)
         have hji14w : (IntKind.i64.wrap (x8_1 - 1)) = ji14 := (i64_w _).trans hji14
         by_cases c15 : 0 ≤ (ji14)
         ·rw [if_pos c15] at H
          have c15b0 : decide (0 ≤ (ji14)) = true := decide_eq_true c15
          clear c15
          by_cases c16 : (ji14) < (l0_3.length : Int)
          ·rw [if_pos c16] at H
           have c16b0 : decide ((ji14) < (l0_3.length : Int)) = true := decide_eq_true c16
           clear c16
           replace H := Option.bind_eq_some_iff.mp H
           obtain ⟨t258, A170, H⟩ := H
           replace H : (if t258 ≥ 0 then (impl_groupOk.j1 k1 l0_3 (l0_3.length : Int) x8_1 true a0_0 a0_1 a0_2 l0_3 ((rd_T57 l0_3 x8_1).f0.f0) ((rd_T57 l0_3 x8_1).f0.f1) ((rd_T57 l0_3 x8_1).f1) ((rd_T57 l0_3 x8_1).f2) ((rd_T57 l0_3 x8_1).f3)) else ((impl_IdLess.f k1 a0_1 a0_2 ((rd_T57 l0_3 x8_1).f0.f0) ((rd_T57 l0_3 x8_1).f0.f1)).bind fun t259 => (impl_groupOk.j1 k1 l0_3 (l0_3.length : Int) x8_1 t259 a0_0 a0_1 a0_2 l0_3 ((rd_T57 l0_3 x8_1).f0.f0) ((rd_T57 l0_3 x8_1).f0.f1) ((rd_T57 l0_3 x8_1).f1) ((rd_T57 l0_3 x8_1).f2) ((rd_T57 l0_3 x8_1).f3)))) = some r := H
           have A17 := Aside0.mk A170
           clear A170
           by_cases c18 : t258 ≥ 0
           ·rw [if_pos c18] at H
            have c18b0 : decide (0 ≤ t258) = true := decide_eq_true c18
            clear c18
            have H' := Aside0.mk H
            clear H
            try go_wp2
            have n0_ : Aside0 ((((((w8.setCell ⟨gb255, 0, none⟩ (.int .i64 ((rd_T57 l0_3 x8_1).f0.f0))).setCell ⟨gb255, 1, none⟩ (.int .i64 ((rd_T57 l0_3 x8_1).f0.f1))).setCell ⟨gb255, 2, none⟩ (.string ((rd_T57 l0_3 x8_1).f1))).setCell ⟨gb255, 3, none⟩ (.int .i64 ((rd_T57 l0_3 x8_1).f2))).setCell ⟨gb255, 4, none⟩ (.int .i64 ((rd_T57 l0_3 x8_1).f3))).heap[gb253]? = some (.cells #[.string a0_0, .int .i64 a0_1, .int .i64 a0_2, .slice (some ad254) l0_3.length c0_3] 107 (0, 0))) := ⟨by (with_reducible repeat (first | refine blk_drewN ?_ _ | refine blk_drew ?_ | refine blk_alloc ?_ _)); refine blk_far ?_ NB253_255.out _; (with_reducible repeat (first | refine blk_drewN ?_ _ | refine blk_drew ?_ | refine blk_alloc ?_ _)); refine blk_far ?_ NB253_255.out _; (with_reducible repeat (first | refine blk_drewN ?_ _ | refine blk_drew ?_ | refine blk_alloc ?_ _)); refine blk_far ?_ NB253_255.out _; (with_reducible repeat (first | refine blk_drewN ?_ _ | refine blk_drew ?_ | refine blk_alloc ?_ _)); refine blk_far ?_ NB253_255.out _; (with_reducible repeat (first | refine blk_drewN ?_ _ | refine blk_drew ?_ | refine blk_alloc ?_ _)); refine blk_far ?_ NB253_255.out _; (with_reducible repeat (first | refine blk_drewN ?_ _ | refine blk_drew ?_ | refine blk_alloc ?_ _)); exact BK253.out⟩
            have n1_ : Aside0 ((((((w8.setCell ⟨gb255, 0, none⟩ (.int .i64 ((rd_T57 l0_3 x8_1).f0.f0))).setCell ⟨gb255, 1, none⟩ (.int .i64 ((rd_T57 l0_3 x8_1).f0.f1))).setCell ⟨gb255, 2, none⟩ (.string ((rd_T57 l0_3 x8_1).f1))).setCell ⟨gb255, 3, none⟩ (.int .i64 ((rd_T57 l0_3 x8_1).f2))).setCell ⟨gb255, 4, none⟩ (.int .i64 ((rd_T57 l0_3 x8_1).f3))).heap[gb255]? = some (.cells #[.int .i64 ((rd_T57 l0_3 x8_1).f0.f0), .int .i64 ((rd_T57 l0_3 x8_1).f0.f1), .string ((rd_T57 l0_3 x8_1).f1), .int .i64 ((rd_T57 l0_3 x8_1).f2), .int .i64 ((rd_T57 l0_3 x8_1).f3)] 57 (0, 0))) := ⟨by (with_reducible repeat (first | refine blk_drewN ?_ _ | refine blk_drew ?_ | refine blk_alloc ?_ _)); refine blk_put (cs := #[.int .i64 ((rd_T57 l0_3 x8_1).f0.f0), .int .i64 ((rd_T57 l0_3 x8_1).f0.f1), .string ((rd_T57 l0_3 x8_1).f1), .int .i64 ((rd_T57 l0_3 x8_1).f2), .int .i64 0]) ?_ 4 _ rfl; (with_reducible repeat (first | refine blk_drewN ?_ _ | refine blk_drew ?_ | refine blk_alloc ?_ _)); refine blk_put (cs := #[.int .i64 ((rd_T57 l0_3 x8_1).f0.f0), .int .i64 ((rd_T57 l0_3 x8_1).f0.f1), .string ((rd_T57 l0_3 x8_1).f1), .int .i64 0, .int .i64 0]) ?_ 3 _ rfl; (with_reducible repeat (first | refine blk_drewN ?_ _ | refine blk_drew ?_ | refine blk_alloc ?_ _)); refine blk_put (cs := #[.int .i64 ((rd_T57 l0_3 x8_1).f0.f0), .int .i64 ((rd_T57 l0_3 x8_1).f0.f1), .string (⟨#[]⟩ : ByteArray), .int .i64 0, .int .i64 0]) ?_ 2 _ rfl; (with_reducible repeat (first | refine blk_drewN ?_ _ | refine blk_drew ?_ | refine blk_alloc ?_ _)); refine blk_put (cs := #[.int .i64 ((rd_T57 l0_3 x8_1).f0.f0), .int .i64 0, .string (⟨#[]⟩ : ByteArray), .int .i64 0, .int .i64 0]) ?_ 1 _ rfl; (with_reducible repeat (first | refine blk_drewN ?_ _ | refine blk_drew ?_ | refine blk_alloc ?_ _)); refine blk_put (cs := #[.int .i64 0, .int .i64 0, .string (⟨#[]⟩ : ByteArray), .int .i64 0, .int .i64 0]) ?_ 0 _ rfl; (with_reducible repeat (first | refine blk_drewN ?_ _ | refine blk_drew ?_ | refine blk_alloc ?_ _)); exact BK255.out⟩
            have n2_ : Aside0 (Below w.heap.size w (((((w8.setCell ⟨gb255, 0, none⟩ (.int .i64 ((rd_T57 l0_3 x8_1).f0.f0))).setCell ⟨gb255, 1, none⟩ (.int .i64 ((rd_T57 l0_3 x8_1).f0.f1))).setCell ⟨gb255, 2, none⟩ (.string ((rd_T57 l0_3 x8_1).f1))).setCell ⟨gb255, 3, none⟩ (.int .i64 ((rd_T57 l0_3 x8_1).f2))).setCell ⟨gb255, 4, none⟩ (.int .i64 ((rd_T57 l0_3 x8_1).f3)))) := ⟨by repeat (first | (with_reducible first | exact HB.out | apply below_alloc | apply pw_below_drewN | apply below_drew1 | refine below_set ?_ GE253.out | refine below_set ?_ GE255.out) | exact HB.out)⟩
            (try clear BK253)
            (try clear BK255)
            (try clear HB)
            generalize (((((w8.setCell ⟨gb255, 0, none⟩ (.int .i64 ((rd_T57 l0_3 x8_1).f0.f0))).setCell ⟨gb255, 1, none⟩ (.int .i64 ((rd_T57 l0_3 x8_1).f0.f1))).setCell ⟨gb255, 2, none⟩ (.string ((rd_T57 l0_3 x8_1).f1))).setCell ⟨gb255, 3, none⟩ (.int .i64 ((rd_T57 l0_3 x8_1).f2))).setCell ⟨gb255, 4, none⟩ (.int .i64 ((rd_T57 l0_3 x8_1).f3))) = w19 at n0_ n1_ n2_ ⊢
            have BK253 := n0_
            have BK255 := n1_
            have HB := n2_
            clear n0_ n1_ n2_
            replace BK253 := Aside0.mk (blk_drew BK253.out)
            replace BK255 := Aside0.mk (blk_drew BK255.out)
            replace HB := Aside0.mk (below_drew1 HB.out)
            have p257 := od (0 ≤ ((ji14) : Int))
            have q257 := od ((ji14) < (l0_3.length : Int))
            obtain ⟨ad257, e257, hx257_0, hx257_1, hx257_2, hx257_3, hx257_4⟩ := at_T57 HR0_3.out (ji14) p257 q257
            have hw257_4 := hx257_4
            have hw257_3 := hx257_3
            have hw257_2 := hx257_2
            have hw257_1 := hx257_1
            have hw257_0 := hx257_0
            obtain rfl : ad254 = ad257 := (by injection e257)
            replace hx257_0 := (HB.out.cell (World.block_lt_of_cell? w _ hx257_0)).trans hx257_0
            replace hx257_1 := (HB.out.cell (World.block_lt_of_cell? w _ hx257_1)).trans hx257_1
            replace hx257_2 := (HB.out.cell (World.block_lt_of_cell? w _ hx257_2)).trans hx257_2
            replace hx257_3 := (HB.out.cell (World.block_lt_of_cell? w _ hx257_3)).trans hx257_3
            replace hx257_4 := (HB.out.cell (World.block_lt_of_cell? w _ hx257_4)).trans hx257_4
            replace p257 := eq_true p257
            replace q257 := eq_true q257
            refine start_ (n := 28) (S := fun w' => w'.cell? ⟨gb255, 0, none⟩ = some (.int .i64 ((rd_T57 l0_3 x8_1).f0.f0)) ∧ w'.cell? ⟨gb255, 1, none⟩ = some (.int .i64 ((rd_T57 l0_3 x8_1).f0.f1)) ∧ w'.cell? ⟨gb255, 2, none⟩ = some (.string ((rd_T57 l0_3 x8_1).f1)) ∧ w'.cell? ⟨gb255, 3, none⟩ = some (.int .i64 ((rd_T57 l0_3 x8_1).f2)) ∧ w'.cell? ⟨gb255, 4, none⟩ = some (.int .i64 ((rd_T57 l0_3 x8_1).f3)) ∧ w'.cell? ⟨gb253, 0, none⟩ = some (.string a0_0) ∧ w'.cell? ⟨gb253, 1, none⟩ = some (.int .i64 a0_1) ∧ w'.cell? ⟨gb253, 2, none⟩ = some (.int .i64 a0_2) ∧ w'.cell? ⟨gb253, 3, none⟩ = some (.slice (some ad254) l0_3.length c0_3) ∧ w'.cell? (ad254.add (((ji14)).toNat * 5)) = some (.int .i64 ((rd_T57 l0_3 (ji14)).f0.f0)) ∧ w'.cell? ⟨(ad254.add (((ji14)).toNat * 5)).block, (ad254.add (((ji14)).toNat * 5)).off + 1, none⟩ = some (.int .i64 ((rd_T57 l0_3 (ji14)).f0.f1)) ∧ w'.cell? ⟨(ad254.add (((ji14)).toNat * 5)).block, (ad254.add (((ji14)).toNat * 5)).off + 2, none⟩ = some (.string ((rd_T57 l0_3 (ji14)).f1)) ∧ w'.cell? ⟨(ad254.add (((ji14)).toNat * 5)).block, (ad254.add (((ji14)).toNat * 5)).off + 3, none⟩ = some (.int .i64 ((rd_T57 l0_3 (ji14)).f2)) ∧ w'.cell? ⟨(ad254.add (((ji14)).toNat * 5)).block, (ad254.add (((ji14)).toNat * 5)).off + 4, none⟩ = some (.int .i64 ((rd_T57 l0_3 (ji14)).f3))) (ds := []) _ (by kernel_rfl) rfl rfl ⟨(blk_cell BK255.out 0).trans rfl, (blk_cell BK255.out 1).trans rfl, (blk_cell BK255.out 2).trans rfl, (blk_cell BK255.out 3).trans rfl, (blk_cell BK255.out 4).trans rfl, (blk_cell BK253.out 0).trans rfl, (blk_cell BK253.out 1).trans rfl, (blk_cell BK253.out 2).trans rfl, (blk_cell BK253.out 3).trans rfl, ((HB.out.cell (World.block_lt_of_cell? w _ hw257_0)).trans hw257_0), ((HB.out.cell (World.block_lt_of_cell? w _ hw257_1)).trans hw257_1), ((HB.out.cell (World.block_lt_of_cell? w _ hw257_2)).trans hw257_2), ((HB.out.cell (World.block_lt_of_cell? w _ hw257_3)).trans hw257_3), ((HB.out.cell (World.block_lt_of_cell? w _ hw257_4)).trans hw257_4)⟩ (fun hHeld => ?_); refine with_tabW impl_groupOk.tab4 impl_groupOk.bits4 (fun HT_ HW_ => ?_)
            generalize w19.drew = w20 at BK253 BK255 HB hx257_0 hx257_1 hx257_2 hx257_3 hx257_4 hHeld ⊢
            refine pu 0 13 ?_; refine tk 1 14 ?_
            refine on 2 (some 15) (fun K hK => ?_)
            refine ca Try.func74 (impl_idOk.calls ((rd_T57 l0_3 x8_1).f0.f0) ((rd_T57 l0_3 x8_1).f0.f1) true _ A11.out) ?_
            rintro e w21 ⟨rfl, hb⟩
            refine ⟨_, rfl, ?_⟩
            replace BK253 := Aside0.mk (blk_below (g := gb253) (o := .cells #[.string a0_0, .int .i64 a0_1, .int .i64 a0_2, .slice (some ad254) l0_3.length c0_3] 107 (0, 0)) (by (with_reducible repeat (first | refine blk_drewN ?_ _ | refine blk_drew ?_ | refine blk_alloc ?_ _)); exact BK253.out) hb)
            replace BK255 := Aside0.mk (blk_below (g := gb255) (o := .cells #[.int .i64 ((rd_T57 l0_3 x8_1).f0.f0), .int .i64 ((rd_T57 l0_3 x8_1).f0.f1), .string ((rd_T57 l0_3 x8_1).f1), .int .i64 ((rd_T57 l0_3 x8_1).f2), .int .i64 ((rd_T57 l0_3 x8_1).f3)] 57 (0, 0)) (by (with_reducible repeat (first | refine blk_drewN ?_ _ | refine blk_drew ?_ | refine blk_alloc ?_ _)); exact BK255.out) hb)
            replace HB := Aside0.mk (below_step (by repeat (first | (with_reducible first | exact HB.out | apply below_alloc | apply pw_below_drewN | apply below_drew1 | refine below_set ?_ GE253.out | refine below_set ?_ GE255.out) | exact HB.out)) hb)
            (try clear hb)
            (try clear hb2)
            (try clear hk)
            (try clear hi)
            refine hK.out _ _ ⟨(blk_cell BK255.out 0).trans rfl, (blk_cell BK255.out 1).trans rfl, (blk_cell BK255.out 2).trans rfl, (blk_cell BK255.out 3).trans rfl, (blk_cell BK255.out 4).trans rfl, (blk_cell BK253.out 0).trans rfl, (blk_cell BK253.out 1).trans rfl, (blk_cell BK253.out 2).trans rfl, (blk_cell BK253.out 3).trans rfl, ((HB.out.cell (World.block_lt_of_cell? w _ hw257_0)).trans hw257_0), ((HB.out.cell (World.block_lt_of_cell? w _ hw257_1)).trans hw257_1), ((HB.out.cell (World.block_lt_of_cell? w _ hw257_2)).trans hw257_2), ((HB.out.cell (World.block_lt_of_cell? w _ hw257_3)).trans hw257_3), ((HB.out.cell (World.block_lt_of_cell? w _ hw257_4)).trans hw257_4)⟩ (fun hHeld => ?_)
            clear hK K
            refine nm ?_; refine pu 3 16 ?_; refine pu 4 17 ?_; refine pu 5 18 ?_; refine pu 6 19 ?_; refine pu 7 20 ?_; refine pu 8 21 ?_; refine pu 10 23 ?_; refine pu 11 24 ?_; refine pu 15 28 ?_; refine tk 9 22 ?_; refine pu 12 25 ?_; refine pu 13 26 ?_; refine tk 14 27 ?_; refine tk 16 29 ?_
            refine on 17 (some 30) (fun K hK => ?_)
            refine goes_ Try.func75 (by kernel_rfl) rfl #[.agg #[.int .i64 ((rd_T57 l0_3 (ji14)).f0.f0), .int .i64 ((rd_T57 l0_3 (ji14)).f0.f1)], .agg #[.int .i64 ((rd_T57 l0_3 x8_1).f0.f0), .int .i64 ((rd_T57 l0_3 x8_1).f0.f1)]] (by rfl) rfl rfl (by (try simp only [List.map_toArray, List.map_cons, List.map_nil]); first | done | (simp only [hji14]; rfl) | rfl | (simp only [List.length_drop, List.length_take]; rfl)) ?_
            with_reducible refine (impl_idOrder.calls k1 ((rd_T57 l0_3 (ji14)).f0.f0) ((rd_T57 l0_3 (ji14)).f0.f1) ((rd_T57 l0_3 x8_1).f0.f0) ((rd_T57 l0_3 x8_1).f0.f1) t258 _ A17.out).mono ?_
            rintro e w22 ⟨rfl, hb⟩
            refine ⟨_, rfl, ?_⟩
            replace BK253 := Aside0.mk (blk_below (g := gb253) (o := .cells #[.string a0_0, .int .i64 a0_1, .int .i64 a0_2, .slice (some ad254) l0_3.length c0_3] 107 (0, 0)) (by (with_reducible repeat (first | refine blk_drewN ?_ _ | refine blk_drew ?_ | refine blk_alloc ?_ _)); exact BK253.out) hb)
            replace BK255 := Aside0.mk (blk_below (g := gb255) (o := .cells #[.int .i64 ((rd_T57 l0_3 x8_1).f0.f0), .int .i64 ((rd_T57 l0_3 x8_1).f0.f1), .string ((rd_T57 l0_3 x8_1).f1), .int .i64 ((rd_T57 l0_3 x8_1).f2), .int .i64 ((rd_T57 l0_3 x8_1).f3)] 57 (0, 0)) (by (with_reducible repeat (first | refine blk_drewN ?_ _ | refine blk_drew ?_ | refine blk_alloc ?_ _)); exact BK255.out) hb)
            replace HB := Aside0.mk (below_step (by repeat (first | (with_reducible first | exact HB.out | apply below_alloc | apply pw_below_drewN | apply below_drew1 | refine below_set ?_ GE253.out | refine below_set ?_ GE255.out) | exact HB.out)) hb)
            (try clear hb)
            (try clear hb2)
            (try clear hk)
            (try clear hi)
            refine hK.out _ _ ⟨(blk_cell BK255.out 0).trans rfl, (blk_cell BK255.out 1).trans rfl, (blk_cell BK255.out 2).trans rfl, (blk_cell BK255.out 3).trans rfl, (blk_cell BK255.out 4).trans rfl, (blk_cell BK253.out 0).trans rfl, (blk_cell BK253.out 1).trans rfl, (blk_cell BK253.out 2).trans rfl, (blk_cell BK253.out 3).trans rfl, ((HB.out.cell (World.block_lt_of_cell? w _ hw257_0)).trans hw257_0), ((HB.out.cell (World.block_lt_of_cell? w _ hw257_1)).trans hw257_1), ((HB.out.cell (World.block_lt_of_cell? w _ hw257_2)).trans hw257_2), ((HB.out.cell (World.block_lt_of_cell? w _ hw257_3)).trans hw257_3), ((HB.out.cell (World.block_lt_of_cell? w _ hw257_4)).trans hw257_4)⟩ (fun hHeld => ?_)
            clear hK K
            refine nm ?_; refine pu 18 31 ?_; refine pu 19 32 ?_; refine pu 20 33 ?_; refine pu 21 34 ?_; refine of 22 35 ?_; refine of 23 36 ?_; refine of 24 37 ?_; refine of 25 38 ?_; refine of 26 39 ?_; refine pu 27 40 ?_
            refine dn ?_
            try go_wp2
            go_meet
            case rel => exact ⟨_, (true), (by first | rfl | (simp; done) | (simp [*]; done)), H', ⟨by have := HK1.out; first | omega | exact Nat.le_refl _⟩, ⟨by (with_reducible repeat (first | refine blk_drewN ?_ _ | refine blk_drew ?_ | refine blk_alloc ?_ _)); exact BK253.out⟩, ⟨by (with_reducible repeat (first | refine blk_drewN ?_ _ | refine blk_drew ?_ | refine blk_alloc ?_ _)); exact BK255.out⟩, ⟨by repeat (first | (with_reducible first | exact HB.out | apply below_alloc | apply pw_below_drewN | apply below_drew1 | refine below_set ?_ GE253.out | refine below_set ?_ GE255.out) | exact HB.out)⟩⟩
           ·rw [if_neg c18] at H
            have c18b0 : decide (0 ≤ t258) = false := decide_eq_false c18
            clear c18
            replace H := Option.bind_eq_some_iff.mp H
            obtain ⟨t259, A230, H⟩ := H
            replace H : (impl_groupOk.j1 k1 l0_3 (l0_3.length : Int) x8_1 t259 a0_0 a0_1 a0_2 l0_3 ((rd_T57 l0_3 x8_1).f0.f0) ((rd_T57 l0_3 x8_1).f0.f1) ((rd_T57 l0_3 x8_1).f1) ((rd_T57 l0_3 x8_1).f2) ((rd_T57 l0_3 x8_1).f3)) = some r := H
            have A23 := Aside0.mk A230
            clear A230
            have H' := Aside0.mk H
            clear H
            try go_wp2
            have n0_ : Aside0 ((((((w8.setCell ⟨gb255, 0, none⟩ (.int .i64 ((rd_T57 l0_3 x8_1).f0.f0))).setCell ⟨gb255, 1, none⟩ (.int .i64 ((rd_T57 l0_3 x8_1).f0.f1))).setCell ⟨gb255, 2, none⟩ (.string ((rd_T57 l0_3 x8_1).f1))).setCell ⟨gb255, 3, none⟩ (.int .i64 ((rd_T57 l0_3 x8_1).f2))).setCell ⟨gb255, 4, none⟩ (.int .i64 ((rd_T57 l0_3 x8_1).f3))).heap[gb253]? = some (.cells #[.string a0_0, .int .i64 a0_1, .int .i64 a0_2, .slice (some ad254) l0_3.length c0_3] 107 (0, 0))) := ⟨by (with_reducible repeat (first | refine blk_drewN ?_ _ | refine blk_drew ?_ | refine blk_alloc ?_ _)); refine blk_far ?_ NB253_255.out _; (with_reducible repeat (first | refine blk_drewN ?_ _ | refine blk_drew ?_ | refine blk_alloc ?_ _)); refine blk_far ?_ NB253_255.out _; (with_reducible repeat (first | refine blk_drewN ?_ _ | refine blk_drew ?_ | refine blk_alloc ?_ _)); refine blk_far ?_ NB253_255.out _; (with_reducible repeat (first | refine blk_drewN ?_ _ | refine blk_drew ?_ | refine blk_alloc ?_ _)); refine blk_far ?_ NB253_255.out _; (with_reducible repeat (first | refine blk_drewN ?_ _ | refine blk_drew ?_ | refine blk_alloc ?_ _)); refine blk_far ?_ NB253_255.out _; (with_reducible repeat (first | refine blk_drewN ?_ _ | refine blk_drew ?_ | refine blk_alloc ?_ _)); exact BK253.out⟩
            have n1_ : Aside0 ((((((w8.setCell ⟨gb255, 0, none⟩ (.int .i64 ((rd_T57 l0_3 x8_1).f0.f0))).setCell ⟨gb255, 1, none⟩ (.int .i64 ((rd_T57 l0_3 x8_1).f0.f1))).setCell ⟨gb255, 2, none⟩ (.string ((rd_T57 l0_3 x8_1).f1))).setCell ⟨gb255, 3, none⟩ (.int .i64 ((rd_T57 l0_3 x8_1).f2))).setCell ⟨gb255, 4, none⟩ (.int .i64 ((rd_T57 l0_3 x8_1).f3))).heap[gb255]? = some (.cells #[.int .i64 ((rd_T57 l0_3 x8_1).f0.f0), .int .i64 ((rd_T57 l0_3 x8_1).f0.f1), .string ((rd_T57 l0_3 x8_1).f1), .int .i64 ((rd_T57 l0_3 x8_1).f2), .int .i64 ((rd_T57 l0_3 x8_1).f3)] 57 (0, 0))) := ⟨by (with_reducible repeat (first | refine blk_drewN ?_ _ | refine blk_drew ?_ | refine blk_alloc ?_ _)); refine blk_put (cs := #[.int .i64 ((rd_T57 l0_3 x8_1).f0.f0), .int .i64 ((rd_T57 l0_3 x8_1).f0.f1), .string ((rd_T57 l0_3 x8_1).f1), .int .i64 ((rd_T57 l0_3 x8_1).f2), .int .i64 0]) ?_ 4 _ rfl; (with_reducible repeat (first | refine blk_drewN ?_ _ | refine blk_drew ?_ | refine blk_alloc ?_ _)); refine blk_put (cs := #[.int .i64 ((rd_T57 l0_3 x8_1).f0.f0), .int .i64 ((rd_T57 l0_3 x8_1).f0.f1), .string ((rd_T57 l0_3 x8_1).f1), .int .i64 0, .int .i64 0]) ?_ 3 _ rfl; (with_reducible repeat (first | refine blk_drewN ?_ _ | refine blk_drew ?_ | refine blk_alloc ?_ _)); refine blk_put (cs := #[.int .i64 ((rd_T57 l0_3 x8_1).f0.f0), .int .i64 ((rd_T57 l0_3 x8_1).f0.f1), .string (⟨#[]⟩ : ByteArray), .int .i64 0, .int .i64 0]) ?_ 2 _ rfl; (with_reducible repeat (first | refine blk_drewN ?_ _ | refine blk_drew ?_ | refine blk_alloc ?_ _)); refine blk_put (cs := #[.int .i64 ((rd_T57 l0_3 x8_1).f0.f0), .int .i64 0, .string (⟨#[]⟩ : ByteArray), .int .i64 0, .int .i64 0]) ?_ 1 _ rfl; (with_reducible repeat (first | refine blk_drewN ?_ _ | refine blk_drew ?_ | refine blk_alloc ?_ _)); refine blk_put (cs := #[.int .i64 0, .int .i64 0, .string (⟨#[]⟩ : ByteArray), .int .i64 0, .int .i64 0]) ?_ 0 _ rfl; (with_reducible repeat (first | refine blk_drewN ?_ _ | refine blk_drew ?_ | refine blk_alloc ?_ _)); exact BK255.out⟩
            have n2_ : Aside0 (Below w.heap.size w (((((w8.setCell ⟨gb255, 0, none⟩ (.int .i64 ((rd_T57 l0_3 x8_1).f0.f0))).setCell ⟨gb255, 1, none⟩ (.int .i64 ((rd_T57 l0_3 x8_1).f0.f1))).setCell ⟨gb255, 2, none⟩ (.string ((rd_T57 l0_3 x8_1).f1))).setCell ⟨gb255, 3, none⟩ (.int .i64 ((rd_T57 l0_3 x8_1).f2))).setCell ⟨gb255, 4, none⟩ (.int .i64 ((rd_T57 l0_3 x8_1).f3)))) := ⟨by repeat (first | (with_reducible first | exact HB.out | apply below_alloc | apply pw_below_drewN | apply below_drew1 | refine below_set ?_ GE253.out | refine below_set ?_ GE255.out) | exact HB.out)⟩
            (try clear BK253)
            (try clear BK255)
            (try clear HB)
            generalize (((((w8.setCell ⟨gb255, 0, none⟩ (.int .i64 ((rd_T57 l0_3 x8_1).f0.f0))).setCell ⟨gb255, 1, none⟩ (.int .i64 ((rd_T57 l0_3 x8_1).f0.f1))).setCell ⟨gb255, 2, none⟩ (.string ((rd_T57 l0_3 x8_1).f1))).setCell ⟨gb255, 3, none⟩ (.int .i64 ((rd_T57 l0_3 x8_1).f2))).setCell ⟨gb255, 4, none⟩ (.int .i64 ((rd_T57 l0_3 x8_1).f3))) = w24 at n0_ n1_ n2_ ⊢
            have BK253 := n0_
            have BK255 := n1_
            have HB := n2_
            clear n0_ n1_ n2_
            replace BK253 := Aside0.mk (blk_drew BK253.out)
            replace BK255 := Aside0.mk (blk_drew BK255.out)
            replace HB := Aside0.mk (below_drew1 HB.out)
            have p257 := od (0 ≤ ((ji14) : Int))
            have q257 := od ((ji14) < (l0_3.length : Int))
            obtain ⟨ad257, e257, hx257_0, hx257_1, hx257_2, hx257_3, hx257_4⟩ := at_T57 HR0_3.out (ji14) p257 q257
            have hw257_4 := hx257_4
            have hw257_3 := hx257_3
            have hw257_2 := hx257_2
            have hw257_1 := hx257_1
            have hw257_0 := hx257_0
            obtain rfl : ad254 = ad257 := (by injection e257)
            replace hx257_0 := (HB.out.cell (World.block_lt_of_cell? w _ hx257_0)).trans hx257_0
            replace hx257_1 := (HB.out.cell (World.block_lt_of_cell? w _ hx257_1)).trans hx257_1
            replace hx257_2 := (HB.out.cell (World.block_lt_of_cell? w _ hx257_2)).trans hx257_2
            replace hx257_3 := (HB.out.cell (World.block_lt_of_cell? w _ hx257_3)).trans hx257_3
            replace hx257_4 := (HB.out.cell (World.block_lt_of_cell? w _ hx257_4)).trans hx257_4
            replace p257 := eq_true p257
            replace q257 := eq_true q257
            refine start_ (n := 28) (S := fun w' => w'.cell? ⟨gb255, 0, none⟩ = some (.int .i64 ((rd_T57 l0_3 x8_1).f0.f0)) ∧ w'.cell? ⟨gb255, 1, none⟩ = some (.int .i64 ((rd_T57 l0_3 x8_1).f0.f1)) ∧ w'.cell? ⟨gb255, 2, none⟩ = some (.string ((rd_T57 l0_3 x8_1).f1)) ∧ w'.cell? ⟨gb255, 3, none⟩ = some (.int .i64 ((rd_T57 l0_3 x8_1).f2)) ∧ w'.cell? ⟨gb255, 4, none⟩ = some (.int .i64 ((rd_T57 l0_3 x8_1).f3)) ∧ w'.cell? ⟨gb253, 0, none⟩ = some (.string a0_0) ∧ w'.cell? ⟨gb253, 1, none⟩ = some (.int .i64 a0_1) ∧ w'.cell? ⟨gb253, 2, none⟩ = some (.int .i64 a0_2) ∧ w'.cell? ⟨gb253, 3, none⟩ = some (.slice (some ad254) l0_3.length c0_3) ∧ w'.cell? (ad254.add (((ji14)).toNat * 5)) = some (.int .i64 ((rd_T57 l0_3 (ji14)).f0.f0)) ∧ w'.cell? ⟨(ad254.add (((ji14)).toNat * 5)).block, (ad254.add (((ji14)).toNat * 5)).off + 1, none⟩ = some (.int .i64 ((rd_T57 l0_3 (ji14)).f0.f1)) ∧ w'.cell? ⟨(ad254.add (((ji14)).toNat * 5)).block, (ad254.add (((ji14)).toNat * 5)).off + 2, none⟩ = some (.string ((rd_T57 l0_3 (ji14)).f1)) ∧ w'.cell? ⟨(ad254.add (((ji14)).toNat * 5)).block, (ad254.add (((ji14)).toNat * 5)).off + 3, none⟩ = some (.int .i64 ((rd_T57 l0_3 (ji14)).f2)) ∧ w'.cell? ⟨(ad254.add (((ji14)).toNat * 5)).block, (ad254.add (((ji14)).toNat * 5)).off + 4, none⟩ = some (.int .i64 ((rd_T57 l0_3 (ji14)).f3))) (ds := []) _ (by kernel_rfl) rfl rfl ⟨(blk_cell BK255.out 0).trans rfl, (blk_cell BK255.out 1).trans rfl, (blk_cell BK255.out 2).trans rfl, (blk_cell BK255.out 3).trans rfl, (blk_cell BK255.out 4).trans rfl, (blk_cell BK253.out 0).trans rfl, (blk_cell BK253.out 1).trans rfl, (blk_cell BK253.out 2).trans rfl, (blk_cell BK253.out 3).trans rfl, ((HB.out.cell (World.block_lt_of_cell? w _ hw257_0)).trans hw257_0), ((HB.out.cell (World.block_lt_of_cell? w _ hw257_1)).trans hw257_1), ((HB.out.cell (World.block_lt_of_cell? w _ hw257_2)).trans hw257_2), ((HB.out.cell (World.block_lt_of_cell? w _ hw257_3)).trans hw257_3), ((HB.out.cell (World.block_lt_of_cell? w _ hw257_4)).trans hw257_4)⟩ (fun hHeld => ?_); refine with_tabW impl_groupOk.tab4 impl_groupOk.bits4 (fun HT_ HW_ => ?_)
            generalize w24.drew = w25 at BK253 BK255 HB hx257_0 hx257_1 hx257_2 hx257_3 hx257_4 hHeld ⊢
            refine pu 0 13 ?_; refine tk 1 14 ?_
            refine on 2 (some 15) (fun K hK => ?_)
            refine ca Try.func74 (impl_idOk.calls ((rd_T57 l0_3 x8_1).f0.f0) ((rd_T57 l0_3 x8_1).f0.f1) true _ A11.out) ?_
            rintro e w26 ⟨rfl, hb⟩
            refine ⟨_, rfl, ?_⟩
            replace BK253 := Aside0.mk (blk_below (g := gb253) (o := .cells #[.string a0_0, .int .i64 a0_1, .int .i64 a0_2, .slice (some ad254) l0_3.length c0_3] 107 (0, 0)) (by (with_reducible repeat (first | refine blk_drewN ?_ _ | refine blk_drew ?_ | refine blk_alloc ?_ _)); exact BK253.out) hb)
            replace BK255 := Aside0.mk (blk_below (g := gb255) (o := .cells #[.int .i64 ((rd_T57 l0_3 x8_1).f0.f0), .int .i64 ((rd_T57 l0_3 x8_1).f0.f1), .string ((rd_T57 l0_3 x8_1).f1), .int .i64 ((rd_T57 l0_3 x8_1).f2), .int .i64 ((rd_T57 l0_3 x8_1).f3)] 57 (0, 0)) (by (with_reducible repeat (first | refine blk_drewN ?_ _ | refine blk_drew ?_ | refine blk_alloc ?_ _)); exact BK255.out) hb)
            replace HB := Aside0.mk (below_step (by repeat (first | (with_reducible first | exact HB.out | apply below_alloc | apply pw_below_drewN | apply below_drew1 | refine below_set ?_ GE253.out | refine below_set ?_ GE255.out) | exact HB.out)) hb)
            (try clear hb)
            (try clear hb2)
            (try clear hk)
            (try clear hi)
            refine hK.out _ _ ⟨(blk_cell BK255.out 0).trans rfl, (blk_cell BK255.out 1).trans rfl, (blk_cell BK255.out 2).trans rfl, (blk_cell BK255.out 3).trans rfl, (blk_cell BK255.out 4).trans rfl, (blk_cell BK253.out 0).trans rfl, (blk_cell BK253.out 1).trans rfl, (blk_cell BK253.out 2).trans rfl, (blk_cell BK253.out 3).trans rfl, ((HB.out.cell (World.block_lt_of_cell? w _ hw257_0)).trans hw257_0), ((HB.out.cell (World.block_lt_of_cell? w _ hw257_1)).trans hw257_1), ((HB.out.cell (World.block_lt_of_cell? w _ hw257_2)).trans hw257_2), ((HB.out.cell (World.block_lt_of_cell? w _ hw257_3)).trans hw257_3), ((HB.out.cell (World.block_lt_of_cell? w _ hw257_4)).trans hw257_4)⟩ (fun hHeld => ?_)
            clear hK K
            refine nm ?_; refine pu 3 16 ?_; refine pu 4 17 ?_; refine pu 5 18 ?_; refine pu 6 19 ?_; refine pu 7 20 ?_; refine pu 8 21 ?_; refine pu 10 23 ?_; refine pu 11 24 ?_; refine pu 15 28 ?_; refine tk 9 22 ?_; refine pu 12 25 ?_; refine pu 13 26 ?_; refine tk 14 27 ?_; refine tk 16 29 ?_
            refine on 17 (some 30) (fun K hK => ?_)
            refine goes_ Try.func75 (by kernel_rfl) rfl #[.agg #[.int .i64 ((rd_T57 l0_3 (ji14)).f0.f0), .int .i64 ((rd_T57 l0_3 (ji14)).f0.f1)], .agg #[.int .i64 ((rd_T57 l0_3 x8_1).f0.f0), .int .i64 ((rd_T57 l0_3 x8_1).f0.f1)]] (by rfl) rfl rfl (by (try simp only [List.map_toArray, List.map_cons, List.map_nil]); first | done | (simp only [hji14]; rfl) | rfl | (simp only [List.length_drop, List.length_take]; rfl)) ?_
            with_reducible refine (impl_idOrder.calls k1 ((rd_T57 l0_3 (ji14)).f0.f0) ((rd_T57 l0_3 (ji14)).f0.f1) ((rd_T57 l0_3 x8_1).f0.f0) ((rd_T57 l0_3 x8_1).f0.f1) t258 _ A17.out).mono ?_
            rintro e w27 ⟨rfl, hb⟩
            refine ⟨_, rfl, ?_⟩
            replace BK253 := Aside0.mk (blk_below (g := gb253) (o := .cells #[.string a0_0, .int .i64 a0_1, .int .i64 a0_2, .slice (some ad254) l0_3.length c0_3] 107 (0, 0)) (by (with_reducible repeat (first | refine blk_drewN ?_ _ | refine blk_drew ?_ | refine blk_alloc ?_ _)); exact BK253.out) hb)
            replace BK255 := Aside0.mk (blk_below (g := gb255) (o := .cells #[.int .i64 ((rd_T57 l0_3 x8_1).f0.f0), .int .i64 ((rd_T57 l0_3 x8_1).f0.f1), .string ((rd_T57 l0_3 x8_1).f1), .int .i64 ((rd_T57 l0_3 x8_1).f2), .int .i64 ((rd_T57 l0_3 x8_1).f3)] 57 (0, 0)) (by (with_reducible repeat (first | refine blk_drewN ?_ _ | refine blk_drew ?_ | refine blk_alloc ?_ _)); exact BK255.out) hb)
            replace HB := Aside0.mk (below_step (by repeat (first | (with_reducible first | exact HB.out | apply below_alloc | apply pw_below_drewN | apply below_drew1 | refine below_set ?_ GE253.out | refine below_set ?_ GE255.out) | exact HB.out)) hb)
            (try clear hb)
            (try clear hb2)
            (try clear hk)
            (try clear hi)
            refine hK.out _ _ ⟨(blk_cell BK255.out 0).trans rfl, (blk_cell BK255.out 1).trans rfl, (blk_cell BK255.out 2).trans rfl, (blk_cell BK255.out 3).trans rfl, (blk_cell BK255.out 4).trans rfl, (blk_cell BK253.out 0).trans rfl, (blk_cell BK253.out 1).trans rfl, (blk_cell BK253.out 2).trans rfl, (blk_cell BK253.out 3).trans rfl, ((HB.out.cell (World.block_lt_of_cell? w _ hw257_0)).trans hw257_0), ((HB.out.cell (World.block_lt_of_cell? w _ hw257_1)).trans hw257_1), ((HB.out.cell (World.block_lt_of_cell? w _ hw257_2)).trans hw257_2), ((HB.out.cell (World.block_lt_of_cell? w _ hw257_3)).trans hw257_3), ((HB.out.cell (World.block_lt_of_cell? w _ hw257_4)).trans hw257_4)⟩ (fun hHeld => ?_)
            clear hK K
            refine nm ?_; refine pu 18 31 ?_; refine pu 19 32 ?_; refine pu 20 33 ?_; refine pu 21 34 ?_; refine pu 22 35 ?_; refine pu 24 37 ?_; refine tk 23 36 ?_; refine tk 25 38 ?_
            refine on 26 (some 39) (fun K hK => ?_)
            refine ca Try.func33 (impl_IdLess.calls k1 a0_1 a0_2 ((rd_T57 l0_3 x8_1).f0.f0) ((rd_T57 l0_3 x8_1).f0.f1) t259 _ A23.out) ?_
            rintro e w28 ⟨rfl, hb⟩
            refine ⟨_, rfl, ?_⟩
            replace BK253 := Aside0.mk (blk_below (g := gb253) (o := .cells #[.string a0_0, .int .i64 a0_1, .int .i64 a0_2, .slice (some ad254) l0_3.length c0_3] 107 (0, 0)) (by (with_reducible repeat (first | refine blk_drewN ?_ _ | refine blk_drew ?_ | refine blk_alloc ?_ _)); exact BK253.out) hb)
            replace BK255 := Aside0.mk (blk_below (g := gb255) (o := .cells #[.int .i64 ((rd_T57 l0_3 x8_1).f0.f0), .int .i64 ((rd_T57 l0_3 x8_1).f0.f1), .string ((rd_T57 l0_3 x8_1).f1), .int .i64 ((rd_T57 l0_3 x8_1).f2), .int .i64 ((rd_T57 l0_3 x8_1).f3)] 57 (0, 0)) (by (with_reducible repeat (first | refine blk_drewN ?_ _ | refine blk_drew ?_ | refine blk_alloc ?_ _)); exact BK255.out) hb)
            replace HB := Aside0.mk (below_step (by repeat (first | (with_reducible first | exact HB.out | apply below_alloc | apply pw_below_drewN | apply below_drew1 | refine below_set ?_ GE253.out | refine below_set ?_ GE255.out) | exact HB.out)) hb)
            (try clear hb)
            (try clear hb2)
            (try clear hk)
            (try clear hi)
            refine hK.out _ _ ⟨(blk_cell BK255.out 0).trans rfl, (blk_cell BK255.out 1).trans rfl, (blk_cell BK255.out 2).trans rfl, (blk_cell BK255.out 3).trans rfl, (blk_cell BK255.out 4).trans rfl, (blk_cell BK253.out 0).trans rfl, (blk_cell BK253.out 1).trans rfl, (blk_cell BK253.out 2).trans rfl, (blk_cell BK253.out 3).trans rfl, ((HB.out.cell (World.block_lt_of_cell? w _ hw257_0)).trans hw257_0), ((HB.out.cell (World.block_lt_of_cell? w _ hw257_1)).trans hw257_1), ((HB.out.cell (World.block_lt_of_cell? w _ hw257_2)).trans hw257_2), ((HB.out.cell (World.block_lt_of_cell? w _ hw257_3)).trans hw257_3), ((HB.out.cell (World.block_lt_of_cell? w _ hw257_4)).trans hw257_4)⟩ (fun hHeld => ?_)
            clear hK K
            refine nm ?_; refine pu 27 40 ?_
            refine dn ?_
            try go_wp2
            go_meet
            case rel => exact ⟨_, (t259), (by first | rfl | (simp; done) | (simp [*]; done)), H', ⟨by have := HK1.out; first | omega | exact Nat.le_refl _⟩, ⟨by (with_reducible repeat (first | refine blk_drewN ?_ _ | refine blk_drew ?_ | refine blk_alloc ?_ _)); exact BK253.out⟩, ⟨by (with_reducible repeat (first | refine blk_drewN ?_ _ | refine blk_drew ?_ | refine blk_alloc ?_ _)); exact BK255.out⟩, ⟨by repeat (first | (with_reducible first | exact HB.out | apply below_alloc | apply pw_below_drewN | apply below_drew1 | refine below_set ?_ GE253.out | refine below_set ?_ GE255.out) | exact HB.out)⟩⟩
          ·rw [if_neg c16] at H
           exact absurd H (by simp)
         ·rw [if_neg c15] at H
          exact absurd H (by simp)
        ·rw [if_neg c13] at H
         have c13b0 : decide (0 < x8_1) = false := decide_eq_false c13
         clear c13
         (first | rw [c13b0] | rw [c13b1] | (simp only [i64_w, i32_w]; rw [c13b0]) | rw [c13b2] | skip)
         replace H := Option.bind_eq_some_iff.mp H
         obtain ⟨t260, A290, H⟩ := H
         replace H : (impl_groupOk.j1 k1 l0_3 (l0_3.length : Int) x8_1 t260 a0_0 a0_1 a0_2 l0_3 ((rd_T57 l0_3 x8_1).f0.f0) ((rd_T57 l0_3 x8_1).f0.f1) ((rd_T57 l0_3 x8_1).f1) ((rd_T57 l0_3 x8_1).f2) ((rd_T57 l0_3 x8_1).f3)) = some r := H
         have A29 := Aside0.mk A290
         clear A290
         have H' := Aside0.mk H
         clear H
         try go_wp2
         have n0_ : Aside0 ((((((w8.setCell ⟨gb255, 0, none⟩ (.int .i64 ((rd_T57 l0_3 x8_1).f0.f0))).setCell ⟨gb255, 1, none⟩ (.int .i64 ((rd_T57 l0_3 x8_1).f0.f1))).setCell ⟨gb255, 2, none⟩ (.string ((rd_T57 l0_3 x8_1).f1))).setCell ⟨gb255, 3, none⟩ (.int .i64 ((rd_T57 l0_3 x8_1).f2))).setCell ⟨gb255, 4, none⟩ (.int .i64 ((rd_T57 l0_3 x8_1).f3))).heap[gb253]? = some (.cells #[.string a0_0, .int .i64 a0_1, .int .i64 a0_2, .slice (some ad254) l0_3.length c0_3] 107 (0, 0))) := ⟨by (with_reducible repeat (first | refine blk_drewN ?_ _ | refine blk_drew ?_ | refine blk_alloc ?_ _)); refine blk_far ?_ NB253_255.out _; (with_reducible repeat (first | refine blk_drewN ?_ _ | refine blk_drew ?_ | refine blk_alloc ?_ _)); refine blk_far ?_ NB253_255.out _; (with_reducible repeat (first | refine blk_drewN ?_ _ | refine blk_drew ?_ | refine blk_alloc ?_ _)); refine blk_far ?_ NB253_255.out _; (with_reducible repeat (first | refine blk_drewN ?_ _ | refine blk_drew ?_ | refine blk_alloc ?_ _)); refine blk_far ?_ NB253_255.out _; (with_reducible repeat (first | refine blk_drewN ?_ _ | refine blk_drew ?_ | refine blk_alloc ?_ _)); refine blk_far ?_ NB253_255.out _; (with_reducible repeat (first | refine blk_drewN ?_ _ | refine blk_drew ?_ | refine blk_alloc ?_ _)); exact BK253.out⟩
         have n1_ : Aside0 ((((((w8.setCell ⟨gb255, 0, none⟩ (.int .i64 ((rd_T57 l0_3 x8_1).f0.f0))).setCell ⟨gb255, 1, none⟩ (.int .i64 ((rd_T57 l0_3 x8_1).f0.f1))).setCell ⟨gb255, 2, none⟩ (.string ((rd_T57 l0_3 x8_1).f1))).setCell ⟨gb255, 3, none⟩ (.int .i64 ((rd_T57 l0_3 x8_1).f2))).setCell ⟨gb255, 4, none⟩ (.int .i64 ((rd_T57 l0_3 x8_1).f3))).heap[gb255]? = some (.cells #[.int .i64 ((rd_T57 l0_3 x8_1).f0.f0), .int .i64 ((rd_T57 l0_3 x8_1).f0.f1), .string ((rd_T57 l0_3 x8_1).f1), .int .i64 ((rd_T57 l0_3 x8_1).f2), .int .i64 ((rd_T57 l0_3 x8_1).f3)] 57 (0, 0))) := ⟨by (with_reducible repeat (first | refine blk_drewN ?_ _ | refine blk_drew ?_ | refine blk_alloc ?_ _)); refine blk_put (cs := #[.int .i64 ((rd_T57 l0_3 x8_1).f0.f0), .int .i64 ((rd_T57 l0_3 x8_1).f0.f1), .string ((rd_T57 l0_3 x8_1).f1), .int .i64 ((rd_T57 l0_3 x8_1).f2), .int .i64 0]) ?_ 4 _ rfl; (with_reducible repeat (first | refine blk_drewN ?_ _ | refine blk_drew ?_ | refine blk_alloc ?_ _)); refine blk_put (cs := #[.int .i64 ((rd_T57 l0_3 x8_1).f0.f0), .int .i64 ((rd_T57 l0_3 x8_1).f0.f1), .string ((rd_T57 l0_3 x8_1).f1), .int .i64 0, .int .i64 0]) ?_ 3 _ rfl; (with_reducible repeat (first | refine blk_drewN ?_ _ | refine blk_drew ?_ | refine blk_alloc ?_ _)); refine blk_put (cs := #[.int .i64 ((rd_T57 l0_3 x8_1).f0.f0), .int .i64 ((rd_T57 l0_3 x8_1).f0.f1), .string (⟨#[]⟩ : ByteArray), .int .i64 0, .int .i64 0]) ?_ 2 _ rfl; (with_reducible repeat (first | refine blk_drewN ?_ _ | refine blk_drew ?_ | refine blk_alloc ?_ _)); refine blk_put (cs := #[.int .i64 ((rd_T57 l0_3 x8_1).f0.f0), .int .i64 0, .string (⟨#[]⟩ : ByteArray), .int .i64 0, .int .i64 0]) ?_ 1 _ rfl; (with_reducible repeat (first | refine blk_drewN ?_ _ | refine blk_drew ?_ | refine blk_alloc ?_ _)); refine blk_put (cs := #[.int .i64 0, .int .i64 0, .string (⟨#[]⟩ : ByteArray), .int .i64 0, .int .i64 0]) ?_ 0 _ rfl; (with_reducible repeat (first | refine blk_drewN ?_ _ | refine blk_drew ?_ | refine blk_alloc ?_ _)); exact BK255.out⟩
         have n2_ : Aside0 (Below w.heap.size w (((((w8.setCell ⟨gb255, 0, none⟩ (.int .i64 ((rd_T57 l0_3 x8_1).f0.f0))).setCell ⟨gb255, 1, none⟩ (.int .i64 ((rd_T57 l0_3 x8_1).f0.f1))).setCell ⟨gb255, 2, none⟩ (.string ((rd_T57 l0_3 x8_1).f1))).setCell ⟨gb255, 3, none⟩ (.int .i64 ((rd_T57 l0_3 x8_1).f2))).setCell ⟨gb255, 4, none⟩ (.int .i64 ((rd_T57 l0_3 x8_1).f3)))) := ⟨by repeat (first | (with_reducible first | exact HB.out | apply below_alloc | apply pw_below_drewN | apply below_drew1 | refine below_set ?_ GE253.out | refine below_set ?_ GE255.out) | exact HB.out)⟩
         (try clear BK253)
         (try clear BK255)
         (try clear HB)
         generalize (((((w8.setCell ⟨gb255, 0, none⟩ (.int .i64 ((rd_T57 l0_3 x8_1).f0.f0))).setCell ⟨gb255, 1, none⟩ (.int .i64 ((rd_T57 l0_3 x8_1).f0.f1))).setCell ⟨gb255, 2, none⟩ (.string ((rd_T57 l0_3 x8_1).f1))).setCell ⟨gb255, 3, none⟩ (.int .i64 ((rd_T57 l0_3 x8_1).f2))).setCell ⟨gb255, 4, none⟩ (.int .i64 ((rd_T57 l0_3 x8_1).f3))) = w30 at n0_ n1_ n2_ ⊢
         have BK253 := n0_
         have BK255 := n1_
         have HB := n2_
         clear n0_ n1_ n2_
         replace BK253 := Aside0.mk (blk_drew BK253.out)
         replace BK255 := Aside0.mk (blk_drew BK255.out)
         replace HB := Aside0.mk (below_drew1 HB.out)
         refine start_ (n := 28) (S := fun w' => w'.cell? ⟨gb255, 0, none⟩ = some (.int .i64 ((rd_T57 l0_3 x8_1).f0.f0)) ∧ w'.cell? ⟨gb255, 1, none⟩ = some (.int .i64 ((rd_T57 l0_3 x8_1).f0.f1)) ∧ w'.cell? ⟨gb255, 2, none⟩ = some (.string ((rd_T57 l0_3 x8_1).f1)) ∧ w'.cell? ⟨gb255, 3, none⟩ = some (.int .i64 ((rd_T57 l0_3 x8_1).f2)) ∧ w'.cell? ⟨gb255, 4, none⟩ = some (.int .i64 ((rd_T57 l0_3 x8_1).f3)) ∧ w'.cell? ⟨gb253, 0, none⟩ = some (.string a0_0) ∧ w'.cell? ⟨gb253, 1, none⟩ = some (.int .i64 a0_1) ∧ w'.cell? ⟨gb253, 2, none⟩ = some (.int .i64 a0_2) ∧ w'.cell? ⟨gb253, 3, none⟩ = some (.slice (some ad254) l0_3.length c0_3)) (ds := []) _ (by kernel_rfl) rfl rfl ⟨(blk_cell BK255.out 0).trans rfl, (blk_cell BK255.out 1).trans rfl, (blk_cell BK255.out 2).trans rfl, (blk_cell BK255.out 3).trans rfl, (blk_cell BK255.out 4).trans rfl, (blk_cell BK253.out 0).trans rfl, (blk_cell BK253.out 1).trans rfl, (blk_cell BK253.out 2).trans rfl, (blk_cell BK253.out 3).trans rfl⟩ (fun hHeld => ?_); refine with_tabW impl_groupOk.tab4 impl_groupOk.bits4 (fun HT_ HW_ => ?_)
         generalize w30.drew = w31 at BK253 BK255 HB hHeld ⊢
         refine pu 0 13 ?_; refine tk 1 14 ?_
         refine on 2 (some 15) (fun K hK => ?_)
         refine ca Try.func74 (impl_idOk.calls ((rd_T57 l0_3 x8_1).f0.f0) ((rd_T57 l0_3 x8_1).f0.f1) true _ A11.out) ?_
         rintro e w32 ⟨rfl, hb⟩
         refine ⟨_, rfl, ?_⟩
         replace BK253 := Aside0.mk (blk_below (g := gb253) (o := .cells #[.string a0_0, .int .i64 a0_1, .int .i64 a0_2, .slice (some ad254) l0_3.length c0_3] 107 (0, 0)) (by (with_reducible repeat (first | refine blk_drewN ?_ _ | refine blk_drew ?_ | refine blk_alloc ?_ _)); exact BK253.out) hb)
         replace BK255 := Aside0.mk (blk_below (g := gb255) (o := .cells #[.int .i64 ((rd_T57 l0_3 x8_1).f0.f0), .int .i64 ((rd_T57 l0_3 x8_1).f0.f1), .string ((rd_T57 l0_3 x8_1).f1), .int .i64 ((rd_T57 l0_3 x8_1).f2), .int .i64 ((rd_T57 l0_3 x8_1).f3)] 57 (0, 0)) (by (with_reducible repeat (first | refine blk_drewN ?_ _ | refine blk_drew ?_ | refine blk_alloc ?_ _)); exact BK255.out) hb)
         replace HB := Aside0.mk (below_step (by repeat (first | (with_reducible first | exact HB.out | apply below_alloc | apply pw_below_drewN | apply below_drew1 | refine below_set ?_ GE253.out | refine below_set ?_ GE255.out) | exact HB.out)) hb)
         (try clear hb)
         (try clear hb2)
         (try clear hk)
         (try clear hi)
         refine hK.out _ _ ⟨(blk_cell BK255.out 0).trans rfl, (blk_cell BK255.out 1).trans rfl, (blk_cell BK255.out 2).trans rfl, (blk_cell BK255.out 3).trans rfl, (blk_cell BK255.out 4).trans rfl, (blk_cell BK253.out 0).trans rfl, (blk_cell BK253.out 1).trans rfl, (blk_cell BK253.out 2).trans rfl, (blk_cell BK253.out 3).trans rfl⟩ (fun hHeld => ?_)
         clear hK K
         refine nm ?_; refine pu 3 16 ?_; refine pu 4 17 ?_; refine pu 5 18 ?_; refine pu 6 19 ?_; refine pu 7 20 ?_; refine of 8 21 ?_; refine of 9 22 ?_; refine of 10 23 ?_; refine of 11 24 ?_; refine of 12 25 ?_; refine of 13 26 ?_; refine of 14 27 ?_; refine of 15 28 ?_; refine of 16 29 ?_; refine of 17 30 ?_; refine of 18 31 ?_; refine pu 19 32 ?_; refine pu 20 33 ?_; refine pu 21 34 ?_; refine pu 22 35 ?_; refine pu 24 37 ?_; refine tk 23 36 ?_; refine tk 25 38 ?_
         refine on 26 (some 39) (fun K hK => ?_)
         refine ca Try.func33 (impl_IdLess.calls k1 a0_1 a0_2 ((rd_T57 l0_3 x8_1).f0.f0) ((rd_T57 l0_3 x8_1).f0.f1) t260 _ A29.out) ?_
         rintro e w33 ⟨rfl, hb⟩
         refine ⟨_, rfl, ?_⟩
         replace BK253 := Aside0.mk (blk_below (g := gb253) (o := .cells #[.string a0_0, .int .i64 a0_1, .int .i64 a0_2, .slice (some ad254) l0_3.length c0_3] 107 (0, 0)) (by (with_reducible repeat (first | refine blk_drewN ?_ _ | refine blk_drew ?_ | refine blk_alloc ?_ _)); exact BK253.out) hb)
         replace BK255 := Aside0.mk (blk_below (g := gb255) (o := .cells #[.int .i64 ((rd_T57 l0_3 x8_1).f0.f0), .int .i64 ((rd_T57 l0_3 x8_1).f0.f1), .string ((rd_T57 l0_3 x8_1).f1), .int .i64 ((rd_T57 l0_3 x8_1).f2), .int .i64 ((rd_T57 l0_3 x8_1).f3)] 57 (0, 0)) (by (with_reducible repeat (first | refine blk_drewN ?_ _ | refine blk_drew ?_ | refine blk_alloc ?_ _)); exact BK255.out) hb)
         replace HB := Aside0.mk (below_step (by repeat (first | (with_reducible first | exact HB.out | apply below_alloc | apply pw_below_drewN | apply below_drew1 | refine below_set ?_ GE253.out | refine below_set ?_ GE255.out) | exact HB.out)) hb)
         (try clear hb)
         (try clear hb2)
         (try clear hk)
         (try clear hi)
         refine hK.out _ _ ⟨(blk_cell BK255.out 0).trans rfl, (blk_cell BK255.out 1).trans rfl, (blk_cell BK255.out 2).trans rfl, (blk_cell BK255.out 3).trans rfl, (blk_cell BK255.out 4).trans rfl, (blk_cell BK253.out 0).trans rfl, (blk_cell BK253.out 1).trans rfl, (blk_cell BK253.out 2).trans rfl, (blk_cell BK253.out 3).trans rfl⟩ (fun hHeld => ?_)
         clear hK K
         refine nm ?_; refine pu 27 40 ?_
         refine dn ?_
         try go_wp2
         go_meet
         case rel => exact ⟨_, (t260), (by first | rfl | (simp; done) | (simp [*]; done)), H', ⟨by have := HK1.out; first | omega | exact Nat.le_refl _⟩, ⟨by (with_reducible repeat (first | refine blk_drewN ?_ _ | refine blk_drew ?_ | refine blk_alloc ?_ _)); exact BK253.out⟩, ⟨by (with_reducible repeat (first | refine blk_drewN ?_ _ | refine blk_drew ?_ | refine blk_alloc ?_ _)); exact BK255.out⟩, ⟨by repeat (first | (with_reducible first | exact HB.out | apply below_alloc | apply pw_below_drewN | apply below_drew1 | refine below_set ?_ GE253.out | refine below_set ?_ GE255.out) | exact HB.out)⟩⟩
       ·replace c12 := Bool.eq_false_iff.mpr c12
        subst c12
        have H1 : (impl_groupOk.j1 k1 l0_3 (l0_3.length : Int) x8_1 true a0_0 a0_1 a0_2 l0_3 ((rd_T57 l0_3 x8_1).f0.f0) ((rd_T57 l0_3 x8_1).f0.f1) ((rd_T57 l0_3 x8_1).f1) ((rd_T57 l0_3 x8_1).f2) ((rd_T57 l0_3 x8_1).f3)) = some r := by rw [if_neg (show ¬ (false = true) by decide)] at H; exact H
        clear H
        have H := H1
        clear H1
        have H' := Aside0.mk H
        clear H
        try go_wp2
        have n0_ : Aside0 ((((((w8.setCell ⟨gb255, 0, none⟩ (.int .i64 ((rd_T57 l0_3 x8_1).f0.f0))).setCell ⟨gb255, 1, none⟩ (.int .i64 ((rd_T57 l0_3 x8_1).f0.f1))).setCell ⟨gb255, 2, none⟩ (.string ((rd_T57 l0_3 x8_1).f1))).setCell ⟨gb255, 3, none⟩ (.int .i64 ((rd_T57 l0_3 x8_1).f2))).setCell ⟨gb255, 4, none⟩ (.int .i64 ((rd_T57 l0_3 x8_1).f3))).heap[gb253]? = some (.cells #[.string a0_0, .int .i64 a0_1, .int .i64 a0_2, .slice (some ad254) l0_3.length c0_3] 107 (0, 0))) := ⟨by (with_reducible repeat (first | refine blk_drewN ?_ _ | refine blk_drew ?_ | refine blk_alloc ?_ _)); refine blk_far ?_ NB253_255.out _; (with_reducible repeat (first | refine blk_drewN ?_ _ | refine blk_drew ?_ | refine blk_alloc ?_ _)); refine blk_far ?_ NB253_255.out _; (with_reducible repeat (first | refine blk_drewN ?_ _ | refine blk_drew ?_ | refine blk_alloc ?_ _)); refine blk_far ?_ NB253_255.out _; (with_reducible repeat (first | refine blk_drewN ?_ _ | refine blk_drew ?_ | refine blk_alloc ?_ _)); refine blk_far ?_ NB253_255.out _; (with_reducible repeat (first | refine blk_drewN ?_ _ | refine blk_drew ?_ | refine blk_alloc ?_ _)); refine blk_far ?_ NB253_255.out _; (with_reducible repeat (first | refine blk_drewN ?_ _ | refine blk_drew ?_ | refine blk_alloc ?_ _)); exact BK253.out⟩
        have n1_ : Aside0 ((((((w8.setCell ⟨gb255, 0, none⟩ (.int .i64 ((rd_T57 l0_3 x8_1).f0.f0))).setCell ⟨gb255, 1, none⟩ (.int .i64 ((rd_T57 l0_3 x8_1).f0.f1))).setCell ⟨gb255, 2, none⟩ (.string ((rd_T57 l0_3 x8_1).f1))).setCell ⟨gb255, 3, none⟩ (.int .i64 ((rd_T57 l0_3 x8_1).f2))).setCell ⟨gb255, 4, none⟩ (.int .i64 ((rd_T57 l0_3 x8_1).f3))).heap[gb255]? = some (.cells #[.int .i64 ((rd_T57 l0_3 x8_1).f0.f0), .int .i64 ((rd_T57 l0_3 x8_1).f0.f1), .string ((rd_T57 l0_3 x8_1).f1), .int .i64 ((rd_T57 l0_3 x8_1).f2), .int .i64 ((rd_T57 l0_3 x8_1).f3)] 57 (0, 0))) := ⟨by (with_reducible repeat (first | refine blk_drewN ?_ _ | refine blk_drew ?_ | refine blk_alloc ?_ _)); refine blk_put (cs := #[.int .i64 ((rd_T57 l0_3 x8_1).f0.f0), .int .i64 ((rd_T57 l0_3 x8_1).f0.f1), .string ((rd_T57 l0_3 x8_1).f1), .int .i64 ((rd_T57 l0_3 x8_1).f2), .int .i64 0]) ?_ 4 _ rfl; (with_reducible repeat (first | refine blk_drewN ?_ _ | refine blk_drew ?_ | refine blk_alloc ?_ _)); refine blk_put (cs := #[.int .i64 ((rd_T57 l0_3 x8_1).f0.f0), .int .i64 ((rd_T57 l0_3 x8_1).f0.f1), .string ((rd_T57 l0_3 x8_1).f1), .int .i64 0, .int .i64 0]) ?_ 3 _ rfl; (with_reducible repeat (first | refine blk_drewN ?_ _ | refine blk_drew ?_ | refine blk_alloc ?_ _)); refine blk_put (cs := #[.int .i64 ((rd_T57 l0_3 x8_1).f0.f0), .int .i64 ((rd_T57 l0_3 x8_1).f0.f1), .string (⟨#[]⟩ : ByteArray), .int .i64 0, .int .i64 0]) ?_ 2 _ rfl; (with_reducible repeat (first | refine blk_drewN ?_ _ | refine blk_drew ?_ | refine blk_alloc ?_ _)); refine blk_put (cs := #[.int .i64 ((rd_T57 l0_3 x8_1).f0.f0), .int .i64 0, .string (⟨#[]⟩ : ByteArray), .int .i64 0, .int .i64 0]) ?_ 1 _ rfl; (with_reducible repeat (first | refine blk_drewN ?_ _ | refine blk_drew ?_ | refine blk_alloc ?_ _)); refine blk_put (cs := #[.int .i64 0, .int .i64 0, .string (⟨#[]⟩ : ByteArray), .int .i64 0, .int .i64 0]) ?_ 0 _ rfl; (with_reducible repeat (first | refine blk_drewN ?_ _ | refine blk_drew ?_ | refine blk_alloc ?_ _)); exact BK255.out⟩
        have n2_ : Aside0 (Below w.heap.size w (((((w8.setCell ⟨gb255, 0, none⟩ (.int .i64 ((rd_T57 l0_3 x8_1).f0.f0))).setCell ⟨gb255, 1, none⟩ (.int .i64 ((rd_T57 l0_3 x8_1).f0.f1))).setCell ⟨gb255, 2, none⟩ (.string ((rd_T57 l0_3 x8_1).f1))).setCell ⟨gb255, 3, none⟩ (.int .i64 ((rd_T57 l0_3 x8_1).f2))).setCell ⟨gb255, 4, none⟩ (.int .i64 ((rd_T57 l0_3 x8_1).f3)))) := ⟨by repeat (first | (with_reducible first | exact HB.out | apply below_alloc | apply pw_below_drewN | apply below_drew1 | refine below_set ?_ GE253.out | refine below_set ?_ GE255.out) | exact HB.out)⟩
        (try clear BK253)
        (try clear BK255)
        (try clear HB)
        generalize (((((w8.setCell ⟨gb255, 0, none⟩ (.int .i64 ((rd_T57 l0_3 x8_1).f0.f0))).setCell ⟨gb255, 1, none⟩ (.int .i64 ((rd_T57 l0_3 x8_1).f0.f1))).setCell ⟨gb255, 2, none⟩ (.string ((rd_T57 l0_3 x8_1).f1))).setCell ⟨gb255, 3, none⟩ (.int .i64 ((rd_T57 l0_3 x8_1).f2))).setCell ⟨gb255, 4, none⟩ (.int .i64 ((rd_T57 l0_3 x8_1).f3))) = w34 at n0_ n1_ n2_ ⊢
        have BK253 := n0_
        have BK255 := n1_
        have HB := n2_
        clear n0_ n1_ n2_
        replace BK253 := Aside0.mk (blk_drew BK253.out)
        replace BK255 := Aside0.mk (blk_drew BK255.out)
        replace HB := Aside0.mk (below_drew1 HB.out)
        refine start_ (n := 28) (S := fun w' => w'.cell? ⟨gb255, 0, none⟩ = some (.int .i64 ((rd_T57 l0_3 x8_1).f0.f0)) ∧ w'.cell? ⟨gb255, 1, none⟩ = some (.int .i64 ((rd_T57 l0_3 x8_1).f0.f1)) ∧ w'.cell? ⟨gb255, 2, none⟩ = some (.string ((rd_T57 l0_3 x8_1).f1)) ∧ w'.cell? ⟨gb255, 3, none⟩ = some (.int .i64 ((rd_T57 l0_3 x8_1).f2)) ∧ w'.cell? ⟨gb255, 4, none⟩ = some (.int .i64 ((rd_T57 l0_3 x8_1).f3))) (ds := []) _ (by kernel_rfl) rfl rfl ⟨(blk_cell BK255.out 0).trans rfl, (blk_cell BK255.out 1).trans rfl, (blk_cell BK255.out 2).trans rfl, (blk_cell BK255.out 3).trans rfl, (blk_cell BK255.out 4).trans rfl⟩ (fun hHeld => ?_); refine with_tabW impl_groupOk.tab4 impl_groupOk.bits4 (fun HT_ HW_ => ?_)
        generalize w34.drew = w35 at BK253 BK255 HB hHeld ⊢
        refine pu 0 13 ?_; refine tk 1 14 ?_
        refine on 2 (some 15) (fun K hK => ?_)
        refine ca Try.func74 (impl_idOk.calls ((rd_T57 l0_3 x8_1).f0.f0) ((rd_T57 l0_3 x8_1).f0.f1) false _ A11.out) ?_
        rintro e w36 ⟨rfl, hb⟩
        refine ⟨_, rfl, ?_⟩
        replace BK253 := Aside0.mk (blk_below (g := gb253) (o := .cells #[.string a0_0, .int .i64 a0_1, .int .i64 a0_2, .slice (some ad254) l0_3.length c0_3] 107 (0, 0)) (by (with_reducible repeat (first | refine blk_drewN ?_ _ | refine blk_drew ?_ | refine blk_alloc ?_ _)); exact BK253.out) hb)
        replace BK255 := Aside0.mk (blk_below (g := gb255) (o := .cells #[.int .i64 ((rd_T57 l0_3 x8_1).f0.f0), .int .i64 ((rd_T57 l0_3 x8_1).f0.f1), .string ((rd_T57 l0_3 x8_1).f1), .int .i64 ((rd_T57 l0_3 x8_1).f2), .int .i64 ((rd_T57 l0_3 x8_1).f3)] 57 (0, 0)) (by (with_reducible repeat (first | refine blk_drewN ?_ _ | refine blk_drew ?_ | refine blk_alloc ?_ _)); exact BK255.out) hb)
        replace HB := Aside0.mk (below_step (by repeat (first | (with_reducible first | exact HB.out | apply below_alloc | apply pw_below_drewN | apply below_drew1 | refine below_set ?_ GE253.out | refine below_set ?_ GE255.out) | exact HB.out)) hb)
        (try clear hb)
        (try clear hb2)
        (try clear hk)
        (try clear hi)
        refine hK.out _ _ ⟨(blk_cell BK255.out 0).trans rfl, (blk_cell BK255.out 1).trans rfl, (blk_cell BK255.out 2).trans rfl, (blk_cell BK255.out 3).trans rfl, (blk_cell BK255.out 4).trans rfl⟩ (fun hHeld => ?_)
        clear hK K
        refine nm ?_; refine pu 3 16 ?_; refine pu 4 17 ?_; refine of 5 18 ?_; refine of 6 19 ?_; refine of 7 20 ?_; refine of 8 21 ?_; refine of 9 22 ?_; refine of 10 23 ?_; refine of 11 24 ?_; refine of 12 25 ?_; refine of 13 26 ?_; refine of 14 27 ?_; refine of 15 28 ?_; refine of 16 29 ?_; refine of 17 30 ?_; refine of 18 31 ?_; refine of 19 32 ?_; refine pu 20 33 ?_; refine pu 21 34 ?_; refine of 22 35 ?_; refine of 23 36 ?_; refine of 24 37 ?_; refine of 25 38 ?_; refine of 26 39 ?_; refine pu 27 40 ?_
        refine dn ?_
        try go_wp2
        go_meet
        case rel => exact ⟨_, (true), (by first | rfl | (simp; done) | (simp [*]; done)), H', ⟨by have := HK1.out; first | omega | exact Nat.le_refl _⟩, ⟨by (with_reducible repeat (first | refine blk_drewN ?_ _ | refine blk_drew ?_ | refine blk_alloc ?_ _)); exact BK253.out⟩, ⟨by (with_reducible repeat (first | refine blk_drewN ?_ _ | refine blk_drew ?_ | refine blk_alloc ?_ _)); exact BK255.out⟩, ⟨by repeat (first | (with_reducible first | exact HB.out | apply below_alloc | apply pw_below_drewN | apply below_drew1 | refine below_set ?_ GE253.out | refine below_set ?_ GE255.out) | exact HB.out)⟩⟩
      case rest =>
       clear HC7
       try clear c1
       try clear p2
       try clear c3
       try clear c7
       try clear c12
       try clear c13
       try clear c13b0
       try clear c13b1
       try clear c13b2
       try clear c15
       try clear c16
       try clear c33
       obtain ⟨kq, x40_6, rfl, HA, HJ6, BK253, BK255, HB⟩ := hcut
       cases kq with
       | zero => exact absurd HA.out (by simp [impl_groupOk.j1])
       | succ kj6 =>
        have H := HA.out
        clear HA
        simp only [impl_groupOk.j1] at H
        by_cases c37 : x40_6 = true
        ·subst c37
         have H1 : (some false) = some r := by rw [if_pos rfl] at H; exact H
         clear H
         have H := H1
         clear H1
         obtain rfl := Option.some.inj H
         go_wp2
         go_ret
         exact ⟨by first | rfl | (simp [errW_none, errW_some] <;> rfl) | (simp [*, errW_none, errW_some] <;> rfl), by repeat (first | (with_reducible first | exact HB.out | apply below_alloc | apply pw_below_drewN | apply below_drew1 | refine below_set ?_ GE253.out | refine below_set ?_ GE255.out) | exact HB.out)⟩
        ·replace c37 := Bool.eq_false_iff.mpr c37
         subst c37
         have H1 : ((impl_keyOk.f ((rd_T57 l0_3 x8_1).f1)).bind fun t261 => (if t261 = true then ((impl_within.f ((rd_T57 l0_3 x8_1).f2) 0 1000000).bind fun t262 => (if t262 = true then ((impl_within.f ((rd_T57 l0_3 x8_1).f3) 1 1000000000).bind fun t263 => (impl_groupOk.j2 kj6 l0_3 (l0_3.length : Int) x8_1 (!t263) a0_0 a0_1 a0_2 l0_3)) else (impl_groupOk.j2 kj6 l0_3 (l0_3.length : Int) x8_1 true a0_0 a0_1 a0_2 l0_3))) else (impl_groupOk.j2 kj6 l0_3 (l0_3.length : Int) x8_1 true a0_0 a0_1 a0_2 l0_3))) = some r := by rw [if_neg (show ¬ (false = true) by decide)] at H; exact H
         clear H
         have H := H1
         clear H1
         have HC38 := Aside0.mk H
         clear H
         go_upto_region 6 with (fail)
         go_cut [56] (fun v56 wc => ∃ (kq : Nat) (x56_37 : Bool), v56 = .bool x56_37 ∧ Aside0 (impl_groupOk.j2 kq l0_3 (l0_3.length : Int) x8_1 x56_37 a0_0 a0_1 a0_2 l0_3 = some r) ∧ Aside0 (kq ≤ kj6) ∧ Aside0 (wc.heap[gb253]? = some (.cells #[.string a0_0, .int .i64 a0_1, .int .i64 a0_2, (.slice (some ad254) l0_3.length c0_3)] 107 (0, 0))) ∧ Aside0 (wc.heap[gb255]? = some (.cells #[.int .i64 ((rd_T57 l0_3 x8_1).f0.f0), .int .i64 ((rd_T57 l0_3 x8_1).f0.f1), .string ((rd_T57 l0_3 x8_1).f1), .int .i64 ((rd_T57 l0_3 x8_1).f2), .int .i64 ((rd_T57 l0_3 x8_1).f3)] 57 (0, 0))) ∧ Aside0 (Below w.heap.size w wc))
         case first =>
          have H := HC38.out
          clear HC38
          replace H := Option.bind_eq_some_iff.mp H
          obtain ⟨t261, A390, H⟩ := H
          replace H : (if t261 = true then ((impl_within.f ((rd_T57 l0_3 x8_1).f2) 0 1000000).bind fun t262 => (if t262 = true then ((impl_within.f ((rd_T57 l0_3 x8_1).f3) 1 1000000000).bind fun t263 => (impl_groupOk.j2 kj6 l0_3 (l0_3.length : Int) x8_1 (!t263) a0_0 a0_1 a0_2 l0_3)) else (impl_groupOk.j2 kj6 l0_3 (l0_3.length : Int) x8_1 true a0_0 a0_1 a0_2 l0_3))) else (impl_groupOk.j2 kj6 l0_3 (l0_3.length : Int) x8_1 true a0_0 a0_1 a0_2 l0_3)) = some r := H
          have A39 := Aside0.mk A390
          clear A390
          by_cases c40 : t261 = true
          ·subst c40
           have H1 : ((impl_within.f ((rd_T57 l0_3 x8_1).f2) 0 1000000).bind fun t262 => (if t262 = true then ((impl_within.f ((rd_T57 l0_3 x8_1).f3) 1 1000000000).bind fun t263 => (impl_groupOk.j2 kj6 l0_3 (l0_3.length : Int) x8_1 (!t263) a0_0 a0_1 a0_2 l0_3)) else (impl_groupOk.j2 kj6 l0_3 (l0_3.length : Int) x8_1 true a0_0 a0_1 a0_2 l0_3))) = some r := by rw [if_pos rfl] at H; exact H
           clear H
           have H := H1
           clear H1
           replace H := Option.bind_eq_some_iff.mp H
           obtain ⟨t262, A410, H⟩ := H
           replace H : (if t262 = true then ((impl_within.f ((rd_T57 l0_3 x8_1).f3) 1 1000000000).bind fun t263 => (impl_groupOk.j2 kj6 l0_3 (l0_3.length : Int) x8_1 (!t263) a0_0 a0_1 a0_2 l0_3)) else (impl_groupOk.j2 kj6 l0_3 (l0_3.length : Int) x8_1 true a0_0 a0_1 a0_2 l0_3)) = some r := H
           have A41 := Aside0.mk A410
           clear A410
           by_cases c42 : t262 = true
           ·subst c42
            have H1 : ((impl_within.f ((rd_T57 l0_3 x8_1).f3) 1 1000000000).bind fun t263 => (impl_groupOk.j2 kj6 l0_3 (l0_3.length : Int) x8_1 (!t263) a0_0 a0_1 a0_2 l0_3)) = some r := by rw [if_pos rfl] at H; exact H
            clear H
            have H := H1
            clear H1
            replace H := Option.bind_eq_some_iff.mp H
            obtain ⟨t263, A430, H⟩ := H
            replace H : (impl_groupOk.j2 kj6 l0_3 (l0_3.length : Int) x8_1 (!t263) a0_0 a0_1 a0_2 l0_3) = some r := H
            have A43 := Aside0.mk A430
            clear A430
            have H' := Aside0.mk H
            clear H
            have hnb44 := NB255_253.out
            have hnc44 := NB253_255.out
            have hcz45_0 : wc.cell? ⟨gb255, 0, none⟩ = some (.int .i64 ((rd_T57 l0_3 x8_1).f0.f0)) := (blk_cell BK255.out 0).trans rfl
            have hcz45_1 : wc.cell? ⟨gb255, 1, none⟩ = some (.int .i64 ((rd_T57 l0_3 x8_1).f0.f1)) := (blk_cell BK255.out 1).trans rfl
            have hcz45_2 : wc.cell? ⟨gb255, 2, none⟩ = some (.string ((rd_T57 l0_3 x8_1).f1)) := (blk_cell BK255.out 2).trans rfl
            have hcz45_3 : wc.cell? ⟨gb255, 3, none⟩ = some (.int .i64 ((rd_T57 l0_3 x8_1).f2)) := (blk_cell BK255.out 3).trans rfl
            have hcz45_4 : wc.cell? ⟨gb255, 4, none⟩ = some (.int .i64 ((rd_T57 l0_3 x8_1).f3)) := (blk_cell BK255.out 4).trans rfl
            have hfz45_0 := blk_frozen BK255.out 0
            have hfz45_1 := blk_frozen BK255.out 1
            have hfz45_2 := blk_frozen BK255.out 2
            have hfz45_3 := blk_frozen BK255.out 3
            have hfz45_4 := blk_frozen BK255.out 4
            go_wp2_with (first | ((with_reducible refine gate_callee (f := 102) rfl ?_); refine goesL_ (some 43) rfl rfl Try.func102 (by kernel_rfl) rfl #[.string ((rd_T57 l0_3 x8_1).f1)] rfl (by (try simp only [List.map_toArray, List.map_cons, List.map_nil]); first | done | rfl | (simp only [List.length_drop, List.length_take]; rfl)) ?_; (with_reducible refine (impl_keyOk.calls ((rd_T57 l0_3 x8_1).f1) true _ A39.out).mono ?_); rintro e w' ⟨rfl, ⟨nd, rfl⟩⟩; refine ⟨_, rfl, ?_⟩) | (go_at_call 97; (with_reducible refine (impl_within.calls ((rd_T57 l0_3 x8_1).f2) 0 1000000 true _ A41.out).mono ?_); rintro e w' ⟨rfl, ⟨nd, rfl⟩⟩) | (go_at_call 97; (with_reducible refine (impl_within.calls ((rd_T57 l0_3 x8_1).f3) 1 1000000000 t263 _ A43.out).mono ?_); rintro e w' ⟨rfl, ⟨nd, rfl⟩⟩))
            go_meet
            case rel => exact ⟨_, (!t263), (by first | rfl | (simp; done) | (simp [*]; done)), H', ⟨by have := HK1.out; have := HJ6.out; first | omega | exact Nat.le_refl _⟩, ⟨by (with_reducible repeat (first | refine blk_drewN ?_ _ | refine blk_drew ?_ | refine blk_alloc ?_ _)); exact BK253.out⟩, ⟨by (with_reducible repeat (first | refine blk_drewN ?_ _ | refine blk_drew ?_ | refine blk_alloc ?_ _)); exact BK255.out⟩, ⟨by repeat (first | (with_reducible first | exact HB.out | apply below_alloc | apply pw_below_drewN | apply below_drew1 | refine below_set ?_ GE253.out | refine below_set ?_ GE255.out) | exact HB.out)⟩⟩
           ·replace c42 := Bool.eq_false_iff.mpr c42
            subst c42
            have H1 : (impl_groupOk.j2 kj6 l0_3 (l0_3.length : Int) x8_1 true a0_0 a0_1 a0_2 l0_3) = some r := by rw [if_neg (show ¬ (false = true) by decide)] at H; exact H
            clear H
            have H := H1
            clear H1
            have H' := Aside0.mk H
            clear H
            have hnb46 := NB255_253.out
            have hnc46 := NB253_255.out
            have hcz47_0 : wc.cell? ⟨gb255, 0, none⟩ = some (.int .i64 ((rd_T57 l0_3 x8_1).f0.f0)) := (blk_cell BK255.out 0).trans rfl
            have hcz47_1 : wc.cell? ⟨gb255, 1, none⟩ = some (.int .i64 ((rd_T57 l0_3 x8_1).f0.f1)) := (blk_cell BK255.out 1).trans rfl
            have hcz47_2 : wc.cell? ⟨gb255, 2, none⟩ = some (.string ((rd_T57 l0_3 x8_1).f1)) := (blk_cell BK255.out 2).trans rfl
            have hcz47_3 : wc.cell? ⟨gb255, 3, none⟩ = some (.int .i64 ((rd_T57 l0_3 x8_1).f2)) := (blk_cell BK255.out 3).trans rfl
            have hcz47_4 : wc.cell? ⟨gb255, 4, none⟩ = some (.int .i64 ((rd_T57 l0_3 x8_1).f3)) := (blk_cell BK255.out 4).trans rfl
            have hfz47_0 := blk_frozen BK255.out 0
            have hfz47_1 := blk_frozen BK255.out 1
            have hfz47_2 := blk_frozen BK255.out 2
            have hfz47_3 := blk_frozen BK255.out 3
            have hfz47_4 := blk_frozen BK255.out 4
            go_wp2_with (first | ((with_reducible refine gate_callee (f := 102) rfl ?_); refine goesL_ (some 43) rfl rfl Try.func102 (by kernel_rfl) rfl #[.string ((rd_T57 l0_3 x8_1).f1)] rfl (by (try simp only [List.map_toArray, List.map_cons, List.map_nil]); first | done | rfl | (simp only [List.length_drop, List.length_take]; rfl)) ?_; (with_reducible refine (impl_keyOk.calls ((rd_T57 l0_3 x8_1).f1) true _ A39.out).mono ?_); rintro e w' ⟨rfl, ⟨nd, rfl⟩⟩; refine ⟨_, rfl, ?_⟩) | (go_at_call 97; (with_reducible refine (impl_within.calls ((rd_T57 l0_3 x8_1).f2) 0 1000000 false _ A41.out).mono ?_); rintro e w' ⟨rfl, ⟨nd, rfl⟩⟩))
            go_meet
            case rel => exact ⟨_, (true), (by first | rfl | (simp; done) | (simp [*]; done)), H', ⟨by have := HK1.out; have := HJ6.out; first | omega | exact Nat.le_refl _⟩, ⟨by (with_reducible repeat (first | refine blk_drewN ?_ _ | refine blk_drew ?_ | refine blk_alloc ?_ _)); exact BK253.out⟩, ⟨by (with_reducible repeat (first | refine blk_drewN ?_ _ | refine blk_drew ?_ | refine blk_alloc ?_ _)); exact BK255.out⟩, ⟨by repeat (first | (with_reducible first | exact HB.out | apply below_alloc | apply pw_below_drewN | apply below_drew1 | refine below_set ?_ GE253.out | refine below_set ?_ GE255.out) | exact HB.out)⟩⟩
          ·replace c40 := Bool.eq_false_iff.mpr c40
           subst c40
           have H1 : (impl_groupOk.j2 kj6 l0_3 (l0_3.length : Int) x8_1 true a0_0 a0_1 a0_2 l0_3) = some r := by rw [if_neg (show ¬ (false = true) by decide)] at H; exact H
           clear H
           have H := H1
           clear H1
           have H' := Aside0.mk H
           clear H
           have hnb48 := NB255_253.out
           have hnc48 := NB253_255.out
           have hcz49_0 : wc.cell? ⟨gb255, 0, none⟩ = some (.int .i64 ((rd_T57 l0_3 x8_1).f0.f0)) := (blk_cell BK255.out 0).trans rfl
           have hcz49_1 : wc.cell? ⟨gb255, 1, none⟩ = some (.int .i64 ((rd_T57 l0_3 x8_1).f0.f1)) := (blk_cell BK255.out 1).trans rfl
           have hcz49_2 : wc.cell? ⟨gb255, 2, none⟩ = some (.string ((rd_T57 l0_3 x8_1).f1)) := (blk_cell BK255.out 2).trans rfl
           have hcz49_3 : wc.cell? ⟨gb255, 3, none⟩ = some (.int .i64 ((rd_T57 l0_3 x8_1).f2)) := (blk_cell BK255.out 3).trans rfl
           have hcz49_4 : wc.cell? ⟨gb255, 4, none⟩ = some (.int .i64 ((rd_T57 l0_3 x8_1).f3)) := (blk_cell BK255.out 4).trans rfl
           have hfz49_0 := blk_frozen BK255.out 0
           have hfz49_1 := blk_frozen BK255.out 1
           have hfz49_2 := blk_frozen BK255.out 2
           have hfz49_3 := blk_frozen BK255.out 3
           have hfz49_4 := blk_frozen BK255.out 4
           go_wp2_with (first | ((with_reducible refine gate_callee (f := 102) rfl ?_); refine goesL_ (some 43) rfl rfl Try.func102 (by kernel_rfl) rfl #[.string ((rd_T57 l0_3 x8_1).f1)] rfl (by (try simp only [List.map_toArray, List.map_cons, List.map_nil]); first | done | rfl | (simp only [List.length_drop, List.length_take]; rfl)) ?_; (with_reducible refine (impl_keyOk.calls ((rd_T57 l0_3 x8_1).f1) false _ A39.out).mono ?_); rintro e w' ⟨rfl, ⟨nd, rfl⟩⟩; refine ⟨_, rfl, ?_⟩))
           go_meet
           case rel => exact ⟨_, (true), (by first | rfl | (simp; done) | (simp [*]; done)), H', ⟨by have := HK1.out; have := HJ6.out; first | omega | exact Nat.le_refl _⟩, ⟨by (with_reducible repeat (first | refine blk_drewN ?_ _ | refine blk_drew ?_ | refine blk_alloc ?_ _)); exact BK253.out⟩, ⟨by (with_reducible repeat (first | refine blk_drewN ?_ _ | refine blk_drew ?_ | refine blk_alloc ?_ _)); exact BK255.out⟩, ⟨by repeat (first | (with_reducible first | exact HB.out | apply below_alloc | apply pw_below_drewN | apply below_drew1 | refine below_set ?_ GE253.out | refine below_set ?_ GE255.out) | exact HB.out)⟩⟩
         case rest =>
          clear HC38
          try clear c1
          try clear p2
          try clear c3
          try clear c4
          try clear c7
          try clear c10
          try clear c12
          try clear c13
          try clear c13b0
          try clear c13b1
          try clear c13b2
          try clear c15
          try clear c16
          try clear c33
          try clear c37
          try clear c40
          try clear c42
          try clear c44
          try clear c46
          try clear c48
          try clear hcz45_0
          try clear hcz45_1
          try clear hcz45_2
          try clear hcz45_3
          try clear hcz45_4
          try clear hcz47_0
          try clear hcz47_1
          try clear hcz47_2
          try clear hcz47_3
          try clear hcz47_4
          try clear hcz49_0
          try clear hcz49_1
          try clear hcz49_2
          try clear hcz49_3
          try clear hcz49_4
          try clear hfz45_0
          try clear hfz45_1
          try clear hfz45_2
          try clear hfz45_3
          try clear hfz45_4
          try clear hfz47_0
          try clear hfz47_1
          try clear hfz47_2
          try clear hfz47_3
          try clear hfz47_4
          try clear hfz49_0
          try clear hfz49_1
          try clear hfz49_2
          try clear hfz49_3
          try clear hfz49_4
          try clear p2
          obtain ⟨kq, x56_37, rfl, HA, HJ37, BK253, BK255, HB⟩ := hcut
          cases kq with
          | zero => exact absurd HA.out (by simp [impl_groupOk.j2])
          | succ kj37 =>
           have H := HA.out
           clear HA
           simp only [impl_groupOk.j2] at H
           by_cases c50 : x56_37 = true
           ·subst c50
            have H1 : (some false) = some r := by rw [if_pos rfl] at H; exact H
            clear H
            have H := H1
            clear H1
            obtain rfl := Option.some.inj H
            go_wp2
            go_ret
            exact ⟨by first | rfl | (simp [errW_none, errW_some] <;> rfl) | (simp [*, errW_none, errW_some] <;> rfl), by repeat (first | (with_reducible first | exact HB.out | apply below_alloc | apply pw_below_drewN | apply below_drew1 | refine below_set ?_ GE253.out | refine below_set ?_ GE255.out) | exact HB.out)⟩
           ·replace c50 := Bool.eq_false_iff.mpr c50
            subst c50
            have H1 : (impl_groupOk.l0 kj37 l0_3 (l0_3.length : Int) (wrap64 (x8_1 + 1)) a0_0 a0_1 a0_2 l0_3) = some r := by rw [if_neg (show ¬ (false = true) by decide)] at H; exact H
            clear H
            have H := H1
            clear H1
            have H' := Aside0.mk H
            clear H
            go_wp2
            go_roundg kj37
            case measure => have := HK1.out; have := HJ6.out; have := HJ37.out; omega
            case rel => exact ⟨(wrap64 (x8_1 + 1)), (by first | rfl | (simp; done) | (simp [*]; done)), H', ⟨by have := HK1.out; have := HJ6.out; have := HJ37.out; omega⟩, ⟨by (with_reducible repeat (first | refine blk_drewN ?_ _ | refine blk_drew ?_ | refine blk_alloc ?_ _)); exact BK253.out⟩, ⟨by repeat (first | (with_reducible first | exact HB.out | apply below_alloc | apply pw_below_drewN | apply below_drew1 | refine below_set ?_ GE253.out | refine below_set ?_ GE255.out) | exact HB.out)⟩⟩
     ·rw [if_neg c6] at H
      exact absurd H (by simp)
    ·rw [if_neg c5] at H
     exact absurd H (by simp)
   ·rw [if_neg c4] at H
    have c4b0 : decide (x8_1 < (l0_3.length : Int)) = false := decide_eq_false c4
    clear c4
    replace H := Option.bind_eq_some_iff.mp H
    obtain ⟨t264, A510, H⟩ := H
    replace H : (if t264 = true then ((impl_idOk.f a0_1 a0_2).bind fun t265 => (if t265 = true then (some (decide ((l0_3.length : Int) ≤ 16))) else (some false))) else (some false)) = some r := H
    have A51 := Aside0.mk A510
    clear A510
    by_cases c52 : t264 = true
    ·subst c52
     have H1 : ((impl_idOk.f a0_1 a0_2).bind fun t265 => (if t265 = true then (some (decide ((l0_3.length : Int) ≤ 16))) else (some false))) = some r := by rw [if_pos rfl] at H; exact H
     clear H
     have H := H1
     clear H1
     replace H := Option.bind_eq_some_iff.mp H
     obtain ⟨t265, A530, H⟩ := H
     replace H : (if t265 = true then (some (decide ((l0_3.length : Int) ≤ 16))) else (some false)) = some r := H
     have A53 := Aside0.mk A530
     clear A530
     by_cases c54 : t265 = true
     ·subst c54
      have H1 : (some (decide ((l0_3.length : Int) ≤ 16))) = some r := by rw [if_pos rfl] at H; exact H
      clear H
      have H := H1
      clear H1
      obtain rfl := Option.some.inj H
      have hcz55_0 : wr.cell? ⟨gb253, 0, none⟩ = some (.string a0_0) := (blk_cell BK253.out 0).trans rfl
      have hcz55_1 : wr.cell? ⟨gb253, 1, none⟩ = some (.int .i64 a0_1) := (blk_cell BK253.out 1).trans rfl
      have hcz55_2 : wr.cell? ⟨gb253, 2, none⟩ = some (.int .i64 a0_2) := (blk_cell BK253.out 2).trans rfl
      have hcz55_3 : wr.cell? ⟨gb253, 3, none⟩ = some (.slice A0_3 l0_3.length c0_3) := (blk_cell BK253.out 3).trans rfl
      have hfz55_0 := blk_frozen BK253.out 0
      have hfz55_1 := blk_frozen BK253.out 1
      have hfz55_2 := blk_frozen BK253.out 2
      have hfz55_3 := blk_frozen BK253.out 3
      go_wp2_with (first | ((with_reducible refine gate_callee (f := 102) rfl ?_); refine goesL_ (some 60) rfl rfl Try.func102 (by kernel_rfl) rfl #[.string a0_0] rfl (by (try simp only [List.map_toArray, List.map_cons, List.map_nil]); first | done | rfl | (simp only [List.length_drop, List.length_take]; rfl)) ?_; (with_reducible refine (impl_keyOk.calls a0_0 true _ A51.out).mono ?_); rintro e w' ⟨rfl, ⟨nd, rfl⟩⟩; refine ⟨_, rfl, ?_⟩) | (go_at_call 74; (with_reducible refine (impl_idOk.calls a0_1 a0_2 true _ A53.out).mono ?_); rintro e w56 ⟨rfl, hb⟩; have n0_ := Aside0.mk (blk_below (g := gb253) (o := .cells #[.string a0_0, .int .i64 a0_1, .int .i64 a0_2, .slice A0_3 l0_3.length c0_3] 107 (0, 0)) (by (with_reducible repeat (first | refine blk_drewN ?_ _ | refine blk_drew ?_ | refine blk_alloc ?_ _)); exact BK253.out) hb); have n1_ := Aside0.mk (below_step (by repeat (first | (with_reducible first | exact HB.out | apply below_alloc | apply pw_below_drewN | apply below_drew1 | refine below_set ?_ GE253.out) | exact HB.out)) hb); clear BK253; clear HB; have BK253 := n0_; have HB := n1_; clear n0_ n1_; (try clear hb); (try clear hb2); (try clear hk); (try clear hi); have hcz57_0 : w56.cell? ⟨gb253, 0, none⟩ = some (.string a0_0) := (blk_cell BK253.out 0).trans rfl; have hcz57_1 : w56.cell? ⟨gb253, 1, none⟩ = some (.int .i64 a0_1) := (blk_cell BK253.out 1).trans rfl; have hcz57_2 : w56.cell? ⟨gb253, 2, none⟩ = some (.int .i64 a0_2) := (blk_cell BK253.out 2).trans rfl; have hcz57_3 : w56.cell? ⟨gb253, 3, none⟩ = some (.slice A0_3 l0_3.length c0_3) := (blk_cell BK253.out 3).trans rfl; have hfz57_0 := blk_frozen BK253.out 0; have hfz57_1 := blk_frozen BK253.out 1; have hfz57_2 := blk_frozen BK253.out 2; have hfz57_3 := blk_frozen BK253.out 3))
      go_ret
      exact ⟨by first | rfl | (simp [errW_none, errW_some] <;> rfl) | (simp [*, errW_none, errW_some] <;> rfl), by repeat (first | (with_reducible first | exact HB.out | apply below_alloc | apply pw_below_drewN | apply below_drew1 | refine below_set ?_ GE253.out) | exact HB.out)⟩
     ·replace c54 := Bool.eq_false_iff.mpr c54
      subst c54
      have H1 : (some false) = some r := by rw [if_neg (show ¬ (false = true) by decide)] at H; exact H
      clear H
      have H := H1
      clear H1
      obtain rfl := Option.some.inj H
      have hcz58_0 : wr.cell? ⟨gb253, 0, none⟩ = some (.string a0_0) := (blk_cell BK253.out 0).trans rfl
      have hcz58_1 : wr.cell? ⟨gb253, 1, none⟩ = some (.int .i64 a0_1) := (blk_cell BK253.out 1).trans rfl
      have hcz58_2 : wr.cell? ⟨gb253, 2, none⟩ = some (.int .i64 a0_2) := (blk_cell BK253.out 2).trans rfl
      have hcz58_3 : wr.cell? ⟨gb253, 3, none⟩ = some (.slice A0_3 l0_3.length c0_3) := (blk_cell BK253.out 3).trans rfl
      have hfz58_0 := blk_frozen BK253.out 0
      have hfz58_1 := blk_frozen BK253.out 1
      have hfz58_2 := blk_frozen BK253.out 2
      have hfz58_3 := blk_frozen BK253.out 3
      go_wp2_with (first | ((with_reducible refine gate_callee (f := 102) rfl ?_); refine goesL_ (some 60) rfl rfl Try.func102 (by kernel_rfl) rfl #[.string a0_0] rfl (by (try simp only [List.map_toArray, List.map_cons, List.map_nil]); first | done | rfl | (simp only [List.length_drop, List.length_take]; rfl)) ?_; (with_reducible refine (impl_keyOk.calls a0_0 true _ A51.out).mono ?_); rintro e w' ⟨rfl, ⟨nd, rfl⟩⟩; refine ⟨_, rfl, ?_⟩) | (go_at_call 74; (with_reducible refine (impl_idOk.calls a0_1 a0_2 false _ A53.out).mono ?_); rintro e w59 ⟨rfl, hb⟩; have n0_ := Aside0.mk (blk_below (g := gb253) (o := .cells #[.string a0_0, .int .i64 a0_1, .int .i64 a0_2, .slice A0_3 l0_3.length c0_3] 107 (0, 0)) (by (with_reducible repeat (first | refine blk_drewN ?_ _ | refine blk_drew ?_ | refine blk_alloc ?_ _)); exact BK253.out) hb); have n1_ := Aside0.mk (below_step (by repeat (first | (with_reducible first | exact HB.out | apply below_alloc | apply pw_below_drewN | apply below_drew1 | refine below_set ?_ GE253.out) | exact HB.out)) hb); clear BK253; clear HB; have BK253 := n0_; have HB := n1_; clear n0_ n1_; (try clear hb); (try clear hb2); (try clear hk); (try clear hi)))
      go_ret
      exact ⟨by first | rfl | (simp [errW_none, errW_some] <;> rfl) | (simp [*, errW_none, errW_some] <;> rfl), by repeat (first | (with_reducible first | exact HB.out | apply below_alloc | apply pw_below_drewN | apply below_drew1 | refine below_set ?_ GE253.out) | exact HB.out)⟩
    ·replace c52 := Bool.eq_false_iff.mpr c52
     subst c52
     have H1 : (some false) = some r := by rw [if_neg (show ¬ (false = true) by decide)] at H; exact H
     clear H
     have H := H1
     clear H1
     obtain rfl := Option.some.inj H
     have hcz60_0 : wr.cell? ⟨gb253, 0, none⟩ = some (.string a0_0) := (blk_cell BK253.out 0).trans rfl
     have hcz60_1 : wr.cell? ⟨gb253, 1, none⟩ = some (.int .i64 a0_1) := (blk_cell BK253.out 1).trans rfl
     have hcz60_2 : wr.cell? ⟨gb253, 2, none⟩ = some (.int .i64 a0_2) := (blk_cell BK253.out 2).trans rfl
     have hcz60_3 : wr.cell? ⟨gb253, 3, none⟩ = some (.slice A0_3 l0_3.length c0_3) := (blk_cell BK253.out 3).trans rfl
     have hfz60_0 := blk_frozen BK253.out 0
     have hfz60_1 := blk_frozen BK253.out 1
     have hfz60_2 := blk_frozen BK253.out 2
     have hfz60_3 := blk_frozen BK253.out 3
     go_wp2_with (first | ((with_reducible refine gate_callee (f := 102) rfl ?_); refine goesL_ (some 60) rfl rfl Try.func102 (by kernel_rfl) rfl #[.string a0_0] rfl (by (try simp only [List.map_toArray, List.map_cons, List.map_nil]); first | done | rfl | (simp only [List.length_drop, List.length_take]; rfl)) ?_; (with_reducible refine (impl_keyOk.calls a0_0 false _ A51.out).mono ?_); rintro e w' ⟨rfl, ⟨nd, rfl⟩⟩; refine ⟨_, rfl, ?_⟩))
     go_ret
     exact ⟨by first | rfl | (simp [errW_none, errW_some] <;> rfl) | (simp [*, errW_none, errW_some] <;> rfl), by repeat (first | (with_reducible first | exact HB.out | apply below_alloc | apply pw_below_drewN | apply below_drew1 | refine below_set ?_ GE253.out) | exact HB.out)⟩
end Go.Proofs.Ytofiljboaegekaa.PFnExactStreamOk
namespace Go.Proofs.Ytofiljboaegekaa.PFnExactStreamOk
open Go.RowKit Go.Proofs.YtofiljboaegekaaW.PrintWords Go.Proofs.YtofiljboaegekaaW.PrintLast Go.Proofs.YtofiljboaegekaaW.PrintMore Go.Proofs.Ytofiljboaegekaa.Reg
attribute [local go_sem] max2_int min2_int max_two min_two max_three min_three max_four min_four
set_option linter.unusedVariables false
set_option linter.unusedSimpArgs false
mutual
def impl_StreamOk.j0 : Nat → Bool → Int → Int → List (S66) → List (S107) → Option (Bool)
 | 0, _, _, _, _, _ => none
 | k + 1, x22, x267000, x267001, x267002, x267003 => if x22 = true then (some false) else (impl_StreamOk.l0 k x267002 (x267002.length : Int) 0 x267000 x267001 x267002 x267003)
def impl_StreamOk.l0 : Nat → List (S66) → Int → Int → Int → Int → List (S66) → List (S107) → Option (Bool)
 | 0, _, _, _, _, _, _, _ => none
 | k + 1, x24, x25, x26, x267000, x267001, x267002, x267003 => if x26 < x25 then (if 0 ≤ x26 then (if x26 < (x24.length : Int) then ((impl_idOk.f ((rd_T66 x24 x26).f0.f0) ((rd_T66 x24 x26).f0.f1)).bind fun t270 => (if t270 = true then (if x26 > 0 then (if 0 ≤ (wrap64 (x26 - 1)) then (if (wrap64 (x26 - 1)) < (x267002.length : Int) then ((impl_idOrder.f k ((rd_T66 x267002 (wrap64 (x26 - 1))).f0.f0) ((rd_T66 x267002 (wrap64 (x26 - 1))).f0.f1) ((rd_T66 x24 x26).f0.f0) ((rd_T66 x24 x26).f0.f1)).bind fun t272 => (if t272 ≥ 0 then (impl_StreamOk.j2 k x24 x25 x26 true x267000 x267001 x267002 x267003) else ((impl_IdLess.f k x267000 x267001 ((rd_T66 x24 x26).f0.f0) ((rd_T66 x24 x26).f0.f1)).bind fun t273 => (if t273 = true then (impl_StreamOk.j2 k x24 x25 x26 true x267000 x267001 x267002 x267003) else ((impl_fieldsFull.f k ((rd_T66 x24 x26).f1)).bind fun t274 => (impl_StreamOk.j2 k x24 x25 x26 (!t274) x267000 x267001 x267002 x267003)))))) else (none)) else (none)) else ((impl_IdLess.f k x267000 x267001 ((rd_T66 x24 x26).f0.f0) ((rd_T66 x24 x26).f0.f1)).bind fun t275 => (if t275 = true then (impl_StreamOk.j2 k x24 x25 x26 true x267000 x267001 x267002 x267003) else ((impl_fieldsFull.f k ((rd_T66 x24 x26).f1)).bind fun t276 => (impl_StreamOk.j2 k x24 x25 x26 (!t276) x267000 x267001 x267002 x267003))))) else (impl_StreamOk.j2 k x24 x25 x26 true x267000 x267001 x267002 x267003))) else (none)) else (none)) else (impl_StreamOk.l1 k x267003 (x267003.length : Int) 0 x267000 x267001 x267002 x267003)
def impl_StreamOk.j2 : Nat → List (S66) → Int → Int → Bool → Int → Int → List (S66) → List (S107) → Option (Bool)
 | 0, _, _, _, _, _, _, _, _ => none
 | k + 1, x24, x25, x26, x64, x267000, x267001, x267002, x267003 => if x64 = true then (some false) else (impl_StreamOk.l0 k x24 x25 (wrap64 (x26 + 1)) x267000 x267001 x267002 x267003)
def impl_StreamOk.l1 : Nat → List (S107) → Int → Int → Int → Int → List (S66) → List (S107) → Option (Bool)
 | 0, _, _, _, _, _, _, _ => none
 | k + 1, x67, x68, x69, x267000, x267001, x267002, x267003 => if x69 < x68 then (if 0 ≤ x69 then (if x69 < (x67.length : Int) then ((impl_groupOk.f k ((rd_T107 x67 x69).f0) ((rd_T107 x67 x69).f1.f0) ((rd_T107 x67 x69).f1.f1) ((rd_T107 x67 x69).f2)).bind fun t279 => (if t279 = true then (if x69 > 0 then (if 0 ≤ (wrap64 (x69 - 1)) then (if (wrap64 (x69 - 1)) < (x267003.length : Int) then (if ((Op.bytesLess (((rd_T107 x267003 (wrap64 (x69 - 1))).f0).toList) (((rd_T107 x67 x69).f0).toList)) = true) then ((impl_IdLess.f k x267000 x267001 ((rd_T107 x67 x69).f1.f0) ((rd_T107 x67 x69).f1.f1)).bind fun t281 => (impl_StreamOk.j4 k x67 x68 x69 t281 x267000 x267001 x267002 x267003)) else (impl_StreamOk.j4 k x67 x68 x69 true x267000 x267001 x267002 x267003)) else (none)) else (none)) else ((impl_IdLess.f k x267000 x267001 ((rd_T107 x67 x69).f1.f0) ((rd_T107 x67 x69).f1.f1)).bind fun t282 => (impl_StreamOk.j4 k x67 x68 x69 t282 x267000 x267001 x267002 x267003))) else (impl_StreamOk.j4 k x67 x68 x69 true x267000 x267001 x267002 x267003))) else (none)) else (none)) else (some true)
def impl_StreamOk.j4 : Nat → List (S107) → Int → Int → Bool → Int → Int → List (S66) → List (S107) → Option (Bool)
 | 0, _, _, _, _, _, _, _, _ => none
 | k + 1, x67, x68, x69, x99, x267000, x267001, x267002, x267003 => if x99 = true then (some false) else (impl_StreamOk.l1 k x67 x68 (wrap64 (x69 + 1)) x267000 x267001 x267002 x267003)
end
def impl_StreamOk.f (k : Nat) (a0_0 : Int) (a0_1 : Int) (l0_2 : List (S66)) (l0_3 : List (S107)) : Option (Bool) := (impl_idOk.f a0_0 a0_1).bind fun t267 => (if t267 = true then (if (l0_2.length : Int) > 16 then (impl_StreamOk.j0 k true a0_0 a0_1 l0_2 l0_3) else (impl_StreamOk.j0 k (decide ((l0_3.length : Int) > 3)) a0_0 a0_1 l0_2 l0_3)) else (impl_StreamOk.j0 k true a0_0 a0_1 l0_2 l0_3))
def impl_StreamOk.T6 : Bool × List (List Nat × List Nat) := (true, [([], []), ([0], [0]), ([1], [1]), ([2], [2]), ([3, 2], [3]), ([4], [4]), ([5, 4], [4, 5]), ([6, 4, 4], [4, 6]), ([7], [7]), ([8, 7], [7, 8]), ([7], [7]), ([10, 7], [7, 10]), ([9, 11, 7], [7, 9, 11]), ([12, 7], [7, 12]), ([13, 7], [7, 13]), ([7], [7]), ([15, 7], [7, 15]), ([14, 16, 7, 7], [7, 14, 16]), ([17, 7], [7, 17]), ([7, 18, 4], [4, 7, 18]), ([4, 19], [4, 19]), ([20, 17], [20]), ([21], [21]), ([22, 21], [21, 22]), ([21], [21]), ([24, 21], [21, 24]), ([23, 25, 21, 21], [21, 23, 25]), ([21, 26], [21, 26]), ([27, 26], [27]), ([28], [28]), ([29, 28], [28, 29]), ([30, 28, 28], [28, 30]), ([31, 28], [28, 31]), ([28, 32], [28, 32])])
def impl_StreamOk.B6 : List Nat := [0, 1, 3, 7, 15, 31, 63, 127, 255, 511, 255, 1279, 4095, 8191, 16383, 255, 33023, 131071, 262143, 524287, 1048575, 2097151, 4194303, 8388607, 4194303, 20971519, 67108863, 134217727, 268435455, 536870911, 1073741823, 2147483647, 4294967295, 8589934591]
theorem impl_StreamOk.tab6 : rtab .any (opsOf Try.f18 6) = impl_StreamOk.T6 := by kernel_rfl
theorem impl_StreamOk.bits6 : waitsOk impl_StreamOk.T6.2 impl_StreamOk.B6 = true := by kernel_rfl
def impl_StreamOk.T12 : Bool × List (List Nat × List Nat) := (true, [([], []), ([0], [0]), ([1], [1]), ([2, 1], [2]), ([3], [3]), ([4, 3], [3, 4]), ([5, 3, 3], [3, 5]), ([6], [6]), ([7, 6], [6, 7]), ([6], [6]), ([9, 6], [6, 9]), ([8, 10, 6], [6, 8, 10]), ([11, 6], [6, 11]), ([12, 6], [6, 12]), ([6], [6]), ([14, 6], [6, 14]), ([13, 15, 6], [6, 13, 15]), ([6, 16, 3], [3, 6, 16]), ([3, 17], [3, 17]), ([18, 6], [18]), ([19], [19]), ([20, 19], [19, 20]), ([19], [19]), ([22, 19], [19, 22]), ([21, 23, 19, 19], [19, 21, 23]), ([19, 24], [19, 24])])
def impl_StreamOk.B12 : List Nat := [0, 1, 3, 7, 15, 31, 63, 127, 255, 127, 639, 2047, 4095, 8191, 127, 16511, 65535, 131071, 262143, 524287, 1048575, 2097151, 1048575, 5242879, 16777215, 33554431]
theorem impl_StreamOk.tab12 : rtab .any (opsOf Try.f18 12) = impl_StreamOk.T12 := by kernel_rfl
theorem impl_StreamOk.bits12 : waitsOk impl_StreamOk.T12.2 impl_StreamOk.B12 = true := by kernel_rfl
set_option maxHeartbeats 8000000 in
set_option maxRecDepth 100000 in
theorem impl_StreamOk.calls (k : Nat) (a0_0 : Int) (a0_1 : Int) (A0_2 : Option Addr) (c0_2 : Nat) (l0_2 : List (S66)) (A0_3 : Option Addr) (c0_3 : Nat) (l0_3 : List (S107)) (r : Bool) (w : World) (hr0_2 : Kd.C k66 w A0_2 l0_2.length l0_2) (hc0_2 : l0_2.length ≤ c0_2) (hr0_3 : Kd.C k107 w A0_3 l0_3.length l0_3) (hc0_3 : l0_3.length ≤ c0_3) (h : impl_StreamOk.f k a0_0 a0_1 l0_2 l0_3 = some r) :
  Calls Try.prog 18 #[.agg #[.int .i64 a0_0, .int .i64 a0_1, .slice A0_2 l0_2.length c0_2, .slice A0_3 l0_3.length c0_3]] w fun e w' => e = .returned (.bool r) ∧ Below w.heap.size w w' := by
 have hu34 := Try.underlying34
 have hu30 := Try.underlying30
 have hu66 := Try.underlying66
 have hu107 := Try.underlying107
 have HR0_2 := Aside0.mk hr0_2
 have HC0_2 := Aside0.mk hc0_2
 clear hr0_2 hc0_2
 have HR0_3 := Aside0.mk hr0_3
 have HC0_3 := Aside0.mk hc0_3
 clear hr0_3 hc0_3
 have HB := Aside0.mk (Below.refl w.heap.size w)
 have H : ((impl_idOk.f a0_0 a0_1).bind fun t267 => (if t267 = true then (if (l0_2.length : Int) > 16 then (impl_StreamOk.j0 k true a0_0 a0_1 l0_2 l0_3) else (impl_StreamOk.j0 k (decide ((l0_3.length : Int) > 3)) a0_0 a0_1 l0_2 l0_3)) else (impl_StreamOk.j0 k true a0_0 a0_1 l0_2 l0_3))) = some r := h
 clear h
 have HC2 := Aside0.mk H
 clear H
 go_enter Try.func18, Try.ntmps18
 go_upto_region 1 with (first | ((with_reducible refine gate_dst (N := 1) rfl ?_); (try (refine gate_guard (by rfl) ?_; dsimp only)); refine box_event ?hg (N := 1) ?hd (cs := #[.int .i64 a0_0, .int .i64 a0_1, .slice A0_2 l0_2.length c0_2, .slice A0_3 l0_3.length c0_3]) (t := 34) ?hr ?_; (case hd => rfl); (case hg => rfl); (case hr => first | (go_simp; done) | (go_simp; rfl)); intro gb266 hg w3 hbox hb; have n0_ := Aside0.mk (below_step (by repeat (first | (with_reducible first | exact HB.out | apply below_alloc | apply pw_below_drewN | apply below_drew1) | exact HB.out)) hb); have n1_ := Aside0.mk (hbox); have n2_ := Aside0.mk ((by rw [hg]; exact (below_size (by repeat (first | (with_reducible first | exact HB.out | apply below_alloc | apply pw_below_drewN | apply below_drew1) | exact HB.out))) : w.heap.size ≤ gb266)); have n3_ := Aside0.mk ((by rw [hg]; exact (below_size (by repeat (first | (with_reducible first | exact HB.out | apply below_alloc | apply pw_below_drewN | apply below_drew1) | exact HB.out))) : w.heap.size ≤ gb266)); clear HB; have HB := n0_; have BK266 := n1_; have GW266 := n2_; have GE266 := n3_; clear n0_ n1_ n2_ n3_; clear hb hbox hg))
 (try simp only [Act.put, List.setIfInBounds_toArray, List.set_cons_zero, List.set_cons_succ])
 go_cut [22] (fun v22 wc => ∃ (kq : Nat) (x22_1 : Bool), v22 = .bool x22_1 ∧ Aside0 (impl_StreamOk.j0 kq x22_1 a0_0 a0_1 l0_2 l0_3 = some r) ∧ Aside0 (kq ≤ k) ∧ Aside0 (wc.heap[gb266]? = some (.cells #[.int .i64 a0_0, .int .i64 a0_1, (.slice A0_2 l0_2.length c0_2), (.slice A0_3 l0_3.length c0_3)] 34 (0, 0))) ∧ Aside0 (Below w.heap.size w wc))
 case first =>
  have H := HC2.out
  clear HC2
  replace H := Option.bind_eq_some_iff.mp H
  obtain ⟨t267, A40, H⟩ := H
  replace H : (if t267 = true then (if (l0_2.length : Int) > 16 then (impl_StreamOk.j0 k true a0_0 a0_1 l0_2 l0_3) else (impl_StreamOk.j0 k (decide ((l0_3.length : Int) > 3)) a0_0 a0_1 l0_2 l0_3)) else (impl_StreamOk.j0 k true a0_0 a0_1 l0_2 l0_3)) = some r := H
  have A4 := Aside0.mk A40
  clear A40
  by_cases c5 : t267 = true
  ·subst c5
   have H1 : (if (l0_2.length : Int) > 16 then (impl_StreamOk.j0 k true a0_0 a0_1 l0_2 l0_3) else (impl_StreamOk.j0 k (decide ((l0_3.length : Int) > 3)) a0_0 a0_1 l0_2 l0_3)) = some r := by rw [if_pos rfl] at H; exact H
   clear H
   have H := H1
   clear H1
   by_cases c6 : (l0_2.length : Int) > 16
   ·rw [if_pos c6] at H
    have c6b0 : decide (16 < (l0_2.length : Int)) = true := decide_eq_true c6
    have c6b1 : decide (16 < l0_2.length) = true := decide_eq_true (by omega)
    clear c6
    (first | rw [c6b0] | rw [c6b1] | (simp only [i64_w, i32_w]; rw [c6b0]) | rw [c6b2] | skip)
    have H' := Aside0.mk H
    clear H
    have hcz7_0 : w3.cell? ⟨gb266, 0, none⟩ = some (.int .i64 a0_0) := (blk_cell BK266.out 0).trans rfl
    have hcz7_1 : w3.cell? ⟨gb266, 1, none⟩ = some (.int .i64 a0_1) := (blk_cell BK266.out 1).trans rfl
    have hcz7_2 : w3.cell? ⟨gb266, 2, none⟩ = some (.slice A0_2 l0_2.length c0_2) := (blk_cell BK266.out 2).trans rfl
    have hcz7_3 : w3.cell? ⟨gb266, 3, none⟩ = some (.slice A0_3 l0_3.length c0_3) := (blk_cell BK266.out 3).trans rfl
    have hfz7_0 := blk_frozen BK266.out 0
    have hfz7_1 := blk_frozen BK266.out 1
    have hfz7_2 := blk_frozen BK266.out 2
    have hfz7_3 := blk_frozen BK266.out 3
    go_wp2_with (first | ((with_reducible refine gate_callee (f := 74) rfl ?_); refine goesL_ (some 9) rfl rfl Try.func74 (by kernel_rfl) rfl #[.agg #[.int .i64 a0_0, .int .i64 a0_1]] rfl (by (try simp only [List.map_toArray, List.map_cons, List.map_nil]); first | done | rfl | (simp only [List.length_drop, List.length_take]; rfl)) ?_; (with_reducible refine (impl_idOk.calls a0_0 a0_1 true _ A4.out).mono ?_); rintro e w8 ⟨rfl, hb⟩; refine ⟨_, rfl, ?_⟩; have n0_ := Aside0.mk (blk_below (g := gb266) (o := .cells #[.int .i64 a0_0, .int .i64 a0_1, .slice A0_2 l0_2.length c0_2, .slice A0_3 l0_3.length c0_3] 34 (0, 0)) (by (with_reducible repeat (first | refine blk_drewN ?_ _ | refine blk_drew ?_ | refine blk_alloc ?_ _)); exact BK266.out) hb); have n1_ := Aside0.mk (below_step (by repeat (first | (with_reducible first | exact HB.out | apply below_alloc | apply pw_below_drewN | apply below_drew1 | refine below_set ?_ GE266.out) | exact HB.out)) hb); clear BK266; clear HB; have BK266 := n0_; have HB := n1_; clear n0_ n1_; (try clear hb); (try clear hb2); (try clear hk); (try clear hi); have hcz9_0 : w8.cell? ⟨gb266, 0, none⟩ = some (.int .i64 a0_0) := (blk_cell BK266.out 0).trans rfl; have hcz9_1 : w8.cell? ⟨gb266, 1, none⟩ = some (.int .i64 a0_1) := (blk_cell BK266.out 1).trans rfl; have hcz9_2 : w8.cell? ⟨gb266, 2, none⟩ = some (.slice A0_2 l0_2.length c0_2) := (blk_cell BK266.out 2).trans rfl; have hcz9_3 : w8.cell? ⟨gb266, 3, none⟩ = some (.slice A0_3 l0_3.length c0_3) := (blk_cell BK266.out 3).trans rfl; have hfz9_0 := blk_frozen BK266.out 0; have hfz9_1 := blk_frozen BK266.out 1; have hfz9_2 := blk_frozen BK266.out 2; have hfz9_3 := blk_frozen BK266.out 3))
    go_meet
    case rel => exact ⟨_, (true), (by first | rfl | (simp; done) | (simp [*]; done)), H', ⟨by first | omega | exact Nat.le_refl _⟩, ⟨by (with_reducible repeat (first | refine blk_drewN ?_ _ | refine blk_drew ?_ | refine blk_alloc ?_ _)); exact BK266.out⟩, ⟨by repeat (first | (with_reducible first | exact HB.out | apply below_alloc | apply pw_below_drewN | apply below_drew1 | refine below_set ?_ GE266.out) | exact HB.out)⟩⟩
   ·rw [if_neg c6] at H
    have c6b0 : decide (16 < (l0_2.length : Int)) = false := decide_eq_false c6
    have c6b1 : decide (16 < l0_2.length) = false := decide_eq_false (by omega)
    clear c6
    (first | rw [c6b0] | rw [c6b1] | (simp only [i64_w, i32_w]; rw [c6b0]) | rw [c6b2] | skip)
    have H' := Aside0.mk H
    clear H
    have hcz10_0 : w3.cell? ⟨gb266, 0, none⟩ = some (.int .i64 a0_0) := (blk_cell BK266.out 0).trans rfl
    have hcz10_1 : w3.cell? ⟨gb266, 1, none⟩ = some (.int .i64 a0_1) := (blk_cell BK266.out 1).trans rfl
    have hcz10_2 : w3.cell? ⟨gb266, 2, none⟩ = some (.slice A0_2 l0_2.length c0_2) := (blk_cell BK266.out 2).trans rfl
    have hcz10_3 : w3.cell? ⟨gb266, 3, none⟩ = some (.slice A0_3 l0_3.length c0_3) := (blk_cell BK266.out 3).trans rfl
    have hfz10_0 := blk_frozen BK266.out 0
    have hfz10_1 := blk_frozen BK266.out 1
    have hfz10_2 := blk_frozen BK266.out 2
    have hfz10_3 := blk_frozen BK266.out 3
    go_wp2_with (first | ((with_reducible refine gate_callee (f := 74) rfl ?_); refine goesL_ (some 9) rfl rfl Try.func74 (by kernel_rfl) rfl #[.agg #[.int .i64 a0_0, .int .i64 a0_1]] rfl (by (try simp only [List.map_toArray, List.map_cons, List.map_nil]); first | done | rfl | (simp only [List.length_drop, List.length_take]; rfl)) ?_; (with_reducible refine (impl_idOk.calls a0_0 a0_1 true _ A4.out).mono ?_); rintro e w11 ⟨rfl, hb⟩; refine ⟨_, rfl, ?_⟩; have n0_ := Aside0.mk (blk_below (g := gb266) (o := .cells #[.int .i64 a0_0, .int .i64 a0_1, .slice A0_2 l0_2.length c0_2, .slice A0_3 l0_3.length c0_3] 34 (0, 0)) (by (with_reducible repeat (first | refine blk_drewN ?_ _ | refine blk_drew ?_ | refine blk_alloc ?_ _)); exact BK266.out) hb); have n1_ := Aside0.mk (below_step (by repeat (first | (with_reducible first | exact HB.out | apply below_alloc | apply pw_below_drewN | apply below_drew1 | refine below_set ?_ GE266.out) | exact HB.out)) hb); clear BK266; clear HB; have BK266 := n0_; have HB := n1_; clear n0_ n1_; (try clear hb); (try clear hb2); (try clear hk); (try clear hi); have hcz12_0 : w11.cell? ⟨gb266, 0, none⟩ = some (.int .i64 a0_0) := (blk_cell BK266.out 0).trans rfl; have hcz12_1 : w11.cell? ⟨gb266, 1, none⟩ = some (.int .i64 a0_1) := (blk_cell BK266.out 1).trans rfl; have hcz12_2 : w11.cell? ⟨gb266, 2, none⟩ = some (.slice A0_2 l0_2.length c0_2) := (blk_cell BK266.out 2).trans rfl; have hcz12_3 : w11.cell? ⟨gb266, 3, none⟩ = some (.slice A0_3 l0_3.length c0_3) := (blk_cell BK266.out 3).trans rfl; have hfz12_0 := blk_frozen BK266.out 0; have hfz12_1 := blk_frozen BK266.out 1; have hfz12_2 := blk_frozen BK266.out 2; have hfz12_3 := blk_frozen BK266.out 3))
    go_meet
    case rel => exact ⟨_, (decide ((l0_3.length : Int) > 3)), (by first | rfl | (simp; done) | (simp [*]; done)), H', ⟨by first | omega | exact Nat.le_refl _⟩, ⟨by (with_reducible repeat (first | refine blk_drewN ?_ _ | refine blk_drew ?_ | refine blk_alloc ?_ _)); exact BK266.out⟩, ⟨by repeat (first | (with_reducible first | exact HB.out | apply below_alloc | apply pw_below_drewN | apply below_drew1 | refine below_set ?_ GE266.out) | exact HB.out)⟩⟩
  ·replace c5 := Bool.eq_false_iff.mpr c5
   subst c5
   have H1 : (impl_StreamOk.j0 k true a0_0 a0_1 l0_2 l0_3) = some r := by rw [if_neg (show ¬ (false = true) by decide)] at H; exact H
   clear H
   have H := H1
   clear H1
   have H' := Aside0.mk H
   clear H
   have hcz13_0 : w3.cell? ⟨gb266, 0, none⟩ = some (.int .i64 a0_0) := (blk_cell BK266.out 0).trans rfl
   have hcz13_1 : w3.cell? ⟨gb266, 1, none⟩ = some (.int .i64 a0_1) := (blk_cell BK266.out 1).trans rfl
   have hcz13_2 : w3.cell? ⟨gb266, 2, none⟩ = some (.slice A0_2 l0_2.length c0_2) := (blk_cell BK266.out 2).trans rfl
   have hcz13_3 : w3.cell? ⟨gb266, 3, none⟩ = some (.slice A0_3 l0_3.length c0_3) := (blk_cell BK266.out 3).trans rfl
   have hfz13_0 := blk_frozen BK266.out 0
   have hfz13_1 := blk_frozen BK266.out 1
   have hfz13_2 := blk_frozen BK266.out 2
   have hfz13_3 := blk_frozen BK266.out 3
   go_wp2_with (first | ((with_reducible refine gate_callee (f := 74) rfl ?_); refine goesL_ (some 9) rfl rfl Try.func74 (by kernel_rfl) rfl #[.agg #[.int .i64 a0_0, .int .i64 a0_1]] rfl (by (try simp only [List.map_toArray, List.map_cons, List.map_nil]); first | done | rfl | (simp only [List.length_drop, List.length_take]; rfl)) ?_; (with_reducible refine (impl_idOk.calls a0_0 a0_1 false _ A4.out).mono ?_); rintro e w14 ⟨rfl, hb⟩; refine ⟨_, rfl, ?_⟩; have n0_ := Aside0.mk (blk_below (g := gb266) (o := .cells #[.int .i64 a0_0, .int .i64 a0_1, .slice A0_2 l0_2.length c0_2, .slice A0_3 l0_3.length c0_3] 34 (0, 0)) (by (with_reducible repeat (first | refine blk_drewN ?_ _ | refine blk_drew ?_ | refine blk_alloc ?_ _)); exact BK266.out) hb); have n1_ := Aside0.mk (below_step (by repeat (first | (with_reducible first | exact HB.out | apply below_alloc | apply pw_below_drewN | apply below_drew1 | refine below_set ?_ GE266.out) | exact HB.out)) hb); clear BK266; clear HB; have BK266 := n0_; have HB := n1_; clear n0_ n1_; (try clear hb); (try clear hb2); (try clear hk); (try clear hi)))
   go_meet
   case rel => exact ⟨_, (true), (by first | rfl | (simp; done) | (simp [*]; done)), H', ⟨by first | omega | exact Nat.le_refl _⟩, ⟨by (with_reducible repeat (first | refine blk_drewN ?_ _ | refine blk_drew ?_ | refine blk_alloc ?_ _)); exact BK266.out⟩, ⟨by repeat (first | (with_reducible first | exact HB.out | apply below_alloc | apply pw_below_drewN | apply below_drew1 | refine below_set ?_ GE266.out) | exact HB.out)⟩⟩
 case rest =>
  clear HC2
  try clear c1
  try clear p2
  try clear c5
  try clear c6
  try clear c6b0
  try clear c6b1
  try clear c6b2
  try clear c7
  try clear hcz10_0
  try clear hcz10_1
  try clear hcz10_2
  try clear hcz10_3
  try clear hcz12_0
  try clear hcz12_1
  try clear hcz12_2
  try clear hcz12_3
  try clear hcz13_0
  try clear hcz13_1
  try clear hcz13_2
  try clear hcz13_3
  try clear hcz7_0
  try clear hcz7_1
  try clear hcz7_2
  try clear hcz7_3
  try clear hcz9_0
  try clear hcz9_1
  try clear hcz9_2
  try clear hcz9_3
  try clear hfz10_0
  try clear hfz10_1
  try clear hfz10_2
  try clear hfz10_3
  try clear hfz12_0
  try clear hfz12_1
  try clear hfz12_2
  try clear hfz12_3
  try clear hfz13_0
  try clear hfz13_1
  try clear hfz13_2
  try clear hfz13_3
  try clear hfz7_0
  try clear hfz7_1
  try clear hfz7_2
  try clear hfz7_3
  try clear hfz9_0
  try clear hfz9_1
  try clear hfz9_2
  try clear hfz9_3
  obtain ⟨kq, x22_1, rfl, HA, HJ1, BK266, HB⟩ := hcut
  cases kq with
  | zero => exact absurd HA.out (by simp [impl_StreamOk.j0])
  | succ kj1 =>
   have H := HA.out
   clear HA
   simp only [impl_StreamOk.j0] at H
   by_cases c15 : x22_1 = true
   ·subst c15
    have H1 : (some false) = some r := by rw [if_pos rfl] at H; exact H
    clear H
    have H := H1
    clear H1
    obtain rfl := Option.some.inj H
    go_wp2
    go_ret
    exact ⟨by first | rfl | (simp [errW_none, errW_some] <;> rfl) | (simp [*, errW_none, errW_some] <;> rfl), by repeat (first | (with_reducible first | exact HB.out | apply below_alloc | apply pw_below_drewN | apply below_drew1 | refine below_set ?_ GE266.out) | exact HB.out)⟩
   ·replace c15 := Bool.eq_false_iff.mpr c15
    subst c15
    have H1 : (impl_StreamOk.l0 kj1 l0_2 (l0_2.length : Int) 0 a0_0 a0_1 l0_2 l0_3) = some r := by rw [if_neg (show ¬ (false = true) by decide)] at H; exact H
    clear H
    have H := H1
    clear H1
    have H' := Aside0.mk H
    clear H
    have hcz16_0 : wc.cell? ⟨gb266, 0, none⟩ = some (.int .i64 a0_0) := (blk_cell BK266.out 0).trans rfl
    have hcz16_1 : wc.cell? ⟨gb266, 1, none⟩ = some (.int .i64 a0_1) := (blk_cell BK266.out 1).trans rfl
    have hcz16_2 : wc.cell? ⟨gb266, 2, none⟩ = some (.slice A0_2 l0_2.length c0_2) := (blk_cell BK266.out 2).trans rfl
    have hcz16_3 : wc.cell? ⟨gb266, 3, none⟩ = some (.slice A0_3 l0_3.length c0_3) := (blk_cell BK266.out 3).trans rfl
    have hfz16_0 := blk_frozen BK266.out 0
    have hfz16_1 := blk_frozen BK266.out 1
    have hfz16_2 := blk_frozen BK266.out 2
    have hfz16_3 := blk_frozen BK266.out 3
    go_wp2
    go_loopg [26] kj1 (fun kq v26 w' => ∃ (x26_2 : Int), v26 = .int .i64 x26_2 ∧ Aside0 (impl_StreamOk.l0 kq l0_2 (l0_2.length : Int) x26_2 a0_0 a0_1 l0_2 l0_3 = some r) ∧ Aside0 (kq ≤ kj1) ∧ Aside0 (w'.heap[gb266]? = some (.cells #[.int .i64 a0_0, .int .i64 a0_1, (.slice A0_2 l0_2.length c0_2), (.slice A0_3 l0_3.length c0_3)] 34 (0, 0))) ∧ Aside0 (Below w.heap.size w w'))
    case atStart => exact ⟨(0), (by first | rfl | (simp; done) | (simp [*]; done)), H', ⟨Nat.le_refl _⟩, ⟨by (with_reducible repeat (first | refine blk_drewN ?_ _ | refine blk_drew ?_ | refine blk_alloc ?_ _)); exact BK266.out⟩, ⟨by repeat (first | (with_reducible first | exact HB.out | apply below_alloc | apply pw_below_drewN | apply below_drew1 | refine below_set ?_ GE266.out) | exact HB.out)⟩⟩
    case round =>
     clear H'
     try clear c1
     try clear p2
     try clear c5
     try clear c6
     try clear c6b0
     try clear c6b1
     try clear c6b2
     try clear c7
     try clear c15
     try clear hcz10_0
     try clear hcz10_1
     try clear hcz10_2
     try clear hcz10_3
     try clear hcz12_0
     try clear hcz12_1
     try clear hcz12_2
     try clear hcz12_3
     try clear hcz13_0
     try clear hcz13_1
     try clear hcz13_2
     try clear hcz13_3
     try clear hcz16_0
     try clear hcz16_1
     try clear hcz16_2
     try clear hcz16_3
     try clear hcz7_0
     try clear hcz7_1
     try clear hcz7_2
     try clear hcz7_3
     try clear hcz9_0
     try clear hcz9_1
     try clear hcz9_2
     try clear hcz9_3
     try clear hfz10_0
     try clear hfz10_1
     try clear hfz10_2
     try clear hfz10_3
     try clear hfz12_0
     try clear hfz12_1
     try clear hfz12_2
     try clear hfz12_3
     try clear hfz13_0
     try clear hfz13_1
     try clear hfz13_2
     try clear hfz13_3
     try clear hfz16_0
     try clear hfz16_1
     try clear hfz16_2
     try clear hfz16_3
     try clear hfz7_0
     try clear hfz7_1
     try clear hfz7_2
     try clear hfz7_3
     try clear hfz9_0
     try clear hfz9_1
     try clear hfz9_2
     try clear hfz9_3
     try clear p2
     obtain ⟨x26_2, rfl, HA, HK2, BK266, HB⟩ := hrel
     cases gk with
     | zero => exact absurd HA.out (by simp [impl_StreamOk.l0])
     | succ k2 =>
      have H := HA.out
      clear HA
      simp only [impl_StreamOk.l0] at H
      by_cases c17 : x26_2 < (l0_2.length : Int)
      ·rw [if_pos c17] at H
       have c17b0 : decide (x26_2 < (l0_2.length : Int)) = true := decide_eq_true c17
       clear c17
       by_cases c18 : 0 ≤ x26_2
       ·rw [if_pos c18] at H
        have c18b0 : decide (0 ≤ x26_2) = true := decide_eq_true c18
        clear c18
        by_cases c19 : x26_2 < (l0_2.length : Int)
        ·rw [if_pos c19] at H
         have c19b0 : decide (x26_2 < (l0_2.length : Int)) = true := decide_eq_true c19
         clear c19
         have HC20 := Aside0.mk H
         clear H
         have p268 := od (0 ≤ (x26_2 : Int))
         have q268 := od (x26_2 < (l0_2.length : Int))
         obtain ⟨ad268, A268_2, c268_2, e268, hx268_0, hx268_1, hx268_2, hl268_2, hi268_2⟩ := at_T66 HR0_2.out x26_2 p268 q268
         cases e268
         replace hx268_0 := (HB.out.cell (World.block_lt_of_cell? w _ hx268_0)).trans hx268_0
         replace hx268_1 := (HB.out.cell (World.block_lt_of_cell? w _ hx268_1)).trans hx268_1
         replace hx268_2 := (HB.out.cell (World.block_lt_of_cell? w _ hx268_2)).trans hx268_2
         have HR268_2 := Aside0.mk hi268_2
         have HC268_2 := Aside0.mk hl268_2
         clear hi268_2 hl268_2
         replace p268 := eq_true p268
         replace q268 := eq_true q268
         go_upto_region 6 with (first | ((with_reducible refine gate_dst (N := 4) rfl ?_); (try (refine gate_guard (by rfl) ?_; dsimp only)); refine box_event ?hg (N := 4) ?hd (cs := #[.int .i64 0, .int .i64 0, .slice none 0 0]) (t := 66) ?hr ?_; (case hd => rfl); (case hg => rfl); (case hr => first | (go_simp; done) | (go_simp; rfl)); intro gb269 hg w21 hbox hb; have n0_ := Aside0.mk (blk_below (g := gb266) (o := .cells #[.int .i64 a0_0, .int .i64 a0_1, .slice (some ad268) l0_2.length c0_2, .slice A0_3 l0_3.length c0_3] 34 (0, 0)) (by (with_reducible repeat (first | refine blk_drewN ?_ _ | refine blk_drew ?_ | refine blk_alloc ?_ _)); exact BK266.out) hb); have n1_ := Aside0.mk (below_step (by repeat (first | (with_reducible first | exact HB.out | apply below_alloc | apply pw_below_drewN | apply below_drew1 | refine below_set ?_ GE266.out) | exact HB.out)) hb); have n2_ := Aside0.mk (hbox); have n3_ := Aside0.mk ((by rw [hg]; exact (below_size (by repeat (first | (with_reducible first | exact HB.out | apply below_alloc | apply pw_below_drewN | apply below_drew1 | refine below_set ?_ GE266.out) | exact HB.out))) : w.heap.size ≤ gb269)); have n4_ := Aside0.mk ((by rw [hg]; exact (below_size (by repeat (first | (with_reducible first | exact HB.out | apply below_alloc | apply pw_below_drewN | apply below_drew1 | refine below_set ?_ GE266.out) | exact HB.out))) : w.heap.size ≤ gb269)); have n5_ := Aside0.mk ((by rw [hg]; exact Nat.ne_of_lt (blk_lt (g := gb266) (o := .cells #[.int .i64 a0_0, .int .i64 a0_1, .slice (some ad268) l0_2.length c0_2, .slice A0_3 l0_3.length c0_3] 34 (0, 0)) (by (with_reducible repeat (first | refine blk_drewN ?_ _ | refine blk_drew ?_ | refine blk_alloc ?_ _)); exact BK266.out)) : gb266 ≠ gb269)); have n6_ := Aside0.mk ((by rw [hg]; exact Nat.ne_of_gt (blk_lt (g := gb266) (o := .cells #[.int .i64 a0_0, .int .i64 a0_1, .slice (some ad268) l0_2.length c0_2, .slice A0_3 l0_3.length c0_3] 34 (0, 0)) (by (with_reducible repeat (first | refine blk_drewN ?_ _ | refine blk_drew ?_ | refine blk_alloc ?_ _)); exact BK266.out)) : gb269 ≠ gb266)); clear BK266; clear HB; have BK266 := n0_; have HB := n1_; have BK269 := n2_; have GW269 := n3_; have GE269 := n4_; have NB266_269 := n5_; have NB269_266 := n6_; clear n0_ n1_ n2_ n3_ n4_ n5_ n6_; clear hb hbox hg; have hnb22 := NB269_266.out; have hnc22 := NB266_269.out; have hcz23_0 : w21.cell? ⟨gb269, 0, none⟩ = some (.int .i64 0) := (blk_cell BK269.out 0).trans rfl; have hcz23_1 : w21.cell? ⟨gb269, 1, none⟩ = some (.int .i64 0) := (blk_cell BK269.out 1).trans rfl; have hcz23_2 : w21.cell? ⟨gb269, 2, none⟩ = some (.slice none 0 0) := (blk_cell BK269.out 2).trans rfl; have hfz23_0 := blk_frozen BK269.out 0; have hfz23_1 := blk_frozen BK269.out 1; have hfz23_2 := blk_frozen BK269.out 2))
         (try simp only [Act.put, List.setIfInBounds_toArray, List.set_cons_zero, List.set_cons_succ])
         go_cut [64] (fun v64 wc => ∃ (kq : Nat) (x64_19 : Bool), v64 = .bool x64_19 ∧ Aside0 (impl_StreamOk.j2 kq l0_2 (l0_2.length : Int) x26_2 x64_19 a0_0 a0_1 l0_2 l0_3 = some r) ∧ Aside0 (kq ≤ k2) ∧ Aside0 (wc.heap[gb266]? = some (.cells #[.int .i64 a0_0, .int .i64 a0_1, (.slice (some ad268) l0_2.length c0_2), (.slice A0_3 l0_3.length c0_3)] 34 (0, 0))) ∧ Aside0 (wc.heap[gb269]? = some (.cells #[.int .i64 ((rd_T66 l0_2 x26_2).f0.f0), .int .i64 ((rd_T66 l0_2 x26_2).f0.f1), (.slice A268_2 ((rd_T66 l0_2 x26_2).f1).length c268_2)] 66 (0, 0))) ∧ Aside0 (Below w.heap.size w wc))
         case first =>
          have H := HC20.out
          clear HC20
          replace H := Option.bind_eq_some_iff.mp H
          obtain ⟨t270, A240, H⟩ := H
          replace H : (if t270 = true then (if x26_2 > 0 then (if 0 ≤ (wrap64 (x26_2 - 1)) then (if (wrap64 (x26_2 - 1)) < (l0_2.length : Int) then ((impl_idOrder.f k2 ((rd_T66 l0_2 (wrap64 (x26_2 - 1))).f0.f0) ((rd_T66 l0_2 (wrap64 (x26_2 - 1))).f0.f1) ((rd_T66 l0_2 x26_2).f0.f0) ((rd_T66 l0_2 x26_2).f0.f1)).bind fun t272 => (if t272 ≥ 0 then (impl_StreamOk.j2 k2 l0_2 (l0_2.length : Int) x26_2 true a0_0 a0_1 l0_2 l0_3) else ((impl_IdLess.f k2 a0_0 a0_1 ((rd_T66 l0_2 x26_2).f0.f0) ((rd_T66 l0_2 x26_2).f0.f1)).bind fun t273 => (if t273 = true then (impl_StreamOk.j2 k2 l0_2 (l0_2.length : Int) x26_2 true a0_0 a0_1 l0_2 l0_3) else ((impl_fieldsFull.f k2 ((rd_T66 l0_2 x26_2).f1)).bind fun t274 => (impl_StreamOk.j2 k2 l0_2 (l0_2.length : Int) x26_2 (!t274) a0_0 a0_1 l0_2 l0_3)))))) else (none)) else (none)) else ((impl_IdLess.f k2 a0_0 a0_1 ((rd_T66 l0_2 x26_2).f0.f0) ((rd_T66 l0_2 x26_2).f0.f1)).bind fun t275 => (if t275 = true then (impl_StreamOk.j2 k2 l0_2 (l0_2.length : Int) x26_2 true a0_0 a0_1 l0_2 l0_3) else ((impl_fieldsFull.f k2 ((rd_T66 l0_2 x26_2).f1)).bind fun t276 => (impl_StreamOk.j2 k2 l0_2 (l0_2.length : Int) x26_2 (!t276) a0_0 a0_1 l0_2 l0_3))))) else (impl_StreamOk.j2 k2 l0_2 (l0_2.length : Int) x26_2 true a0_0 a0_1 l0_2 l0_3)) = some r := H
          have A24 := Aside0.mk A240
          clear A240
          by_cases c25 : t270 = true
          ·subst c25
           have H1 : (if x26_2 > 0 then (if 0 ≤ (wrap64 (x26_2 - 1)) then (if (wrap64 (x26_2 - 1)) < (l0_2.length : Int) then ((impl_idOrder.f k2 ((rd_T66 l0_2 (wrap64 (x26_2 - 1))).f0.f0) ((rd_T66 l0_2 (wrap64 (x26_2 - 1))).f0.f1) ((rd_T66 l0_2 x26_2).f0.f0) ((rd_T66 l0_2 x26_2).f0.f1)).bind fun t272 => (if t272 ≥ 0 then (impl_StreamOk.j2 k2 l0_2 (l0_2.length : Int) x26_2 true a0_0 a0_1 l0_2 l0_3) else ((impl_IdLess.f k2 a0_0 a0_1 ((rd_T66 l0_2 x26_2).f0.f0) ((rd_T66 l0_2 x26_2).f0.f1)).bind fun t273 => (if t273 = true then (impl_StreamOk.j2 k2 l0_2 (l0_2.length : Int) x26_2 true a0_0 a0_1 l0_2 l0_3) else ((impl_fieldsFull.f k2 ((rd_T66 l0_2 x26_2).f1)).bind fun t274 => (impl_StreamOk.j2 k2 l0_2 (l0_2.length : Int) x26_2 (!t274) a0_0 a0_1 l0_2 l0_3)))))) else (none)) else (none)) else ((impl_IdLess.f k2 a0_0 a0_1 ((rd_T66 l0_2 x26_2).f0.f0) ((rd_T66 l0_2 x26_2).f0.f1)).bind fun t275 => (if t275 = true then (impl_StreamOk.j2 k2 l0_2 (l0_2.length : Int) x26_2 true a0_0 a0_1 l0_2 l0_3) else ((impl_fieldsFull.f k2 ((rd_T66 l0_2 x26_2).f1)).bind fun t276 => (impl_StreamOk.j2 k2 l0_2 (l0_2.length : Int) x26_2 (!t276) a0_0 a0_1 l0_2 l0_3))))) = some r := by rw [if_pos rfl] at H; exact H
           clear H
           have H := H1
           clear H1
           by_cases c26 : x26_2 > 0
           ·rw [if_pos c26] at H
            have c26b0 : decide (0 < x26_2) = true := decide_eq_true c26
            clear c26
            (first | rw [c26b0] | rw [c26b1] | (simp only [i64_w, i32_w]; rw [c26b0]) | rw [c26b2] | skip)
            obtain ⟨ji27, hji27⟩ : ∃ j_ : Int, (wrap64 (x26_2 - 1)) = j_ := ⟨_, rfl⟩
            replace H : (if 0 ≤ (ji27) then (if (ji27) < (l0_2.length : Int) then ((impl_idOrder.f k2 ((rd_T66 l0_2 (ji27)).f0.f0) ((rd_T66 l0_2 (ji27)).f0.f1) ((rd_T66 l0_2 x26_2).f0.f0) ((rd_T66 l0_2 x26_2).f0.f1)).bind fun t272 => (if t272 ≥ 0 then (impl_StreamOk.j2 k2 l0_2 (l0_2.length : Int) x26_2 true a0_0 a0_1 l0_2 l0_3) else ((impl_IdLess.f k2 a0_0 a0_1 ((rd_T66 l0_2 x26_2).f0.f0) ((rd_T66 l0_2 x26_2).f0.f1)).bind fun t273 => (if t273 = true then (impl_StreamOk.j2 k2 l0_2 (l0_2.length : Int) x26_2 true a0_0 a0_1 l0_2 l0_3) else ((impl_fieldsFull.f k2 ((rd_T66 l0_2 x26_2).f1)).bind fun t274 => (impl_StreamOk.j2 k2 l0_2 (l0_2.length : Int) x26_2 (!t274) a0_0 a0_1 l0_2 l0_3)))))) else (none)) else (none)) = some r := by first | (rw [hji27] at H; exact H) | (simp only [hji27] at H ⊢; exact H)
            (try rw [hji27] at A24)
            have hji27w : (IntKind.i64.wrap (x26_2 - 1)) = ji27 := (i64_w _).trans hji27
            by_cases c28 : 0 ≤ (ji27)
            ·rw [if_pos c28] at H
             have c28b0 : decide (0 ≤ (ji27)) = true := decide_eq_true c28
             clear c28
             by_cases c29 : (ji27) < (l0_2.length : Int)
             ·rw [if_pos c29] at H
              have c29b0 : decide ((ji27) < (l0_2.length : Int)) = true := decide_eq_true c29
              clear c29
              replace H := Option.bind_eq_some_iff.mp H
              obtain ⟨t272, A300, H⟩ := H
              replace H : (if t272 ≥ 0 then (impl_StreamOk.j2 k2 l0_2 (l0_2.length : Int) x26_2 true a0_0 a0_1 l0_2 l0_3) else ((impl_IdLess.f k2 a0_0 a0_1 ((rd_T66 l0_2 x26_2).f0.f0) ((rd_T66 l0_2 x26_2).f0.f1)).bind fun t273 => (if t273 = true then (impl_StreamOk.j2 k2 l0_2 (l0_2.length : Int) x26_2 true a0_0 a0_1 l0_2 l0_3) else ((impl_fieldsFull.f k2 ((rd_T66 l0_2 x26_2).f1)).bind fun t274 => (impl_StreamOk.j2 k2 l0_2 (l0_2.length : Int) x26_2 (!t274) a0_0 a0_1 l0_2 l0_3))))) = some r := H
              have A30 := Aside0.mk A300
              clear A300
              by_cases c31 : t272 ≥ 0
              ·rw [if_pos c31] at H
               have c31b0 : decide (0 ≤ t272) = true := decide_eq_true c31
               clear c31
               have H' := Aside0.mk H
               clear H
               try go_wp2
               have n0_ : Aside0 ((((w21.setCell ⟨gb269, 0, none⟩ (.int .i64 ((rd_T66 l0_2 x26_2).f0.f0))).setCell ⟨gb269, 1, none⟩ (.int .i64 ((rd_T66 l0_2 x26_2).f0.f1))).setCell ⟨gb269, 2, none⟩ (.slice A268_2 ((rd_T66 l0_2 x26_2).f1).length c268_2)).heap[gb266]? = some (.cells #[.int .i64 a0_0, .int .i64 a0_1, .slice (some ad268) l0_2.length c0_2, .slice A0_3 l0_3.length c0_3] 34 (0, 0))) := ⟨by (with_reducible repeat (first | refine blk_drewN ?_ _ | refine blk_drew ?_ | refine blk_alloc ?_ _)); refine blk_far ?_ NB266_269.out _; (with_reducible repeat (first | refine blk_drewN ?_ _ | refine blk_drew ?_ | refine blk_alloc ?_ _)); refine blk_far ?_ NB266_269.out _; (with_reducible repeat (first | refine blk_drewN ?_ _ | refine blk_drew ?_ | refine blk_alloc ?_ _)); refine blk_far ?_ NB266_269.out _; (with_reducible repeat (first | refine blk_drewN ?_ _ | refine blk_drew ?_ | refine blk_alloc ?_ _)); exact BK266.out⟩
               have n1_ : Aside0 ((((w21.setCell ⟨gb269, 0, none⟩ (.int .i64 ((rd_T66 l0_2 x26_2).f0.f0))).setCell ⟨gb269, 1, none⟩ (.int .i64 ((rd_T66 l0_2 x26_2).f0.f1))).setCell ⟨gb269, 2, none⟩ (.slice A268_2 ((rd_T66 l0_2 x26_2).f1).length c268_2)).heap[gb269]? = some (.cells #[.int .i64 ((rd_T66 l0_2 x26_2).f0.f0), .int .i64 ((rd_T66 l0_2 x26_2).f0.f1), .slice A268_2 ((rd_T66 l0_2 x26_2).f1).length c268_2] 66 (0, 0))) := ⟨by (with_reducible repeat (first | refine blk_drewN ?_ _ | refine blk_drew ?_ | refine blk_alloc ?_ _)); refine blk_put (cs := #[.int .i64 ((rd_T66 l0_2 x26_2).f0.f0), .int .i64 ((rd_T66 l0_2 x26_2).f0.f1), .slice none 0 0]) ?_ 2 _ rfl; (with_reducible repeat (first | refine blk_drewN ?_ _ | refine blk_drew ?_ | refine blk_alloc ?_ _)); refine blk_put (cs := #[.int .i64 ((rd_T66 l0_2 x26_2).f0.f0), .int .i64 0, .slice none 0 0]) ?_ 1 _ rfl; (with_reducible repeat (first | refine blk_drewN ?_ _ | refine blk_drew ?_ | refine blk_alloc ?_ _)); refine blk_put (cs := #[.int .i64 0, .int .i64 0, .slice none 0 0]) ?_ 0 _ rfl; (with_reducible repeat (first | refine blk_drewN ?_ _ | refine blk_drew ?_ | refine blk_alloc ?_ _)); exact BK269.out⟩
               have n2_ : Aside0 (Below w.heap.size w (((w21.setCell ⟨gb269, 0, none⟩ (.int .i64 ((rd_T66 l0_2 x26_2).f0.f0))).setCell ⟨gb269, 1, none⟩ (.int .i64 ((rd_T66 l0_2 x26_2).f0.f1))).setCell ⟨gb269, 2, none⟩ (.slice A268_2 ((rd_T66 l0_2 x26_2).f1).length c268_2))) := ⟨by repeat (first | (with_reducible first | exact HB.out | apply below_alloc | apply pw_below_drewN | apply below_drew1 | refine below_set ?_ GE266.out | refine below_set ?_ GE269.out) | exact HB.out)⟩
               (try clear BK266)
               (try clear BK269)
               (try clear HB)
               generalize (((w21.setCell ⟨gb269, 0, none⟩ (.int .i64 ((rd_T66 l0_2 x26_2).f0.f0))).setCell ⟨gb269, 1, none⟩ (.int .i64 ((rd_T66 l0_2 x26_2).f0.f1))).setCell ⟨gb269, 2, none⟩ (.slice A268_2 ((rd_T66 l0_2 x26_2).f1).length c268_2)) = w32 at n0_ n1_ n2_ ⊢
               have BK266 := n0_
               have BK269 := n1_
               have HB := n2_
               clear n0_ n1_ n2_
               replace BK266 := Aside0.mk (blk_drew BK266.out)
               replace BK269 := Aside0.mk (blk_drew BK269.out)
               replace HB := Aside0.mk (below_drew1 HB.out)
               have p271 := od (0 ≤ ((ji27) : Int))
               have q271 := od ((ji27) < (l0_2.length : Int))
               obtain ⟨ad271, A271_2, c271_2, e271, hx271_0, hx271_1, hx271_2, hl271_2, hi271_2⟩ := at_T66 HR0_2.out (ji27) p271 q271
               have hw271_2 := hx271_2
               have hw271_1 := hx271_1
               have hw271_0 := hx271_0
               obtain rfl : ad268 = ad271 := (by injection e271)
               replace hx271_0 := (HB.out.cell (World.block_lt_of_cell? w _ hx271_0)).trans hx271_0
               replace hx271_1 := (HB.out.cell (World.block_lt_of_cell? w _ hx271_1)).trans hx271_1
               replace hx271_2 := (HB.out.cell (World.block_lt_of_cell? w _ hx271_2)).trans hx271_2
               have HR271_2 := Aside0.mk hi271_2
               have HC271_2 := Aside0.mk hl271_2
               clear hi271_2 hl271_2
               replace p271 := eq_true p271
               replace q271 := eq_true q271
               refine start_ (n := 34) (S := fun w' => w'.cell? ⟨gb269, 0, none⟩ = some (.int .i64 ((rd_T66 l0_2 x26_2).f0.f0)) ∧ w'.cell? ⟨gb269, 1, none⟩ = some (.int .i64 ((rd_T66 l0_2 x26_2).f0.f1)) ∧ w'.cell? ⟨gb269, 2, none⟩ = some (.slice A268_2 ((rd_T66 l0_2 x26_2).f1).length c268_2) ∧ w'.cell? ⟨gb266, 0, none⟩ = some (.int .i64 a0_0) ∧ w'.cell? ⟨gb266, 1, none⟩ = some (.int .i64 a0_1) ∧ w'.cell? ⟨gb266, 2, none⟩ = some (.slice (some ad268) l0_2.length c0_2) ∧ w'.cell? ⟨gb266, 3, none⟩ = some (.slice A0_3 l0_3.length c0_3) ∧ w'.cell? (ad268.add (((ji27)).toNat * 3)) = some (.int .i64 ((rd_T66 l0_2 (ji27)).f0.f0)) ∧ w'.cell? ⟨(ad268.add (((ji27)).toNat * 3)).block, (ad268.add (((ji27)).toNat * 3)).off + 1, none⟩ = some (.int .i64 ((rd_T66 l0_2 (ji27)).f0.f1)) ∧ w'.cell? ⟨(ad268.add (((ji27)).toNat * 3)).block, (ad268.add (((ji27)).toNat * 3)).off + 2, none⟩ = some (.slice A271_2 ((rd_T66 l0_2 (ji27)).f1).length c271_2)) (ds := []) _ (by kernel_rfl) rfl rfl ⟨(blk_cell BK269.out 0).trans rfl, (blk_cell BK269.out 1).trans rfl, (blk_cell BK269.out 2).trans rfl, (blk_cell BK266.out 0).trans rfl, (blk_cell BK266.out 1).trans rfl, (blk_cell BK266.out 2).trans rfl, (blk_cell BK266.out 3).trans rfl, ((HB.out.cell (World.block_lt_of_cell? w _ hw271_0)).trans hw271_0), ((HB.out.cell (World.block_lt_of_cell? w _ hw271_1)).trans hw271_1), ((HB.out.cell (World.block_lt_of_cell? w _ hw271_2)).trans hw271_2)⟩ (fun hHeld => ?_); refine with_tabW impl_StreamOk.tab6 impl_StreamOk.bits6 (fun HT_ HW_ => ?_)
               generalize w32.drew = w33 at BK266 BK269 HB HR271_2 hx271_0 hx271_1 hx271_2 hHeld ⊢
               refine pu 0 31 ?_; refine tk 1 32 ?_
               refine on 2 (some 33) (fun K hK => ?_)
               refine ca Try.func74 (impl_idOk.calls ((rd_T66 l0_2 x26_2).f0.f0) ((rd_T66 l0_2 x26_2).f0.f1) true _ A24.out) ?_
               rintro e w34 ⟨rfl, hb⟩
               refine ⟨_, rfl, ?_⟩
               replace BK266 := Aside0.mk (blk_below (g := gb266) (o := .cells #[.int .i64 a0_0, .int .i64 a0_1, .slice (some ad268) l0_2.length c0_2, .slice A0_3 l0_3.length c0_3] 34 (0, 0)) (by (with_reducible repeat (first | refine blk_drewN ?_ _ | refine blk_drew ?_ | refine blk_alloc ?_ _)); exact BK266.out) hb)
               replace BK269 := Aside0.mk (blk_below (g := gb269) (o := .cells #[.int .i64 ((rd_T66 l0_2 x26_2).f0.f0), .int .i64 ((rd_T66 l0_2 x26_2).f0.f1), .slice A268_2 ((rd_T66 l0_2 x26_2).f1).length c268_2] 66 (0, 0)) (by (with_reducible repeat (first | refine blk_drewN ?_ _ | refine blk_drew ?_ | refine blk_alloc ?_ _)); exact BK269.out) hb)
               replace HB := Aside0.mk (below_step (by repeat (first | (with_reducible first | exact HB.out | apply below_alloc | apply pw_below_drewN | apply below_drew1 | refine below_set ?_ GE266.out | refine below_set ?_ GE269.out) | exact HB.out)) hb)
               (try clear hb)
               (try clear hb2)
               (try clear hk)
               (try clear hi)
               refine hK.out _ _ ⟨(blk_cell BK269.out 0).trans rfl, (blk_cell BK269.out 1).trans rfl, (blk_cell BK269.out 2).trans rfl, (blk_cell BK266.out 0).trans rfl, (blk_cell BK266.out 1).trans rfl, (blk_cell BK266.out 2).trans rfl, (blk_cell BK266.out 3).trans rfl, ((HB.out.cell (World.block_lt_of_cell? w _ hw271_0)).trans hw271_0), ((HB.out.cell (World.block_lt_of_cell? w _ hw271_1)).trans hw271_1), ((HB.out.cell (World.block_lt_of_cell? w _ hw271_2)).trans hw271_2)⟩ (fun hHeld => ?_)
               clear hK K
               refine nm ?_; refine pu 3 34 ?_; refine pu 4 35 ?_; refine pu 5 36 ?_; refine pu 6 37 ?_; refine pu 7 38 ?_; refine pu 8 39 ?_; refine pu 10 41 ?_; refine pu 11 42 ?_; refine pu 15 46 ?_; refine tk 9 40 ?_; refine pu 12 43 ?_; refine pu 13 44 ?_; refine tk 14 45 ?_; refine tk 16 47 ?_
               refine on 17 (some 48) (fun K hK => ?_)
               refine goes_ Try.func75 (by kernel_rfl) rfl #[.agg #[.int .i64 ((rd_T66 l0_2 (ji27)).f0.f0), .int .i64 ((rd_T66 l0_2 (ji27)).f0.f1)], .agg #[.int .i64 ((rd_T66 l0_2 x26_2).f0.f0), .int .i64 ((rd_T66 l0_2 x26_2).f0.f1)]] (by rfl) rfl rfl (by (try simp only [List.map_toArray, List.map_cons, List.map_nil]); first | done | (simp only [hji27]; rfl) | rfl | (simp only [List.length_drop, List.length_take]; rfl)) ?_
               with_reducible refine (impl_idOrder.calls k2 ((rd_T66 l0_2 (ji27)).f0.f0) ((rd_T66 l0_2 (ji27)).f0.f1) ((rd_T66 l0_2 x26_2).f0.f0) ((rd_T66 l0_2 x26_2).f0.f1) t272 _ A30.out).mono ?_
               rintro e w35 ⟨rfl, hb⟩
               refine ⟨_, rfl, ?_⟩
               replace BK266 := Aside0.mk (blk_below (g := gb266) (o := .cells #[.int .i64 a0_0, .int .i64 a0_1, .slice (some ad268) l0_2.length c0_2, .slice A0_3 l0_3.length c0_3] 34 (0, 0)) (by (with_reducible repeat (first | refine blk_drewN ?_ _ | refine blk_drew ?_ | refine blk_alloc ?_ _)); exact BK266.out) hb)
               replace BK269 := Aside0.mk (blk_below (g := gb269) (o := .cells #[.int .i64 ((rd_T66 l0_2 x26_2).f0.f0), .int .i64 ((rd_T66 l0_2 x26_2).f0.f1), .slice A268_2 ((rd_T66 l0_2 x26_2).f1).length c268_2] 66 (0, 0)) (by (with_reducible repeat (first | refine blk_drewN ?_ _ | refine blk_drew ?_ | refine blk_alloc ?_ _)); exact BK269.out) hb)
               replace HB := Aside0.mk (below_step (by repeat (first | (with_reducible first | exact HB.out | apply below_alloc | apply pw_below_drewN | apply below_drew1 | refine below_set ?_ GE266.out | refine below_set ?_ GE269.out) | exact HB.out)) hb)
               (try clear hb)
               (try clear hb2)
               (try clear hk)
               (try clear hi)
               refine hK.out _ _ ⟨(blk_cell BK269.out 0).trans rfl, (blk_cell BK269.out 1).trans rfl, (blk_cell BK269.out 2).trans rfl, (blk_cell BK266.out 0).trans rfl, (blk_cell BK266.out 1).trans rfl, (blk_cell BK266.out 2).trans rfl, (blk_cell BK266.out 3).trans rfl, ((HB.out.cell (World.block_lt_of_cell? w _ hw271_0)).trans hw271_0), ((HB.out.cell (World.block_lt_of_cell? w _ hw271_1)).trans hw271_1), ((HB.out.cell (World.block_lt_of_cell? w _ hw271_2)).trans hw271_2)⟩ (fun hHeld => ?_)
               clear hK K
               refine nm ?_; refine pu 18 49 ?_; refine pu 19 50 ?_; refine pu 20 51 ?_; refine pu 21 52 ?_; refine of 22 53 ?_; refine of 23 54 ?_; refine of 24 55 ?_; refine of 25 56 ?_; refine of 26 57 ?_; refine pu 27 58 ?_; refine pu 28 59 ?_; refine of 29 60 ?_; refine of 30 61 ?_; refine of 31 62 ?_; refine of 32 63 ?_; refine pu 33 64 ?_
               refine dn ?_
               try go_wp2
               go_meet
               case rel => exact ⟨_, (true), (by first | rfl | (simp; done) | (simp [*]; done)), H', ⟨by have := HJ1.out; have := HK2.out; first | omega | exact Nat.le_refl _⟩, ⟨by (with_reducible repeat (first | refine blk_drewN ?_ _ | refine blk_drew ?_ | refine blk_alloc ?_ _)); exact BK266.out⟩, ⟨by (with_reducible repeat (first | refine blk_drewN ?_ _ | refine blk_drew ?_ | refine blk_alloc ?_ _)); exact BK269.out⟩, ⟨by repeat (first | (with_reducible first | exact HB.out | apply below_alloc | apply pw_below_drewN | apply below_drew1 | refine below_set ?_ GE266.out | refine below_set ?_ GE269.out) | exact HB.out)⟩⟩
              ·rw [if_neg c31] at H
               have c31b0 : decide (0 ≤ t272) = false := decide_eq_false c31
               clear c31
               replace H := Option.bind_eq_some_iff.mp H
               obtain ⟨t273, A360, H⟩ := H
               replace H : (if t273 = true then (impl_StreamOk.j2 k2 l0_2 (l0_2.length : Int) x26_2 true a0_0 a0_1 l0_2 l0_3) else ((impl_fieldsFull.f k2 ((rd_T66 l0_2 x26_2).f1)).bind fun t274 => (impl_StreamOk.j2 k2 l0_2 (l0_2.length : Int) x26_2 (!t274) a0_0 a0_1 l0_2 l0_3))) = some r := H
               have A36 := Aside0.mk A360
               clear A360
               by_cases c37 : t273 = true
               ·subst c37
                have H1 : (impl_StreamOk.j2 k2 l0_2 (l0_2.length : Int) x26_2 true a0_0 a0_1 l0_2 l0_3) = some r := by rw [if_pos rfl] at H; exact H
                clear H
                have H := H1
                clear H1
                have H' := Aside0.mk H
                clear H
                try go_wp2
                have n0_ : Aside0 ((((w21.setCell ⟨gb269, 0, none⟩ (.int .i64 ((rd_T66 l0_2 x26_2).f0.f0))).setCell ⟨gb269, 1, none⟩ (.int .i64 ((rd_T66 l0_2 x26_2).f0.f1))).setCell ⟨gb269, 2, none⟩ (.slice A268_2 ((rd_T66 l0_2 x26_2).f1).length c268_2)).heap[gb266]? = some (.cells #[.int .i64 a0_0, .int .i64 a0_1, .slice (some ad268) l0_2.length c0_2, .slice A0_3 l0_3.length c0_3] 34 (0, 0))) := ⟨by (with_reducible repeat (first | refine blk_drewN ?_ _ | refine blk_drew ?_ | refine blk_alloc ?_ _)); refine blk_far ?_ NB266_269.out _; (with_reducible repeat (first | refine blk_drewN ?_ _ | refine blk_drew ?_ | refine blk_alloc ?_ _)); refine blk_far ?_ NB266_269.out _; (with_reducible repeat (first | refine blk_drewN ?_ _ | refine blk_drew ?_ | refine blk_alloc ?_ _)); refine blk_far ?_ NB266_269.out _; (with_reducible repeat (first | refine blk_drewN ?_ _ | refine blk_drew ?_ | refine blk_alloc ?_ _)); exact BK266.out⟩
                have n1_ : Aside0 ((((w21.setCell ⟨gb269, 0, none⟩ (.int .i64 ((rd_T66 l0_2 x26_2).f0.f0))).setCell ⟨gb269, 1, none⟩ (.int .i64 ((rd_T66 l0_2 x26_2).f0.f1))).setCell ⟨gb269, 2, none⟩ (.slice A268_2 ((rd_T66 l0_2 x26_2).f1).length c268_2)).heap[gb269]? = some (.cells #[.int .i64 ((rd_T66 l0_2 x26_2).f0.f0), .int .i64 ((rd_T66 l0_2 x26_2).f0.f1), .slice A268_2 ((rd_T66 l0_2 x26_2).f1).length c268_2] 66 (0, 0))) := ⟨by (with_reducible repeat (first | refine blk_drewN ?_ _ | refine blk_drew ?_ | refine blk_alloc ?_ _)); refine blk_put (cs := #[.int .i64 ((rd_T66 l0_2 x26_2).f0.f0), .int .i64 ((rd_T66 l0_2 x26_2).f0.f1), .slice none 0 0]) ?_ 2 _ rfl; (with_reducible repeat (first | refine blk_drewN ?_ _ | refine blk_drew ?_ | refine blk_alloc ?_ _)); refine blk_put (cs := #[.int .i64 ((rd_T66 l0_2 x26_2).f0.f0), .int .i64 0, .slice none 0 0]) ?_ 1 _ rfl; (with_reducible repeat (first | refine blk_drewN ?_ _ | refine blk_drew ?_ | refine blk_alloc ?_ _)); refine blk_put (cs := #[.int .i64 0, .int .i64 0, .slice none 0 0]) ?_ 0 _ rfl; (with_reducible repeat (first | refine blk_drewN ?_ _ | refine blk_drew ?_ | refine blk_alloc ?_ _)); exact BK269.out⟩
                have n2_ : Aside0 (Below w.heap.size w (((w21.setCell ⟨gb269, 0, none⟩ (.int .i64 ((rd_T66 l0_2 x26_2).f0.f0))).setCell ⟨gb269, 1, none⟩ (.int .i64 ((rd_T66 l0_2 x26_2).f0.f1))).setCell ⟨gb269, 2, none⟩ (.slice A268_2 ((rd_T66 l0_2 x26_2).f1).length c268_2))) := ⟨by repeat (first | (with_reducible first | exact HB.out | apply below_alloc | apply pw_below_drewN | apply below_drew1 | refine below_set ?_ GE266.out | refine below_set ?_ GE269.out) | exact HB.out)⟩
                (try clear BK266)
                (try clear BK269)
                (try clear HB)
                generalize (((w21.setCell ⟨gb269, 0, none⟩ (.int .i64 ((rd_T66 l0_2 x26_2).f0.f0))).setCell ⟨gb269, 1, none⟩ (.int .i64 ((rd_T66 l0_2 x26_2).f0.f1))).setCell ⟨gb269, 2, none⟩ (.slice A268_2 ((rd_T66 l0_2 x26_2).f1).length c268_2)) = w38 at n0_ n1_ n2_ ⊢
                have BK266 := n0_
                have BK269 := n1_
                have HB := n2_
                clear n0_ n1_ n2_
                replace BK266 := Aside0.mk (blk_drew BK266.out)
                replace BK269 := Aside0.mk (blk_drew BK269.out)
                replace HB := Aside0.mk (below_drew1 HB.out)
                have p271 := od (0 ≤ ((ji27) : Int))
                have q271 := od ((ji27) < (l0_2.length : Int))
                obtain ⟨ad271, A271_2, c271_2, e271, hx271_0, hx271_1, hx271_2, hl271_2, hi271_2⟩ := at_T66 HR0_2.out (ji27) p271 q271
                have hw271_2 := hx271_2
                have hw271_1 := hx271_1
                have hw271_0 := hx271_0
                obtain rfl : ad268 = ad271 := (by injection e271)
                replace hx271_0 := (HB.out.cell (World.block_lt_of_cell? w _ hx271_0)).trans hx271_0
                replace hx271_1 := (HB.out.cell (World.block_lt_of_cell? w _ hx271_1)).trans hx271_1
                replace hx271_2 := (HB.out.cell (World.block_lt_of_cell? w _ hx271_2)).trans hx271_2
                have HR271_2 := Aside0.mk hi271_2
                have HC271_2 := Aside0.mk hl271_2
                clear hi271_2 hl271_2
                replace p271 := eq_true p271
                replace q271 := eq_true q271
                refine start_ (n := 34) (S := fun w' => w'.cell? ⟨gb269, 0, none⟩ = some (.int .i64 ((rd_T66 l0_2 x26_2).f0.f0)) ∧ w'.cell? ⟨gb269, 1, none⟩ = some (.int .i64 ((rd_T66 l0_2 x26_2).f0.f1)) ∧ w'.cell? ⟨gb269, 2, none⟩ = some (.slice A268_2 ((rd_T66 l0_2 x26_2).f1).length c268_2) ∧ w'.cell? ⟨gb266, 0, none⟩ = some (.int .i64 a0_0) ∧ w'.cell? ⟨gb266, 1, none⟩ = some (.int .i64 a0_1) ∧ w'.cell? ⟨gb266, 2, none⟩ = some (.slice (some ad268) l0_2.length c0_2) ∧ w'.cell? ⟨gb266, 3, none⟩ = some (.slice A0_3 l0_3.length c0_3) ∧ w'.cell? (ad268.add (((ji27)).toNat * 3)) = some (.int .i64 ((rd_T66 l0_2 (ji27)).f0.f0)) ∧ w'.cell? ⟨(ad268.add (((ji27)).toNat * 3)).block, (ad268.add (((ji27)).toNat * 3)).off + 1, none⟩ = some (.int .i64 ((rd_T66 l0_2 (ji27)).f0.f1)) ∧ w'.cell? ⟨(ad268.add (((ji27)).toNat * 3)).block, (ad268.add (((ji27)).toNat * 3)).off + 2, none⟩ = some (.slice A271_2 ((rd_T66 l0_2 (ji27)).f1).length c271_2)) (ds := []) _ (by kernel_rfl) rfl rfl ⟨(blk_cell BK269.out 0).trans rfl, (blk_cell BK269.out 1).trans rfl, (blk_cell BK269.out 2).trans rfl, (blk_cell BK266.out 0).trans rfl, (blk_cell BK266.out 1).trans rfl, (blk_cell BK266.out 2).trans rfl, (blk_cell BK266.out 3).trans rfl, ((HB.out.cell (World.block_lt_of_cell? w _ hw271_0)).trans hw271_0), ((HB.out.cell (World.block_lt_of_cell? w _ hw271_1)).trans hw271_1), ((HB.out.cell (World.block_lt_of_cell? w _ hw271_2)).trans hw271_2)⟩ (fun hHeld => ?_); refine with_tabW impl_StreamOk.tab6 impl_StreamOk.bits6 (fun HT_ HW_ => ?_)
                generalize w38.drew = w39 at BK266 BK269 HB HR271_2 hx271_0 hx271_1 hx271_2 hHeld ⊢
                refine pu 0 31 ?_; refine tk 1 32 ?_
                refine on 2 (some 33) (fun K hK => ?_)
                refine ca Try.func74 (impl_idOk.calls ((rd_T66 l0_2 x26_2).f0.f0) ((rd_T66 l0_2 x26_2).f0.f1) true _ A24.out) ?_
                rintro e w40 ⟨rfl, hb⟩
                refine ⟨_, rfl, ?_⟩
                replace BK266 := Aside0.mk (blk_below (g := gb266) (o := .cells #[.int .i64 a0_0, .int .i64 a0_1, .slice (some ad268) l0_2.length c0_2, .slice A0_3 l0_3.length c0_3] 34 (0, 0)) (by (with_reducible repeat (first | refine blk_drewN ?_ _ | refine blk_drew ?_ | refine blk_alloc ?_ _)); exact BK266.out) hb)
                replace BK269 := Aside0.mk (blk_below (g := gb269) (o := .cells #[.int .i64 ((rd_T66 l0_2 x26_2).f0.f0), .int .i64 ((rd_T66 l0_2 x26_2).f0.f1), .slice A268_2 ((rd_T66 l0_2 x26_2).f1).length c268_2] 66 (0, 0)) (by (with_reducible repeat (first | refine blk_drewN ?_ _ | refine blk_drew ?_ | refine blk_alloc ?_ _)); exact BK269.out) hb)
                replace HB := Aside0.mk (below_step (by repeat (first | (with_reducible first | exact HB.out | apply below_alloc | apply pw_below_drewN | apply below_drew1 | refine below_set ?_ GE266.out | refine below_set ?_ GE269.out) | exact HB.out)) hb)
                (try clear hb)
                (try clear hb2)
                (try clear hk)
                (try clear hi)
                refine hK.out _ _ ⟨(blk_cell BK269.out 0).trans rfl, (blk_cell BK269.out 1).trans rfl, (blk_cell BK269.out 2).trans rfl, (blk_cell BK266.out 0).trans rfl, (blk_cell BK266.out 1).trans rfl, (blk_cell BK266.out 2).trans rfl, (blk_cell BK266.out 3).trans rfl, ((HB.out.cell (World.block_lt_of_cell? w _ hw271_0)).trans hw271_0), ((HB.out.cell (World.block_lt_of_cell? w _ hw271_1)).trans hw271_1), ((HB.out.cell (World.block_lt_of_cell? w _ hw271_2)).trans hw271_2)⟩ (fun hHeld => ?_)
                clear hK K
                refine nm ?_; refine pu 3 34 ?_; refine pu 4 35 ?_; refine pu 5 36 ?_; refine pu 6 37 ?_; refine pu 7 38 ?_; refine pu 8 39 ?_; refine pu 10 41 ?_; refine pu 11 42 ?_; refine pu 15 46 ?_; refine tk 9 40 ?_; refine pu 12 43 ?_; refine pu 13 44 ?_; refine tk 14 45 ?_; refine tk 16 47 ?_
                refine on 17 (some 48) (fun K hK => ?_)
                refine goes_ Try.func75 (by kernel_rfl) rfl #[.agg #[.int .i64 ((rd_T66 l0_2 (ji27)).f0.f0), .int .i64 ((rd_T66 l0_2 (ji27)).f0.f1)], .agg #[.int .i64 ((rd_T66 l0_2 x26_2).f0.f0), .int .i64 ((rd_T66 l0_2 x26_2).f0.f1)]] (by rfl) rfl rfl (by (try simp only [List.map_toArray, List.map_cons, List.map_nil]); first | done | (simp only [hji27]; rfl) | rfl | (simp only [List.length_drop, List.length_take]; rfl)) ?_
                with_reducible refine (impl_idOrder.calls k2 ((rd_T66 l0_2 (ji27)).f0.f0) ((rd_T66 l0_2 (ji27)).f0.f1) ((rd_T66 l0_2 x26_2).f0.f0) ((rd_T66 l0_2 x26_2).f0.f1) t272 _ A30.out).mono ?_
                rintro e w41 ⟨rfl, hb⟩
                refine ⟨_, rfl, ?_⟩
                replace BK266 := Aside0.mk (blk_below (g := gb266) (o := .cells #[.int .i64 a0_0, .int .i64 a0_1, .slice (some ad268) l0_2.length c0_2, .slice A0_3 l0_3.length c0_3] 34 (0, 0)) (by (with_reducible repeat (first | refine blk_drewN ?_ _ | refine blk_drew ?_ | refine blk_alloc ?_ _)); exact BK266.out) hb)
                replace BK269 := Aside0.mk (blk_below (g := gb269) (o := .cells #[.int .i64 ((rd_T66 l0_2 x26_2).f0.f0), .int .i64 ((rd_T66 l0_2 x26_2).f0.f1), .slice A268_2 ((rd_T66 l0_2 x26_2).f1).length c268_2] 66 (0, 0)) (by (with_reducible repeat (first | refine blk_drewN ?_ _ | refine blk_drew ?_ | refine blk_alloc ?_ _)); exact BK269.out) hb)
                replace HB := Aside0.mk (below_step (by repeat (first | (with_reducible first | exact HB.out | apply below_alloc | apply pw_below_drewN | apply below_drew1 | refine below_set ?_ GE266.out | refine below_set ?_ GE269.out) | exact HB.out)) hb)
                (try clear hb)
                (try clear hb2)
                (try clear hk)
                (try clear hi)
                refine hK.out _ _ ⟨(blk_cell BK269.out 0).trans rfl, (blk_cell BK269.out 1).trans rfl, (blk_cell BK269.out 2).trans rfl, (blk_cell BK266.out 0).trans rfl, (blk_cell BK266.out 1).trans rfl, (blk_cell BK266.out 2).trans rfl, (blk_cell BK266.out 3).trans rfl, ((HB.out.cell (World.block_lt_of_cell? w _ hw271_0)).trans hw271_0), ((HB.out.cell (World.block_lt_of_cell? w _ hw271_1)).trans hw271_1), ((HB.out.cell (World.block_lt_of_cell? w _ hw271_2)).trans hw271_2)⟩ (fun hHeld => ?_)
                clear hK K
                refine nm ?_; refine pu 18 49 ?_; refine pu 19 50 ?_; refine pu 20 51 ?_; refine pu 21 52 ?_; refine pu 22 53 ?_; refine pu 24 55 ?_; refine tk 23 54 ?_; refine tk 25 56 ?_
                refine on 26 (some 57) (fun K hK => ?_)
                refine ca Try.func33 (impl_IdLess.calls k2 a0_0 a0_1 ((rd_T66 l0_2 x26_2).f0.f0) ((rd_T66 l0_2 x26_2).f0.f1) true _ A36.out) ?_
                rintro e w42 ⟨rfl, hb⟩
                refine ⟨_, rfl, ?_⟩
                replace BK266 := Aside0.mk (blk_below (g := gb266) (o := .cells #[.int .i64 a0_0, .int .i64 a0_1, .slice (some ad268) l0_2.length c0_2, .slice A0_3 l0_3.length c0_3] 34 (0, 0)) (by (with_reducible repeat (first | refine blk_drewN ?_ _ | refine blk_drew ?_ | refine blk_alloc ?_ _)); exact BK266.out) hb)
                replace BK269 := Aside0.mk (blk_below (g := gb269) (o := .cells #[.int .i64 ((rd_T66 l0_2 x26_2).f0.f0), .int .i64 ((rd_T66 l0_2 x26_2).f0.f1), .slice A268_2 ((rd_T66 l0_2 x26_2).f1).length c268_2] 66 (0, 0)) (by (with_reducible repeat (first | refine blk_drewN ?_ _ | refine blk_drew ?_ | refine blk_alloc ?_ _)); exact BK269.out) hb)
                replace HB := Aside0.mk (below_step (by repeat (first | (with_reducible first | exact HB.out | apply below_alloc | apply pw_below_drewN | apply below_drew1 | refine below_set ?_ GE266.out | refine below_set ?_ GE269.out) | exact HB.out)) hb)
                (try clear hb)
                (try clear hb2)
                (try clear hk)
                (try clear hi)
                refine hK.out _ _ ⟨(blk_cell BK269.out 0).trans rfl, (blk_cell BK269.out 1).trans rfl, (blk_cell BK269.out 2).trans rfl, (blk_cell BK266.out 0).trans rfl, (blk_cell BK266.out 1).trans rfl, (blk_cell BK266.out 2).trans rfl, (blk_cell BK266.out 3).trans rfl, ((HB.out.cell (World.block_lt_of_cell? w _ hw271_0)).trans hw271_0), ((HB.out.cell (World.block_lt_of_cell? w _ hw271_1)).trans hw271_1), ((HB.out.cell (World.block_lt_of_cell? w _ hw271_2)).trans hw271_2)⟩ (fun hHeld => ?_)
                clear hK K
                refine nm ?_; refine pu 27 58 ?_; refine pu 28 59 ?_; refine of 29 60 ?_; refine of 30 61 ?_; refine of 31 62 ?_; refine of 32 63 ?_; refine pu 33 64 ?_
                refine dn ?_
                try go_wp2
                go_meet
                case rel => exact ⟨_, (true), (by first | rfl | (simp; done) | (simp [*]; done)), H', ⟨by have := HJ1.out; have := HK2.out; first | omega | exact Nat.le_refl _⟩, ⟨by (with_reducible repeat (first | refine blk_drewN ?_ _ | refine blk_drew ?_ | refine blk_alloc ?_ _)); exact BK266.out⟩, ⟨by (with_reducible repeat (first | refine blk_drewN ?_ _ | refine blk_drew ?_ | refine blk_alloc ?_ _)); exact BK269.out⟩, ⟨by repeat (first | (with_reducible first | exact HB.out | apply below_alloc | apply pw_below_drewN | apply below_drew1 | refine below_set ?_ GE266.out | refine below_set ?_ GE269.out) | exact HB.out)⟩⟩
               ·replace c37 := Bool.eq_false_iff.mpr c37
                subst c37
                have H1 : ((impl_fieldsFull.f k2 ((rd_T66 l0_2 x26_2).f1)).bind fun t274 => (impl_StreamOk.j2 k2 l0_2 (l0_2.length : Int) x26_2 (!t274) a0_0 a0_1 l0_2 l0_3)) = some r := by rw [if_neg (show ¬ (false = true) by decide)] at H; exact H
                clear H
                have H := H1
                clear H1
                replace H := Option.bind_eq_some_iff.mp H
                obtain ⟨t274, A430, H⟩ := H
                replace H : (impl_StreamOk.j2 k2 l0_2 (l0_2.length : Int) x26_2 (!t274) a0_0 a0_1 l0_2 l0_3) = some r := H
                have A43 := Aside0.mk A430
                clear A430
                have H' := Aside0.mk H
                clear H
                try go_wp2
                have n0_ : Aside0 ((((w21.setCell ⟨gb269, 0, none⟩ (.int .i64 ((rd_T66 l0_2 x26_2).f0.f0))).setCell ⟨gb269, 1, none⟩ (.int .i64 ((rd_T66 l0_2 x26_2).f0.f1))).setCell ⟨gb269, 2, none⟩ (.slice A268_2 ((rd_T66 l0_2 x26_2).f1).length c268_2)).heap[gb266]? = some (.cells #[.int .i64 a0_0, .int .i64 a0_1, .slice (some ad268) l0_2.length c0_2, .slice A0_3 l0_3.length c0_3] 34 (0, 0))) := ⟨by (with_reducible repeat (first | refine blk_drewN ?_ _ | refine blk_drew ?_ | refine blk_alloc ?_ _)); refine blk_far ?_ NB266_269.out _; (with_reducible repeat (first | refine blk_drewN ?_ _ | refine blk_drew ?_ | refine blk_alloc ?_ _)); refine blk_far ?_ NB266_269.out _; (with_reducible repeat (first | refine blk_drewN ?_ _ | refine blk_drew ?_ | refine blk_alloc ?_ _)); refine blk_far ?_ NB266_269.out _; (with_reducible repeat (first | refine blk_drewN ?_ _ | refine blk_drew ?_ | refine blk_alloc ?_ _)); exact BK266.out⟩
                have n1_ : Aside0 ((((w21.setCell ⟨gb269, 0, none⟩ (.int .i64 ((rd_T66 l0_2 x26_2).f0.f0))).setCell ⟨gb269, 1, none⟩ (.int .i64 ((rd_T66 l0_2 x26_2).f0.f1))).setCell ⟨gb269, 2, none⟩ (.slice A268_2 ((rd_T66 l0_2 x26_2).f1).length c268_2)).heap[gb269]? = some (.cells #[.int .i64 ((rd_T66 l0_2 x26_2).f0.f0), .int .i64 ((rd_T66 l0_2 x26_2).f0.f1), .slice A268_2 ((rd_T66 l0_2 x26_2).f1).length c268_2] 66 (0, 0))) := ⟨by (with_reducible repeat (first | refine blk_drewN ?_ _ | refine blk_drew ?_ | refine blk_alloc ?_ _)); refine blk_put (cs := #[.int .i64 ((rd_T66 l0_2 x26_2).f0.f0), .int .i64 ((rd_T66 l0_2 x26_2).f0.f1), .slice none 0 0]) ?_ 2 _ rfl; (with_reducible repeat (first | refine blk_drewN ?_ _ | refine blk_drew ?_ | refine blk_alloc ?_ _)); refine blk_put (cs := #[.int .i64 ((rd_T66 l0_2 x26_2).f0.f0), .int .i64 0, .slice none 0 0]) ?_ 1 _ rfl; (with_reducible repeat (first | refine blk_drewN ?_ _ | refine blk_drew ?_ | refine blk_alloc ?_ _)); refine blk_put (cs := #[.int .i64 0, .int .i64 0, .slice none 0 0]) ?_ 0 _ rfl; (with_reducible repeat (first | refine blk_drewN ?_ _ | refine blk_drew ?_ | refine blk_alloc ?_ _)); exact BK269.out⟩
                have n2_ : Aside0 (Below w.heap.size w (((w21.setCell ⟨gb269, 0, none⟩ (.int .i64 ((rd_T66 l0_2 x26_2).f0.f0))).setCell ⟨gb269, 1, none⟩ (.int .i64 ((rd_T66 l0_2 x26_2).f0.f1))).setCell ⟨gb269, 2, none⟩ (.slice A268_2 ((rd_T66 l0_2 x26_2).f1).length c268_2))) := ⟨by repeat (first | (with_reducible first | exact HB.out | apply below_alloc | apply pw_below_drewN | apply below_drew1 | refine below_set ?_ GE266.out | refine below_set ?_ GE269.out) | exact HB.out)⟩
                (try clear BK266)
                (try clear BK269)
                (try clear HB)
                generalize (((w21.setCell ⟨gb269, 0, none⟩ (.int .i64 ((rd_T66 l0_2 x26_2).f0.f0))).setCell ⟨gb269, 1, none⟩ (.int .i64 ((rd_T66 l0_2 x26_2).f0.f1))).setCell ⟨gb269, 2, none⟩ (.slice A268_2 ((rd_T66 l0_2 x26_2).f1).length c268_2)) = w44 at n0_ n1_ n2_ ⊢
                have BK266 := n0_
                have BK269 := n1_
                have HB := n2_
                clear n0_ n1_ n2_
                replace BK266 := Aside0.mk (blk_drew BK266.out)
                replace BK269 := Aside0.mk (blk_drew BK269.out)
                replace HB := Aside0.mk (below_drew1 HB.out)
                have p271 := od (0 ≤ ((ji27) : Int))
                have q271 := od ((ji27) < (l0_2.length : Int))
                obtain ⟨ad271, A271_2, c271_2, e271, hx271_0, hx271_1, hx271_2, hl271_2, hi271_2⟩ := at_T66 HR0_2.out (ji27) p271 q271
                have hw271_2 := hx271_2
                have hw271_1 := hx271_1
                have hw271_0 := hx271_0
                obtain rfl : ad268 = ad271 := (by injection e271)
                replace hx271_0 := (HB.out.cell (World.block_lt_of_cell? w _ hx271_0)).trans hx271_0
                replace hx271_1 := (HB.out.cell (World.block_lt_of_cell? w _ hx271_1)).trans hx271_1
                replace hx271_2 := (HB.out.cell (World.block_lt_of_cell? w _ hx271_2)).trans hx271_2
                have HR271_2 := Aside0.mk hi271_2
                have HC271_2 := Aside0.mk hl271_2
                clear hi271_2 hl271_2
                replace p271 := eq_true p271
                replace q271 := eq_true q271
                refine start_ (n := 34) (S := fun w' => w'.cell? ⟨gb269, 0, none⟩ = some (.int .i64 ((rd_T66 l0_2 x26_2).f0.f0)) ∧ w'.cell? ⟨gb269, 1, none⟩ = some (.int .i64 ((rd_T66 l0_2 x26_2).f0.f1)) ∧ w'.cell? ⟨gb269, 2, none⟩ = some (.slice A268_2 ((rd_T66 l0_2 x26_2).f1).length c268_2) ∧ w'.cell? ⟨gb266, 0, none⟩ = some (.int .i64 a0_0) ∧ w'.cell? ⟨gb266, 1, none⟩ = some (.int .i64 a0_1) ∧ w'.cell? ⟨gb266, 2, none⟩ = some (.slice (some ad268) l0_2.length c0_2) ∧ w'.cell? ⟨gb266, 3, none⟩ = some (.slice A0_3 l0_3.length c0_3) ∧ w'.cell? (ad268.add (((ji27)).toNat * 3)) = some (.int .i64 ((rd_T66 l0_2 (ji27)).f0.f0)) ∧ w'.cell? ⟨(ad268.add (((ji27)).toNat * 3)).block, (ad268.add (((ji27)).toNat * 3)).off + 1, none⟩ = some (.int .i64 ((rd_T66 l0_2 (ji27)).f0.f1)) ∧ w'.cell? ⟨(ad268.add (((ji27)).toNat * 3)).block, (ad268.add (((ji27)).toNat * 3)).off + 2, none⟩ = some (.slice A271_2 ((rd_T66 l0_2 (ji27)).f1).length c271_2)) (ds := []) _ (by kernel_rfl) rfl rfl ⟨(blk_cell BK269.out 0).trans rfl, (blk_cell BK269.out 1).trans rfl, (blk_cell BK269.out 2).trans rfl, (blk_cell BK266.out 0).trans rfl, (blk_cell BK266.out 1).trans rfl, (blk_cell BK266.out 2).trans rfl, (blk_cell BK266.out 3).trans rfl, ((HB.out.cell (World.block_lt_of_cell? w _ hw271_0)).trans hw271_0), ((HB.out.cell (World.block_lt_of_cell? w _ hw271_1)).trans hw271_1), ((HB.out.cell (World.block_lt_of_cell? w _ hw271_2)).trans hw271_2)⟩ (fun hHeld => ?_); refine with_tabW impl_StreamOk.tab6 impl_StreamOk.bits6 (fun HT_ HW_ => ?_)
                generalize w44.drew = w45 at BK266 BK269 HB HR271_2 hx271_0 hx271_1 hx271_2 hHeld ⊢
                refine pu 0 31 ?_; refine tk 1 32 ?_
                refine on 2 (some 33) (fun K hK => ?_)
                refine ca Try.func74 (impl_idOk.calls ((rd_T66 l0_2 x26_2).f0.f0) ((rd_T66 l0_2 x26_2).f0.f1) true _ A24.out) ?_
                rintro e w46 ⟨rfl, hb⟩
                refine ⟨_, rfl, ?_⟩
                replace BK266 := Aside0.mk (blk_below (g := gb266) (o := .cells #[.int .i64 a0_0, .int .i64 a0_1, .slice (some ad268) l0_2.length c0_2, .slice A0_3 l0_3.length c0_3] 34 (0, 0)) (by (with_reducible repeat (first | refine blk_drewN ?_ _ | refine blk_drew ?_ | refine blk_alloc ?_ _)); exact BK266.out) hb)
                replace BK269 := Aside0.mk (blk_below (g := gb269) (o := .cells #[.int .i64 ((rd_T66 l0_2 x26_2).f0.f0), .int .i64 ((rd_T66 l0_2 x26_2).f0.f1), .slice A268_2 ((rd_T66 l0_2 x26_2).f1).length c268_2] 66 (0, 0)) (by (with_reducible repeat (first | refine blk_drewN ?_ _ | refine blk_drew ?_ | refine blk_alloc ?_ _)); exact BK269.out) hb)
                replace HB := Aside0.mk (below_step (by repeat (first | (with_reducible first | exact HB.out | apply below_alloc | apply pw_below_drewN | apply below_drew1 | refine below_set ?_ GE266.out | refine below_set ?_ GE269.out) | exact HB.out)) hb)
                (try clear hb)
                (try clear hb2)
                (try clear hk)
                (try clear hi)
                refine hK.out _ _ ⟨(blk_cell BK269.out 0).trans rfl, (blk_cell BK269.out 1).trans rfl, (blk_cell BK269.out 2).trans rfl, (blk_cell BK266.out 0).trans rfl, (blk_cell BK266.out 1).trans rfl, (blk_cell BK266.out 2).trans rfl, (blk_cell BK266.out 3).trans rfl, ((HB.out.cell (World.block_lt_of_cell? w _ hw271_0)).trans hw271_0), ((HB.out.cell (World.block_lt_of_cell? w _ hw271_1)).trans hw271_1), ((HB.out.cell (World.block_lt_of_cell? w _ hw271_2)).trans hw271_2)⟩ (fun hHeld => ?_)
                clear hK K
                refine nm ?_; refine pu 3 34 ?_; refine pu 4 35 ?_; refine pu 5 36 ?_; refine pu 6 37 ?_; refine pu 7 38 ?_; refine pu 8 39 ?_; refine pu 10 41 ?_; refine pu 11 42 ?_; refine pu 15 46 ?_; refine tk 9 40 ?_; refine pu 12 43 ?_; refine pu 13 44 ?_; refine tk 14 45 ?_; refine tk 16 47 ?_
                refine on 17 (some 48) (fun K hK => ?_)
                refine goes_ Try.func75 (by kernel_rfl) rfl #[.agg #[.int .i64 ((rd_T66 l0_2 (ji27)).f0.f0), .int .i64 ((rd_T66 l0_2 (ji27)).f0.f1)], .agg #[.int .i64 ((rd_T66 l0_2 x26_2).f0.f0), .int .i64 ((rd_T66 l0_2 x26_2).f0.f1)]] (by rfl) rfl rfl (by (try simp only [List.map_toArray, List.map_cons, List.map_nil]); first | done | (simp only [hji27]; rfl) | rfl | (simp only [List.length_drop, List.length_take]; rfl)) ?_
                with_reducible refine (impl_idOrder.calls k2 ((rd_T66 l0_2 (ji27)).f0.f0) ((rd_T66 l0_2 (ji27)).f0.f1) ((rd_T66 l0_2 x26_2).f0.f0) ((rd_T66 l0_2 x26_2).f0.f1) t272 _ A30.out).mono ?_
                rintro e w47 ⟨rfl, hb⟩
                refine ⟨_, rfl, ?_⟩
                replace BK266 := Aside0.mk (blk_below (g := gb266) (o := .cells #[.int .i64 a0_0, .int .i64 a0_1, .slice (some ad268) l0_2.length c0_2, .slice A0_3 l0_3.length c0_3] 34 (0, 0)) (by (with_reducible repeat (first | refine blk_drewN ?_ _ | refine blk_drew ?_ | refine blk_alloc ?_ _)); exact BK266.out) hb)
                replace BK269 := Aside0.mk (blk_below (g := gb269) (o := .cells #[.int .i64 ((rd_T66 l0_2 x26_2).f0.f0), .int .i64 ((rd_T66 l0_2 x26_2).f0.f1), .slice A268_2 ((rd_T66 l0_2 x26_2).f1).length c268_2] 66 (0, 0)) (by (with_reducible repeat (first | refine blk_drewN ?_ _ | refine blk_drew ?_ | refine blk_alloc ?_ _)); exact BK269.out) hb)
                replace HB := Aside0.mk (below_step (by repeat (first | (with_reducible first | exact HB.out | apply below_alloc | apply pw_below_drewN | apply below_drew1 | refine below_set ?_ GE266.out | refine below_set ?_ GE269.out) | exact HB.out)) hb)
                (try clear hb)
                (try clear hb2)
                (try clear hk)
                (try clear hi)
                refine hK.out _ _ ⟨(blk_cell BK269.out 0).trans rfl, (blk_cell BK269.out 1).trans rfl, (blk_cell BK269.out 2).trans rfl, (blk_cell BK266.out 0).trans rfl, (blk_cell BK266.out 1).trans rfl, (blk_cell BK266.out 2).trans rfl, (blk_cell BK266.out 3).trans rfl, ((HB.out.cell (World.block_lt_of_cell? w _ hw271_0)).trans hw271_0), ((HB.out.cell (World.block_lt_of_cell? w _ hw271_1)).trans hw271_1), ((HB.out.cell (World.block_lt_of_cell? w _ hw271_2)).trans hw271_2)⟩ (fun hHeld => ?_)
                clear hK K
                refine nm ?_; refine pu 18 49 ?_; refine pu 19 50 ?_; refine pu 20 51 ?_; refine pu 21 52 ?_; refine pu 22 53 ?_; refine pu 24 55 ?_; refine tk 23 54 ?_; refine tk 25 56 ?_
                refine on 26 (some 57) (fun K hK => ?_)
                refine ca Try.func33 (impl_IdLess.calls k2 a0_0 a0_1 ((rd_T66 l0_2 x26_2).f0.f0) ((rd_T66 l0_2 x26_2).f0.f1) false _ A36.out) ?_
                rintro e w48 ⟨rfl, hb⟩
                refine ⟨_, rfl, ?_⟩
                replace BK266 := Aside0.mk (blk_below (g := gb266) (o := .cells #[.int .i64 a0_0, .int .i64 a0_1, .slice (some ad268) l0_2.length c0_2, .slice A0_3 l0_3.length c0_3] 34 (0, 0)) (by (with_reducible repeat (first | refine blk_drewN ?_ _ | refine blk_drew ?_ | refine blk_alloc ?_ _)); exact BK266.out) hb)
                replace BK269 := Aside0.mk (blk_below (g := gb269) (o := .cells #[.int .i64 ((rd_T66 l0_2 x26_2).f0.f0), .int .i64 ((rd_T66 l0_2 x26_2).f0.f1), .slice A268_2 ((rd_T66 l0_2 x26_2).f1).length c268_2] 66 (0, 0)) (by (with_reducible repeat (first | refine blk_drewN ?_ _ | refine blk_drew ?_ | refine blk_alloc ?_ _)); exact BK269.out) hb)
                replace HB := Aside0.mk (below_step (by repeat (first | (with_reducible first | exact HB.out | apply below_alloc | apply pw_below_drewN | apply below_drew1 | refine below_set ?_ GE266.out | refine below_set ?_ GE269.out) | exact HB.out)) hb)
                (try clear hb)
                (try clear hb2)
                (try clear hk)
                (try clear hi)
                refine hK.out _ _ ⟨(blk_cell BK269.out 0).trans rfl, (blk_cell BK269.out 1).trans rfl, (blk_cell BK269.out 2).trans rfl, (blk_cell BK266.out 0).trans rfl, (blk_cell BK266.out 1).trans rfl, (blk_cell BK266.out 2).trans rfl, (blk_cell BK266.out 3).trans rfl, ((HB.out.cell (World.block_lt_of_cell? w _ hw271_0)).trans hw271_0), ((HB.out.cell (World.block_lt_of_cell? w _ hw271_1)).trans hw271_1), ((HB.out.cell (World.block_lt_of_cell? w _ hw271_2)).trans hw271_2)⟩ (fun hHeld => ?_)
                clear hK K
                refine nm ?_; refine pu 27 58 ?_; refine pu 28 59 ?_; refine pu 29 60 ?_; refine tk 30 61 ?_
                refine on 31 (some 62) (fun K hK => ?_)
                refine ca Try.func76 (impl_fieldsFull.calls k2 _ _ ((rd_T66 l0_2 x26_2).f1) t274 _ ?side1 ?side2 A43.out) ?_
                (case side1 => repeat (first | exact (Kd.C_below HR268_2.out HB.out) | (with_reducible refine Kd.C_alloc ?_ _) | (with_reducible refine Kd.C_drewN ?_ _) | (with_reducible refine Kd.C_drew ?_)))
                (case side2 => exact HC268_2.out)
                rintro e w49 ⟨rfl, hb⟩
                refine ⟨_, rfl, ?_⟩
                replace BK266 := Aside0.mk (blk_below (g := gb266) (o := .cells #[.int .i64 a0_0, .int .i64 a0_1, .slice (some ad268) l0_2.length c0_2, .slice A0_3 l0_3.length c0_3] 34 (0, 0)) (by (with_reducible repeat (first | refine blk_drewN ?_ _ | refine blk_drew ?_ | refine blk_alloc ?_ _)); exact BK266.out) hb)
                replace BK269 := Aside0.mk (blk_below (g := gb269) (o := .cells #[.int .i64 ((rd_T66 l0_2 x26_2).f0.f0), .int .i64 ((rd_T66 l0_2 x26_2).f0.f1), .slice A268_2 ((rd_T66 l0_2 x26_2).f1).length c268_2] 66 (0, 0)) (by (with_reducible repeat (first | refine blk_drewN ?_ _ | refine blk_drew ?_ | refine blk_alloc ?_ _)); exact BK269.out) hb)
                replace HB := Aside0.mk (below_step (by repeat (first | (with_reducible first | exact HB.out | apply below_alloc | apply pw_below_drewN | apply below_drew1 | refine below_set ?_ GE266.out | refine below_set ?_ GE269.out) | exact HB.out)) hb)
                (try clear hb)
                (try clear hb2)
                (try clear hk)
                (try clear hi)
                refine hK.out _ _ ⟨(blk_cell BK269.out 0).trans rfl, (blk_cell BK269.out 1).trans rfl, (blk_cell BK269.out 2).trans rfl, (blk_cell BK266.out 0).trans rfl, (blk_cell BK266.out 1).trans rfl, (blk_cell BK266.out 2).trans rfl, (blk_cell BK266.out 3).trans rfl, ((HB.out.cell (World.block_lt_of_cell? w _ hw271_0)).trans hw271_0), ((HB.out.cell (World.block_lt_of_cell? w _ hw271_1)).trans hw271_1), ((HB.out.cell (World.block_lt_of_cell? w _ hw271_2)).trans hw271_2)⟩ (fun hHeld => ?_)
                clear hK K
                refine nm ?_; refine pu 32 63 ?_; refine pu 33 64 ?_
                refine dn ?_
                try go_wp2
                go_meet
                case rel => exact ⟨_, (!t274), (by first | rfl | (simp; done) | (simp [*]; done)), H', ⟨by have := HJ1.out; have := HK2.out; first | omega | exact Nat.le_refl _⟩, ⟨by (with_reducible repeat (first | refine blk_drewN ?_ _ | refine blk_drew ?_ | refine blk_alloc ?_ _)); exact BK266.out⟩, ⟨by (with_reducible repeat (first | refine blk_drewN ?_ _ | refine blk_drew ?_ | refine blk_alloc ?_ _)); exact BK269.out⟩, ⟨by repeat (first | (with_reducible first | exact HB.out | apply below_alloc | apply pw_below_drewN | apply below_drew1 | refine below_set ?_ GE266.out | refine below_set ?_ GE269.out) | exact HB.out)⟩⟩
             ·rw [if_neg c29] at H
              exact absurd H (by simp)
            ·rw [if_neg c28] at H
             exact absurd H (by simp)
           ·rw [if_neg c26] at H
            have c26b0 : decide (0 < x26_2) = false := decide_eq_false c26
            clear c26
            (first | rw [c26b0] | rw [c26b1] | (simp only [i64_w, i32_w]; rw [c26b0]) | rw [c26b2] | skip)
            replace H := Option.bind_eq_some_iff.mp H
            obtain ⟨t275, A500, H⟩ := H
            replace H : (if t275 = true then (impl_StreamOk.j2 k2 l0_2 (l0_2.length : Int) x26_2 true a0_0 a0_1 l0_2 l0_3) else ((impl_fieldsFull.f k2 ((rd_T66 l0_2 x26_2).f1)).bind fun t276 => (impl_StreamOk.j2 k2 l0_2 (l0_2.length : Int) x26_2 (!t276) a0_0 a0_1 l0_2 l0_3))) = some r := H
            have A50 := Aside0.mk A500
            clear A500
            by_cases c51 : t275 = true
            ·subst c51
             have H1 : (impl_StreamOk.j2 k2 l0_2 (l0_2.length : Int) x26_2 true a0_0 a0_1 l0_2 l0_3) = some r := by rw [if_pos rfl] at H; exact H
             clear H
             have H := H1
             clear H1
             have H' := Aside0.mk H
             clear H
             try go_wp2
             have n0_ : Aside0 ((((w21.setCell ⟨gb269, 0, none⟩ (.int .i64 ((rd_T66 l0_2 x26_2).f0.f0))).setCell ⟨gb269, 1, none⟩ (.int .i64 ((rd_T66 l0_2 x26_2).f0.f1))).setCell ⟨gb269, 2, none⟩ (.slice A268_2 ((rd_T66 l0_2 x26_2).f1).length c268_2)).heap[gb266]? = some (.cells #[.int .i64 a0_0, .int .i64 a0_1, .slice (some ad268) l0_2.length c0_2, .slice A0_3 l0_3.length c0_3] 34 (0, 0))) := ⟨by (with_reducible repeat (first | refine blk_drewN ?_ _ | refine blk_drew ?_ | refine blk_alloc ?_ _)); refine blk_far ?_ NB266_269.out _; (with_reducible repeat (first | refine blk_drewN ?_ _ | refine blk_drew ?_ | refine blk_alloc ?_ _)); refine blk_far ?_ NB266_269.out _; (with_reducible repeat (first | refine blk_drewN ?_ _ | refine blk_drew ?_ | refine blk_alloc ?_ _)); refine blk_far ?_ NB266_269.out _; (with_reducible repeat (first | refine blk_drewN ?_ _ | refine blk_drew ?_ | refine blk_alloc ?_ _)); exact BK266.out⟩
             have n1_ : Aside0 ((((w21.setCell ⟨gb269, 0, none⟩ (.int .i64 ((rd_T66 l0_2 x26_2).f0.f0))).setCell ⟨gb269, 1, none⟩ (.int .i64 ((rd_T66 l0_2 x26_2).f0.f1))).setCell ⟨gb269, 2, none⟩ (.slice A268_2 ((rd_T66 l0_2 x26_2).f1).length c268_2)).heap[gb269]? = some (.cells #[.int .i64 ((rd_T66 l0_2 x26_2).f0.f0), .int .i64 ((rd_T66 l0_2 x26_2).f0.f1), .slice A268_2 ((rd_T66 l0_2 x26_2).f1).length c268_2] 66 (0, 0))) := ⟨by (with_reducible repeat (first | refine blk_drewN ?_ _ | refine blk_drew ?_ | refine blk_alloc ?_ _)); refine blk_put (cs := #[.int .i64 ((rd_T66 l0_2 x26_2).f0.f0), .int .i64 ((rd_T66 l0_2 x26_2).f0.f1), .slice none 0 0]) ?_ 2 _ rfl; (with_reducible repeat (first | refine blk_drewN ?_ _ | refine blk_drew ?_ | refine blk_alloc ?_ _)); refine blk_put (cs := #[.int .i64 ((rd_T66 l0_2 x26_2).f0.f0), .int .i64 0, .slice none 0 0]) ?_ 1 _ rfl; (with_reducible repeat (first | refine blk_drewN ?_ _ | refine blk_drew ?_ | refine blk_alloc ?_ _)); refine blk_put (cs := #[.int .i64 0, .int .i64 0, .slice none 0 0]) ?_ 0 _ rfl; (with_reducible repeat (first | refine blk_drewN ?_ _ | refine blk_drew ?_ | refine blk_alloc ?_ _)); exact BK269.out⟩
             have n2_ : Aside0 (Below w.heap.size w (((w21.setCell ⟨gb269, 0, none⟩ (.int .i64 ((rd_T66 l0_2 x26_2).f0.f0))).setCell ⟨gb269, 1, none⟩ (.int .i64 ((rd_T66 l0_2 x26_2).f0.f1))).setCell ⟨gb269, 2, none⟩ (.slice A268_2 ((rd_T66 l0_2 x26_2).f1).length c268_2))) := ⟨by repeat (first | (with_reducible first | exact HB.out | apply below_alloc | apply pw_below_drewN | apply below_drew1 | refine below_set ?_ GE266.out | refine below_set ?_ GE269.out) | exact HB.out)⟩
             (try clear BK266)
             (try clear BK269)
             (try clear HB)
             generalize (((w21.setCell ⟨gb269, 0, none⟩ (.int .i64 ((rd_T66 l0_2 x26_2).f0.f0))).setCell ⟨gb269, 1, none⟩ (.int .i64 ((rd_T66 l0_2 x26_2).f0.f1))).setCell ⟨gb269, 2, none⟩ (.slice A268_2 ((rd_T66 l0_2 x26_2).f1).length c268_2)) = w52 at n0_ n1_ n2_ ⊢
             have BK266 := n0_
             have BK269 := n1_
             have HB := n2_
             clear n0_ n1_ n2_
             replace BK266 := Aside0.mk (blk_drew BK266.out)
             replace BK269 := Aside0.mk (blk_drew BK269.out)
             replace HB := Aside0.mk (below_drew1 HB.out)
             refine start_ (n := 34) (S := fun w' => w'.cell? ⟨gb269, 0, none⟩ = some (.int .i64 ((rd_T66 l0_2 x26_2).f0.f0)) ∧ w'.cell? ⟨gb269, 1, none⟩ = some (.int .i64 ((rd_T66 l0_2 x26_2).f0.f1)) ∧ w'.cell? ⟨gb269, 2, none⟩ = some (.slice A268_2 ((rd_T66 l0_2 x26_2).f1).length c268_2) ∧ w'.cell? ⟨gb266, 0, none⟩ = some (.int .i64 a0_0) ∧ w'.cell? ⟨gb266, 1, none⟩ = some (.int .i64 a0_1) ∧ w'.cell? ⟨gb266, 2, none⟩ = some (.slice (some ad268) l0_2.length c0_2) ∧ w'.cell? ⟨gb266, 3, none⟩ = some (.slice A0_3 l0_3.length c0_3)) (ds := []) _ (by kernel_rfl) rfl rfl ⟨(blk_cell BK269.out 0).trans rfl, (blk_cell BK269.out 1).trans rfl, (blk_cell BK269.out 2).trans rfl, (blk_cell BK266.out 0).trans rfl, (blk_cell BK266.out 1).trans rfl, (blk_cell BK266.out 2).trans rfl, (blk_cell BK266.out 3).trans rfl⟩ (fun hHeld => ?_); refine with_tabW impl_StreamOk.tab6 impl_StreamOk.bits6 (fun HT_ HW_ => ?_)
             generalize w52.drew = w53 at BK266 BK269 HB hHeld ⊢
             refine pu 0 31 ?_; refine tk 1 32 ?_
             refine on 2 (some 33) (fun K hK => ?_)
             refine ca Try.func74 (impl_idOk.calls ((rd_T66 l0_2 x26_2).f0.f0) ((rd_T66 l0_2 x26_2).f0.f1) true _ A24.out) ?_
             rintro e w54 ⟨rfl, hb⟩
             refine ⟨_, rfl, ?_⟩
             replace BK266 := Aside0.mk (blk_below (g := gb266) (o := .cells #[.int .i64 a0_0, .int .i64 a0_1, .slice (some ad268) l0_2.length c0_2, .slice A0_3 l0_3.length c0_3] 34 (0, 0)) (by (with_reducible repeat (first | refine blk_drewN ?_ _ | refine blk_drew ?_ | refine blk_alloc ?_ _)); exact BK266.out) hb)
             replace BK269 := Aside0.mk (blk_below (g := gb269) (o := .cells #[.int .i64 ((rd_T66 l0_2 x26_2).f0.f0), .int .i64 ((rd_T66 l0_2 x26_2).f0.f1), .slice A268_2 ((rd_T66 l0_2 x26_2).f1).length c268_2] 66 (0, 0)) (by (with_reducible repeat (first | refine blk_drewN ?_ _ | refine blk_drew ?_ | refine blk_alloc ?_ _)); exact BK269.out) hb)
             replace HB := Aside0.mk (below_step (by repeat (first | (with_reducible first | exact HB.out | apply below_alloc | apply pw_below_drewN | apply below_drew1 | refine below_set ?_ GE266.out | refine below_set ?_ GE269.out) | exact HB.out)) hb)
             (try clear hb)
             (try clear hb2)
             (try clear hk)
             (try clear hi)
             refine hK.out _ _ ⟨(blk_cell BK269.out 0).trans rfl, (blk_cell BK269.out 1).trans rfl, (blk_cell BK269.out 2).trans rfl, (blk_cell BK266.out 0).trans rfl, (blk_cell BK266.out 1).trans rfl, (blk_cell BK266.out 2).trans rfl, (blk_cell BK266.out 3).trans rfl⟩ (fun hHeld => ?_)
             clear hK K
             refine nm ?_; refine pu 3 34 ?_; refine pu 4 35 ?_; refine pu 5 36 ?_; refine pu 6 37 ?_; refine pu 7 38 ?_; refine of 8 39 ?_; refine of 9 40 ?_; refine of 10 41 ?_; refine of 11 42 ?_; refine of 12 43 ?_; refine of 13 44 ?_; refine of 14 45 ?_; refine of 15 46 ?_; refine of 16 47 ?_; refine of 17 48 ?_; refine of 18 49 ?_; refine pu 19 50 ?_; refine pu 20 51 ?_; refine pu 21 52 ?_; refine pu 22 53 ?_; refine pu 24 55 ?_; refine tk 23 54 ?_; refine tk 25 56 ?_
             refine on 26 (some 57) (fun K hK => ?_)
             refine ca Try.func33 (impl_IdLess.calls k2 a0_0 a0_1 ((rd_T66 l0_2 x26_2).f0.f0) ((rd_T66 l0_2 x26_2).f0.f1) true _ A50.out) ?_
             rintro e w55 ⟨rfl, hb⟩
             refine ⟨_, rfl, ?_⟩
             replace BK266 := Aside0.mk (blk_below (g := gb266) (o := .cells #[.int .i64 a0_0, .int .i64 a0_1, .slice (some ad268) l0_2.length c0_2, .slice A0_3 l0_3.length c0_3] 34 (0, 0)) (by (with_reducible repeat (first | refine blk_drewN ?_ _ | refine blk_drew ?_ | refine blk_alloc ?_ _)); exact BK266.out) hb)
             replace BK269 := Aside0.mk (blk_below (g := gb269) (o := .cells #[.int .i64 ((rd_T66 l0_2 x26_2).f0.f0), .int .i64 ((rd_T66 l0_2 x26_2).f0.f1), .slice A268_2 ((rd_T66 l0_2 x26_2).f1).length c268_2] 66 (0, 0)) (by (with_reducible repeat (first | refine blk_drewN ?_ _ | refine blk_drew ?_ | refine blk_alloc ?_ _)); exact BK269.out) hb)
             replace HB := Aside0.mk (below_step (by repeat (first | (with_reducible first | exact HB.out | apply below_alloc | apply pw_below_drewN | apply below_drew1 | refine below_set ?_ GE266.out | refine below_set ?_ GE269.out) | exact HB.out)) hb)
             (try clear hb)
             (try clear hb2)
             (try clear hk)
             (try clear hi)
             refine hK.out _ _ ⟨(blk_cell BK269.out 0).trans rfl, (blk_cell BK269.out 1).trans rfl, (blk_cell BK269.out 2).trans rfl, (blk_cell BK266.out 0).trans rfl, (blk_cell BK266.out 1).trans rfl, (blk_cell BK266.out 2).trans rfl, (blk_cell BK266.out 3).trans rfl⟩ (fun hHeld => ?_)
             clear hK K
             refine nm ?_; refine pu 27 58 ?_; refine pu 28 59 ?_; refine of 29 60 ?_; refine of 30 61 ?_; refine of 31 62 ?_; refine of 32 63 ?_; refine pu 33 64 ?_
             refine dn ?_
             try go_wp2
             go_meet
             case rel => exact ⟨_, (true), (by first | rfl | (simp; done) | (simp [*]; done)), H', ⟨by have := HJ1.out; have := HK2.out; first | omega | exact Nat.le_refl _⟩, ⟨by (with_reducible repeat (first | refine blk_drewN ?_ _ | refine blk_drew ?_ | refine blk_alloc ?_ _)); exact BK266.out⟩, ⟨by (with_reducible repeat (first | refine blk_drewN ?_ _ | refine blk_drew ?_ | refine blk_alloc ?_ _)); exact BK269.out⟩, ⟨by repeat (first | (with_reducible first | exact HB.out | apply below_alloc | apply pw_below_drewN | apply below_drew1 | refine below_set ?_ GE266.out | refine below_set ?_ GE269.out) | exact HB.out)⟩⟩
            ·replace c51 := Bool.eq_false_iff.mpr c51
             subst c51
             have H1 : ((impl_fieldsFull.f k2 ((rd_T66 l0_2 x26_2).f1)).bind fun t276 => (impl_StreamOk.j2 k2 l0_2 (l0_2.length : Int) x26_2 (!t276) a0_0 a0_1 l0_2 l0_3)) = some r := by rw [if_neg (show ¬ (false = true) by decide)] at H; exact H
             clear H
             have H := H1
             clear H1
             replace H := Option.bind_eq_some_iff.mp H
             obtain ⟨t276, A560, H⟩ := H
             replace H : (impl_StreamOk.j2 k2 l0_2 (l0_2.length : Int) x26_2 (!t276) a0_0 a0_1 l0_2 l0_3) = some r := H
             have A56 := Aside0.mk A560
             clear A560
             have H' := Aside0.mk H
             clear H
             try go_wp2
             have n0_ : Aside0 ((((w21.setCell ⟨gb269, 0, none⟩ (.int .i64 ((rd_T66 l0_2 x26_2).f0.f0))).setCell ⟨gb269, 1, none⟩ (.int .i64 ((rd_T66 l0_2 x26_2).f0.f1))).setCell ⟨gb269, 2, none⟩ (.slice A268_2 ((rd_T66 l0_2 x26_2).f1).length c268_2)).heap[gb266]? = some (.cells #[.int .i64 a0_0, .int .i64 a0_1, .slice (some ad268) l0_2.length c0_2, .slice A0_3 l0_3.length c0_3] 34 (0, 0))) := ⟨by (with_reducible repeat (first | refine blk_drewN ?_ _ | refine blk_drew ?_ | refine blk_alloc ?_ _)); refine blk_far ?_ NB266_269.out _; (with_reducible repeat (first | refine blk_drewN ?_ _ | refine blk_drew ?_ | refine blk_alloc ?_ _)); refine blk_far ?_ NB266_269.out _; (with_reducible repeat (first | refine blk_drewN ?_ _ | refine blk_drew ?_ | refine blk_alloc ?_ _)); refine blk_far ?_ NB266_269.out _; (with_reducible repeat (first | refine blk_drewN ?_ _ | refine blk_drew ?_ | refine blk_alloc ?_ _)); exact BK266.out⟩
             have n1_ : Aside0 ((((w21.setCell ⟨gb269, 0, none⟩ (.int .i64 ((rd_T66 l0_2 x26_2).f0.f0))).setCell ⟨gb269, 1, none⟩ (.int .i64 ((rd_T66 l0_2 x26_2).f0.f1))).setCell ⟨gb269, 2, none⟩ (.slice A268_2 ((rd_T66 l0_2 x26_2).f1).length c268_2)).heap[gb269]? = some (.cells #[.int .i64 ((rd_T66 l0_2 x26_2).f0.f0), .int .i64 ((rd_T66 l0_2 x26_2).f0.f1), .slice A268_2 ((rd_T66 l0_2 x26_2).f1).length c268_2] 66 (0, 0))) := ⟨by (with_reducible repeat (first | refine blk_drewN ?_ _ | refine blk_drew ?_ | refine blk_alloc ?_ _)); refine blk_put (cs := #[.int .i64 ((rd_T66 l0_2 x26_2).f0.f0), .int .i64 ((rd_T66 l0_2 x26_2).f0.f1), .slice none 0 0]) ?_ 2 _ rfl; (with_reducible repeat (first | refine blk_drewN ?_ _ | refine blk_drew ?_ | refine blk_alloc ?_ _)); refine blk_put (cs := #[.int .i64 ((rd_T66 l0_2 x26_2).f0.f0), .int .i64 0, .slice none 0 0]) ?_ 1 _ rfl; (with_reducible repeat (first | refine blk_drewN ?_ _ | refine blk_drew ?_ | refine blk_alloc ?_ _)); refine blk_put (cs := #[.int .i64 0, .int .i64 0, .slice none 0 0]) ?_ 0 _ rfl; (with_reducible repeat (first | refine blk_drewN ?_ _ | refine blk_drew ?_ | refine blk_alloc ?_ _)); exact BK269.out⟩
             have n2_ : Aside0 (Below w.heap.size w (((w21.setCell ⟨gb269, 0, none⟩ (.int .i64 ((rd_T66 l0_2 x26_2).f0.f0))).setCell ⟨gb269, 1, none⟩ (.int .i64 ((rd_T66 l0_2 x26_2).f0.f1))).setCell ⟨gb269, 2, none⟩ (.slice A268_2 ((rd_T66 l0_2 x26_2).f1).length c268_2))) := ⟨by repeat (first | (with_reducible first | exact HB.out | apply below_alloc | apply pw_below_drewN | apply below_drew1 | refine below_set ?_ GE266.out | refine below_set ?_ GE269.out) | exact HB.out)⟩
             (try clear BK266)
             (try clear BK269)
             (try clear HB)
             generalize (((w21.setCell ⟨gb269, 0, none⟩ (.int .i64 ((rd_T66 l0_2 x26_2).f0.f0))).setCell ⟨gb269, 1, none⟩ (.int .i64 ((rd_T66 l0_2 x26_2).f0.f1))).setCell ⟨gb269, 2, none⟩ (.slice A268_2 ((rd_T66 l0_2 x26_2).f1).length c268_2)) = w57 at n0_ n1_ n2_ ⊢
             have BK266 := n0_
             have BK269 := n1_
             have HB := n2_
             clear n0_ n1_ n2_
             replace BK266 := Aside0.mk (blk_drew BK266.out)
             replace BK269 := Aside0.mk (blk_drew BK269.out)
             replace HB := Aside0.mk (below_drew1 HB.out)
             refine start_ (n := 34) (S := fun w' => w'.cell? ⟨gb269, 0, none⟩ = some (.int .i64 ((rd_T66 l0_2 x26_2).f0.f0)) ∧ w'.cell? ⟨gb269, 1, none⟩ = some (.int .i64 ((rd_T66 l0_2 x26_2).f0.f1)) ∧ w'.cell? ⟨gb269, 2, none⟩ = some (.slice A268_2 ((rd_T66 l0_2 x26_2).f1).length c268_2) ∧ w'.cell? ⟨gb266, 0, none⟩ = some (.int .i64 a0_0) ∧ w'.cell? ⟨gb266, 1, none⟩ = some (.int .i64 a0_1) ∧ w'.cell? ⟨gb266, 2, none⟩ = some (.slice (some ad268) l0_2.length c0_2) ∧ w'.cell? ⟨gb266, 3, none⟩ = some (.slice A0_3 l0_3.length c0_3)) (ds := []) _ (by kernel_rfl) rfl rfl ⟨(blk_cell BK269.out 0).trans rfl, (blk_cell BK269.out 1).trans rfl, (blk_cell BK269.out 2).trans rfl, (blk_cell BK266.out 0).trans rfl, (blk_cell BK266.out 1).trans rfl, (blk_cell BK266.out 2).trans rfl, (blk_cell BK266.out 3).trans rfl⟩ (fun hHeld => ?_); refine with_tabW impl_StreamOk.tab6 impl_StreamOk.bits6 (fun HT_ HW_ => ?_)
             generalize w57.drew = w58 at BK266 BK269 HB hHeld ⊢
             refine pu 0 31 ?_; refine tk 1 32 ?_
             refine on 2 (some 33) (fun K hK => ?_)
             refine ca Try.func74 (impl_idOk.calls ((rd_T66 l0_2 x26_2).f0.f0) ((rd_T66 l0_2 x26_2).f0.f1) true _ A24.out) ?_
             rintro e w59 ⟨rfl, hb⟩
             refine ⟨_, rfl, ?_⟩
             replace BK266 := Aside0.mk (blk_below (g := gb266) (o := .cells #[.int .i64 a0_0, .int .i64 a0_1, .slice (some ad268) l0_2.length c0_2, .slice A0_3 l0_3.length c0_3] 34 (0, 0)) (by (with_reducible repeat (first | refine blk_drewN ?_ _ | refine blk_drew ?_ | refine blk_alloc ?_ _)); exact BK266.out) hb)
             replace BK269 := Aside0.mk (blk_below (g := gb269) (o := .cells #[.int .i64 ((rd_T66 l0_2 x26_2).f0.f0), .int .i64 ((rd_T66 l0_2 x26_2).f0.f1), .slice A268_2 ((rd_T66 l0_2 x26_2).f1).length c268_2] 66 (0, 0)) (by (with_reducible repeat (first | refine blk_drewN ?_ _ | refine blk_drew ?_ | refine blk_alloc ?_ _)); exact BK269.out) hb)
             replace HB := Aside0.mk (below_step (by repeat (first | (with_reducible first | exact HB.out | apply below_alloc | apply pw_below_drewN | apply below_drew1 | refine below_set ?_ GE266.out | refine below_set ?_ GE269.out) | exact HB.out)) hb)
             (try clear hb)
             (try clear hb2)
             (try clear hk)
             (try clear hi)
             refine hK.out _ _ ⟨(blk_cell BK269.out 0).trans rfl, (blk_cell BK269.out 1).trans rfl, (blk_cell BK269.out 2).trans rfl, (blk_cell BK266.out 0).trans rfl, (blk_cell BK266.out 1).trans rfl, (blk_cell BK266.out 2).trans rfl, (blk_cell BK266.out 3).trans rfl⟩ (fun hHeld => ?_)
             clear hK K
             refine nm ?_; refine pu 3 34 ?_; refine pu 4 35 ?_; refine pu 5 36 ?_; refine pu 6 37 ?_; refine pu 7 38 ?_; refine of 8 39 ?_; refine of 9 40 ?_; refine of 10 41 ?_; refine of 11 42 ?_; refine of 12 43 ?_; refine of 13 44 ?_; refine of 14 45 ?_; refine of 15 46 ?_; refine of 16 47 ?_; refine of 17 48 ?_; refine of 18 49 ?_; refine pu 19 50 ?_; refine pu 20 51 ?_; refine pu 21 52 ?_; refine pu 22 53 ?_; refine pu 24 55 ?_; refine tk 23 54 ?_; refine tk 25 56 ?_
             refine on 26 (some 57) (fun K hK => ?_)
             refine ca Try.func33 (impl_IdLess.calls k2 a0_0 a0_1 ((rd_T66 l0_2 x26_2).f0.f0) ((rd_T66 l0_2 x26_2).f0.f1) false _ A50.out) ?_
             rintro e w60 ⟨rfl, hb⟩
             refine ⟨_, rfl, ?_⟩
             replace BK266 := Aside0.mk (blk_below (g := gb266) (o := .cells #[.int .i64 a0_0, .int .i64 a0_1, .slice (some ad268) l0_2.length c0_2, .slice A0_3 l0_3.length c0_3] 34 (0, 0)) (by (with_reducible repeat (first | refine blk_drewN ?_ _ | refine blk_drew ?_ | refine blk_alloc ?_ _)); exact BK266.out) hb)
             replace BK269 := Aside0.mk (blk_below (g := gb269) (o := .cells #[.int .i64 ((rd_T66 l0_2 x26_2).f0.f0), .int .i64 ((rd_T66 l0_2 x26_2).f0.f1), .slice A268_2 ((rd_T66 l0_2 x26_2).f1).length c268_2] 66 (0, 0)) (by (with_reducible repeat (first | refine blk_drewN ?_ _ | refine blk_drew ?_ | refine blk_alloc ?_ _)); exact BK269.out) hb)
             replace HB := Aside0.mk (below_step (by repeat (first | (with_reducible first | exact HB.out | apply below_alloc | apply pw_below_drewN | apply below_drew1 | refine below_set ?_ GE266.out | refine below_set ?_ GE269.out) | exact HB.out)) hb)
             (try clear hb)
             (try clear hb2)
             (try clear hk)
             (try clear hi)
             refine hK.out _ _ ⟨(blk_cell BK269.out 0).trans rfl, (blk_cell BK269.out 1).trans rfl, (blk_cell BK269.out 2).trans rfl, (blk_cell BK266.out 0).trans rfl, (blk_cell BK266.out 1).trans rfl, (blk_cell BK266.out 2).trans rfl, (blk_cell BK266.out 3).trans rfl⟩ (fun hHeld => ?_)
             clear hK K
             refine nm ?_; refine pu 27 58 ?_; refine pu 28 59 ?_; refine pu 29 60 ?_; refine tk 30 61 ?_
             refine on 31 (some 62) (fun K hK => ?_)
             refine ca Try.func76 (impl_fieldsFull.calls k2 _ _ ((rd_T66 l0_2 x26_2).f1) t276 _ ?side1 ?side2 A56.out) ?_
             (case side1 => repeat (first | exact (Kd.C_below HR268_2.out HB.out) | (with_reducible refine Kd.C_alloc ?_ _) | (with_reducible refine Kd.C_drewN ?_ _) | (with_reducible refine Kd.C_drew ?_)))
             (case side2 => exact HC268_2.out)
             rintro e w61 ⟨rfl, hb⟩
             refine ⟨_, rfl, ?_⟩
             replace BK266 := Aside0.mk (blk_below (g := gb266) (o := .cells #[.int .i64 a0_0, .int .i64 a0_1, .slice (some ad268) l0_2.length c0_2, .slice A0_3 l0_3.length c0_3] 34 (0, 0)) (by (with_reducible repeat (first | refine blk_drewN ?_ _ | refine blk_drew ?_ | refine blk_alloc ?_ _)); exact BK266.out) hb)
             replace BK269 := Aside0.mk (blk_below (g := gb269) (o := .cells #[.int .i64 ((rd_T66 l0_2 x26_2).f0.f0), .int .i64 ((rd_T66 l0_2 x26_2).f0.f1), .slice A268_2 ((rd_T66 l0_2 x26_2).f1).length c268_2] 66 (0, 0)) (by (with_reducible repeat (first | refine blk_drewN ?_ _ | refine blk_drew ?_ | refine blk_alloc ?_ _)); exact BK269.out) hb)
             replace HB := Aside0.mk (below_step (by repeat (first | (with_reducible first | exact HB.out | apply below_alloc | apply pw_below_drewN | apply below_drew1 | refine below_set ?_ GE266.out | refine below_set ?_ GE269.out) | exact HB.out)) hb)
             (try clear hb)
             (try clear hb2)
             (try clear hk)
             (try clear hi)
             refine hK.out _ _ ⟨(blk_cell BK269.out 0).trans rfl, (blk_cell BK269.out 1).trans rfl, (blk_cell BK269.out 2).trans rfl, (blk_cell BK266.out 0).trans rfl, (blk_cell BK266.out 1).trans rfl, (blk_cell BK266.out 2).trans rfl, (blk_cell BK266.out 3).trans rfl⟩ (fun hHeld => ?_)
             clear hK K
             refine nm ?_; refine pu 32 63 ?_; refine pu 33 64 ?_
             refine dn ?_
             try go_wp2
             go_meet
             case rel => exact ⟨_, (!t276), (by first | rfl | (simp; done) | (simp [*]; done)), H', ⟨by have := HJ1.out; have := HK2.out; first | omega | exact Nat.le_refl _⟩, ⟨by (with_reducible repeat (first | refine blk_drewN ?_ _ | refine blk_drew ?_ | refine blk_alloc ?_ _)); exact BK266.out⟩, ⟨by (with_reducible repeat (first | refine blk_drewN ?_ _ | refine blk_drew ?_ | refine blk_alloc ?_ _)); exact BK269.out⟩, ⟨by repeat (first | (with_reducible first | exact HB.out | apply below_alloc | apply pw_below_drewN | apply below_drew1 | refine below_set ?_ GE266.out | refine below_set ?_ GE269.out) | exact HB.out)⟩⟩
          ·replace c25 := Bool.eq_false_iff.mpr c25
           subst c25
           have H1 : (impl_StreamOk.j2 k2 l0_2 (l0_2.length : Int) x26_2 true a0_0 a0_1 l0_2 l0_3) = some r := by rw [if_neg (show ¬ (false = true) by decide)] at H; exact H
           clear H
           have H := H1
           clear H1
           have H' := Aside0.mk H
           clear H
           try go_wp2
           have n0_ : Aside0 ((((w21.setCell ⟨gb269, 0, none⟩ (.int .i64 ((rd_T66 l0_2 x26_2).f0.f0))).setCell ⟨gb269, 1, none⟩ (.int .i64 ((rd_T66 l0_2 x26_2).f0.f1))).setCell ⟨gb269, 2, none⟩ (.slice A268_2 ((rd_T66 l0_2 x26_2).f1).length c268_2)).heap[gb266]? = some (.cells #[.int .i64 a0_0, .int .i64 a0_1, .slice (some ad268) l0_2.length c0_2, .slice A0_3 l0_3.length c0_3] 34 (0, 0))) := ⟨by (with_reducible repeat (first | refine blk_drewN ?_ _ | refine blk_drew ?_ | refine blk_alloc ?_ _)); refine blk_far ?_ NB266_269.out _; (with_reducible repeat (first | refine blk_drewN ?_ _ | refine blk_drew ?_ | refine blk_alloc ?_ _)); refine blk_far ?_ NB266_269.out _; (with_reducible repeat (first | refine blk_drewN ?_ _ | refine blk_drew ?_ | refine blk_alloc ?_ _)); refine blk_far ?_ NB266_269.out _; (with_reducible repeat (first | refine blk_drewN ?_ _ | refine blk_drew ?_ | refine blk_alloc ?_ _)); exact BK266.out⟩
           have n1_ : Aside0 ((((w21.setCell ⟨gb269, 0, none⟩ (.int .i64 ((rd_T66 l0_2 x26_2).f0.f0))).setCell ⟨gb269, 1, none⟩ (.int .i64 ((rd_T66 l0_2 x26_2).f0.f1))).setCell ⟨gb269, 2, none⟩ (.slice A268_2 ((rd_T66 l0_2 x26_2).f1).length c268_2)).heap[gb269]? = some (.cells #[.int .i64 ((rd_T66 l0_2 x26_2).f0.f0), .int .i64 ((rd_T66 l0_2 x26_2).f0.f1), .slice A268_2 ((rd_T66 l0_2 x26_2).f1).length c268_2] 66 (0, 0))) := ⟨by (with_reducible repeat (first | refine blk_drewN ?_ _ | refine blk_drew ?_ | refine blk_alloc ?_ _)); refine blk_put (cs := #[.int .i64 ((rd_T66 l0_2 x26_2).f0.f0), .int .i64 ((rd_T66 l0_2 x26_2).f0.f1), .slice none 0 0]) ?_ 2 _ rfl; (with_reducible repeat (first | refine blk_drewN ?_ _ | refine blk_drew ?_ | refine blk_alloc ?_ _)); refine blk_put (cs := #[.int .i64 ((rd_T66 l0_2 x26_2).f0.f0), .int .i64 0, .slice none 0 0]) ?_ 1 _ rfl; (with_reducible repeat (first | refine blk_drewN ?_ _ | refine blk_drew ?_ | refine blk_alloc ?_ _)); refine blk_put (cs := #[.int .i64 0, .int .i64 0, .slice none 0 0]) ?_ 0 _ rfl; (with_reducible repeat (first | refine blk_drewN ?_ _ | refine blk_drew ?_ | refine blk_alloc ?_ _)); exact BK269.out⟩
           have n2_ : Aside0 (Below w.heap.size w (((w21.setCell ⟨gb269, 0, none⟩ (.int .i64 ((rd_T66 l0_2 x26_2).f0.f0))).setCell ⟨gb269, 1, none⟩ (.int .i64 ((rd_T66 l0_2 x26_2).f0.f1))).setCell ⟨gb269, 2, none⟩ (.slice A268_2 ((rd_T66 l0_2 x26_2).f1).length c268_2))) := ⟨by repeat (first | (with_reducible first | exact HB.out | apply below_alloc | apply pw_below_drewN | apply below_drew1 | refine below_set ?_ GE266.out | refine below_set ?_ GE269.out) | exact HB.out)⟩
           (try clear BK266)
           (try clear BK269)
           (try clear HB)
           generalize (((w21.setCell ⟨gb269, 0, none⟩ (.int .i64 ((rd_T66 l0_2 x26_2).f0.f0))).setCell ⟨gb269, 1, none⟩ (.int .i64 ((rd_T66 l0_2 x26_2).f0.f1))).setCell ⟨gb269, 2, none⟩ (.slice A268_2 ((rd_T66 l0_2 x26_2).f1).length c268_2)) = w62 at n0_ n1_ n2_ ⊢
           have BK266 := n0_
           have BK269 := n1_
           have HB := n2_
           clear n0_ n1_ n2_
           replace BK266 := Aside0.mk (blk_drew BK266.out)
           replace BK269 := Aside0.mk (blk_drew BK269.out)
           replace HB := Aside0.mk (below_drew1 HB.out)
           refine start_ (n := 34) (S := fun w' => w'.cell? ⟨gb269, 0, none⟩ = some (.int .i64 ((rd_T66 l0_2 x26_2).f0.f0)) ∧ w'.cell? ⟨gb269, 1, none⟩ = some (.int .i64 ((rd_T66 l0_2 x26_2).f0.f1)) ∧ w'.cell? ⟨gb269, 2, none⟩ = some (.slice A268_2 ((rd_T66 l0_2 x26_2).f1).length c268_2)) (ds := []) _ (by kernel_rfl) rfl rfl ⟨(blk_cell BK269.out 0).trans rfl, (blk_cell BK269.out 1).trans rfl, (blk_cell BK269.out 2).trans rfl⟩ (fun hHeld => ?_); refine with_tabW impl_StreamOk.tab6 impl_StreamOk.bits6 (fun HT_ HW_ => ?_)
           generalize w62.drew = w63 at BK266 BK269 HB hHeld ⊢
           refine pu 0 31 ?_; refine tk 1 32 ?_
           refine on 2 (some 33) (fun K hK => ?_)
           refine ca Try.func74 (impl_idOk.calls ((rd_T66 l0_2 x26_2).f0.f0) ((rd_T66 l0_2 x26_2).f0.f1) false _ A24.out) ?_
           rintro e w64 ⟨rfl, hb⟩
           refine ⟨_, rfl, ?_⟩
           replace BK266 := Aside0.mk (blk_below (g := gb266) (o := .cells #[.int .i64 a0_0, .int .i64 a0_1, .slice (some ad268) l0_2.length c0_2, .slice A0_3 l0_3.length c0_3] 34 (0, 0)) (by (with_reducible repeat (first | refine blk_drewN ?_ _ | refine blk_drew ?_ | refine blk_alloc ?_ _)); exact BK266.out) hb)
           replace BK269 := Aside0.mk (blk_below (g := gb269) (o := .cells #[.int .i64 ((rd_T66 l0_2 x26_2).f0.f0), .int .i64 ((rd_T66 l0_2 x26_2).f0.f1), .slice A268_2 ((rd_T66 l0_2 x26_2).f1).length c268_2] 66 (0, 0)) (by (with_reducible repeat (first | refine blk_drewN ?_ _ | refine blk_drew ?_ | refine blk_alloc ?_ _)); exact BK269.out) hb)
           replace HB := Aside0.mk (below_step (by repeat (first | (with_reducible first | exact HB.out | apply below_alloc | apply pw_below_drewN | apply below_drew1 | refine below_set ?_ GE266.out | refine below_set ?_ GE269.out) | exact HB.out)) hb)
           (try clear hb)
           (try clear hb2)
           (try clear hk)
           (try clear hi)
           refine hK.out _ _ ⟨(blk_cell BK269.out 0).trans rfl, (blk_cell BK269.out 1).trans rfl, (blk_cell BK269.out 2).trans rfl⟩ (fun hHeld => ?_)
           clear hK K
           refine nm ?_; refine pu 3 34 ?_; refine pu 4 35 ?_; refine of 5 36 ?_; refine of 6 37 ?_; refine of 7 38 ?_; refine of 8 39 ?_; refine of 9 40 ?_; refine of 10 41 ?_; refine of 11 42 ?_; refine of 12 43 ?_; refine of 13 44 ?_; refine of 14 45 ?_; refine of 15 46 ?_; refine of 16 47 ?_; refine of 17 48 ?_; refine of 18 49 ?_; refine of 19 50 ?_; refine pu 20 51 ?_; refine pu 21 52 ?_; refine of 22 53 ?_; refine of 23 54 ?_; refine of 24 55 ?_; refine of 25 56 ?_; refine of 26 57 ?_; refine pu 27 58 ?_; refine pu 28 59 ?_; refine of 29 60 ?_; refine of 30 61 ?_; refine of 31 62 ?_; refine of 32 63 ?_; refine pu 33 64 ?_
           refine dn ?_
           try go_wp2
           go_meet
           case rel => exact ⟨_, (true), (by first | rfl | (simp; done) | (simp [*]; done)), H', ⟨by have := HJ1.out; have := HK2.out; first | omega | exact Nat.le_refl _⟩, ⟨by (with_reducible repeat (first | refine blk_drewN ?_ _ | refine blk_drew ?_ | refine blk_alloc ?_ _)); exact BK266.out⟩, ⟨by (with_reducible repeat (first | refine blk_drewN ?_ _ | refine blk_drew ?_ | refine blk_alloc ?_ _)); exact BK269.out⟩, ⟨by repeat (first | (with_reducible first | exact HB.out | apply below_alloc | apply pw_below_drewN | apply below_drew1 | refine below_set ?_ GE266.out | refine below_set ?_ GE269.out) | exact HB.out)⟩⟩
         case rest =>
          clear HC20
          try clear c2
          try clear p2
          try clear c3
          try clear c5
          try clear c7
          try clear c25
          try clear c26
          try clear c33
          try clear c51
          obtain ⟨kq, x64_19, rfl, HA, HJ19, BK266, BK269, HB⟩ := hcut
          cases kq with
          | zero => exact absurd HA.out (by simp [impl_StreamOk.j2])
          | succ kj19 =>
           have H := HA.out
           clear HA
           simp only [impl_StreamOk.j2] at H
           by_cases c65 : x64_19 = true
           ·subst c65
            have H1 : (some false) = some r := by rw [if_pos rfl] at H; exact H
            clear H
            have H := H1
            clear H1
            obtain rfl := Option.some.inj H
            go_wp2
            go_ret
            exact ⟨by first | rfl | (simp [errW_none, errW_some] <;> rfl) | (simp [*, errW_none, errW_some] <;> rfl), by repeat (first | (with_reducible first | exact HB.out | apply below_alloc | apply pw_below_drewN | apply below_drew1 | refine below_set ?_ GE266.out | refine below_set ?_ GE269.out) | exact HB.out)⟩
           ·replace c65 := Bool.eq_false_iff.mpr c65
            subst c65
            have H1 : (impl_StreamOk.l0 kj19 l0_2 (l0_2.length : Int) (wrap64 (x26_2 + 1)) a0_0 a0_1 l0_2 l0_3) = some r := by rw [if_neg (show ¬ (false = true) by decide)] at H; exact H
            clear H
            have H := H1
            clear H1
            have H' := Aside0.mk H
            clear H
            go_wp2
            go_roundg kj19
            case measure => have := HJ1.out; have := HK2.out; have := HJ19.out; omega
            case rel => exact ⟨(wrap64 (x26_2 + 1)), (by first | rfl | (simp; done) | (simp [*]; done)), H', ⟨by have := HJ1.out; have := HK2.out; have := HJ19.out; omega⟩, ⟨by (with_reducible repeat (first | refine blk_drewN ?_ _ | refine blk_drew ?_ | refine blk_alloc ?_ _)); exact BK266.out⟩, ⟨by repeat (first | (with_reducible first | exact HB.out | apply below_alloc | apply pw_below_drewN | apply below_drew1 | refine below_set ?_ GE266.out | refine below_set ?_ GE269.out) | exact HB.out)⟩⟩
        ·rw [if_neg c19] at H
         exact absurd H (by simp)
       ·rw [if_neg c18] at H
        exact absurd H (by simp)
      ·rw [if_neg c17] at H
       have c17b0 : decide (x26_2 < (l0_2.length : Int)) = false := decide_eq_false c17
       clear c17
       have H' := Aside0.mk H
       clear H
       have hcz66_0 : wr.cell? ⟨gb266, 0, none⟩ = some (.int .i64 a0_0) := (blk_cell BK266.out 0).trans rfl
       have hcz66_1 : wr.cell? ⟨gb266, 1, none⟩ = some (.int .i64 a0_1) := (blk_cell BK266.out 1).trans rfl
       have hcz66_2 : wr.cell? ⟨gb266, 2, none⟩ = some (.slice A0_2 l0_2.length c0_2) := (blk_cell BK266.out 2).trans rfl
       have hcz66_3 : wr.cell? ⟨gb266, 3, none⟩ = some (.slice A0_3 l0_3.length c0_3) := (blk_cell BK266.out 3).trans rfl
       have hfz66_0 := blk_frozen BK266.out 0
       have hfz66_1 := blk_frozen BK266.out 1
       have hfz66_2 := blk_frozen BK266.out 2
       have hfz66_3 := blk_frozen BK266.out 3
       go_wp2
       go_loopg [69] k2 (fun kq v69 w' => ∃ (x69_3 : Int), v69 = .int .i64 x69_3 ∧ Aside0 (impl_StreamOk.l1 kq l0_3 (l0_3.length : Int) x69_3 a0_0 a0_1 l0_2 l0_3 = some r) ∧ Aside0 (kq ≤ k2) ∧ Aside0 (w'.heap[gb266]? = some (.cells #[.int .i64 a0_0, .int .i64 a0_1, (.slice A0_2 l0_2.length c0_2), (.slice A0_3 l0_3.length c0_3)] 34 (0, 0))) ∧ Aside0 (Below w.heap.size w w'))
       case atStart => exact ⟨(0), (by first | rfl | (simp; done) | (simp [*]; done)), H', ⟨Nat.le_refl _⟩, ⟨by (with_reducible repeat (first | refine blk_drewN ?_ _ | refine blk_drew ?_ | refine blk_alloc ?_ _)); exact BK266.out⟩, ⟨by repeat (first | (with_reducible first | exact HB.out | apply below_alloc | apply pw_below_drewN | apply below_drew1 | refine below_set ?_ GE266.out) | exact HB.out)⟩⟩
       case round =>
        clear H'
        try clear c1
        try clear c2
        try clear p2
        try clear c3
        try clear c5
        try clear c6
        try clear p6
        try clear c7
        try clear c17
        try clear c17b0
        try clear c18
        try clear c19
        try clear c25
        try clear c26
        try clear c33
        try clear c51
        try clear p64
        try clear c65
        try clear hcz66_0
        try clear hcz66_1
        try clear hcz66_2
        try clear hcz66_3
        try clear hfz66_0
        try clear hfz66_1
        try clear hfz66_2
        try clear hfz66_3
        try clear p2
        obtain ⟨x69_3, rfl, HA, HK3, BK266, HB⟩ := hrel
        cases gk with
        | zero => exact absurd HA.out (by simp [impl_StreamOk.l1])
        | succ k3 =>
         have H := HA.out
         clear HA
         simp only [impl_StreamOk.l1] at H
         by_cases c67 : x69_3 < (l0_3.length : Int)
         ·rw [if_pos c67] at H
          have c67b0 : decide (x69_3 < (l0_3.length : Int)) = true := decide_eq_true c67
          clear c67
          by_cases c68 : 0 ≤ x69_3
          ·rw [if_pos c68] at H
           have c68b0 : decide (0 ≤ x69_3) = true := decide_eq_true c68
           clear c68
           by_cases c69 : x69_3 < (l0_3.length : Int)
           ·rw [if_pos c69] at H
            have c69b0 : decide (x69_3 < (l0_3.length : Int)) = true := decide_eq_true c69
            clear c69
            have HC70 := Aside0.mk H
            clear H
            have p277 := od (0 ≤ (x69_3 : Int))
            have q277 := od (x69_3 < (l0_3.length : Int))
            obtain ⟨ad277, A277_3, c277_3, e277, hx277_0, hx277_1, hx277_2, hx277_3, hl277_3, hi277_3⟩ := at_T107 HR0_3.out x69_3 p277 q277
            cases e277
            replace hx277_0 := (HB.out.cell (World.block_lt_of_cell? w _ hx277_0)).trans hx277_0
            replace hx277_1 := (HB.out.cell (World.block_lt_of_cell? w _ hx277_1)).trans hx277_1
            replace hx277_2 := (HB.out.cell (World.block_lt_of_cell? w _ hx277_2)).trans hx277_2
            replace hx277_3 := (HB.out.cell (World.block_lt_of_cell? w _ hx277_3)).trans hx277_3
            have HR277_3 := Aside0.mk hi277_3
            have HC277_3 := Aside0.mk hl277_3
            clear hi277_3 hl277_3
            replace p277 := eq_true p277
            replace q277 := eq_true q277
            go_upto_region 12 with (first | ((with_reducible refine gate_dst (N := 6) rfl ?_); (try (refine gate_guard (by rfl) ?_; dsimp only)); refine box_event ?hg (N := 6) ?hd (cs := #[.string (⟨#[]⟩ : ByteArray), .int .i64 0, .int .i64 0, .slice none 0 0]) (t := 107) ?hr ?_; (case hd => rfl); (case hg => rfl); (case hr => first | (go_simp; done) | (go_simp; rfl)); intro gb278 hg w71 hbox hb; have n0_ := Aside0.mk (blk_below (g := gb266) (o := .cells #[.int .i64 a0_0, .int .i64 a0_1, .slice A0_2 l0_2.length c0_2, .slice (some ad277) l0_3.length c0_3] 34 (0, 0)) (by (with_reducible repeat (first | refine blk_drewN ?_ _ | refine blk_drew ?_ | refine blk_alloc ?_ _)); exact BK266.out) hb); have n1_ := Aside0.mk (below_step (by repeat (first | (with_reducible first | exact HB.out | apply below_alloc | apply pw_below_drewN | apply below_drew1 | refine below_set ?_ GE266.out) | exact HB.out)) hb); have n2_ := Aside0.mk (hbox); have n3_ := Aside0.mk ((by rw [hg]; exact (below_size (by repeat (first | (with_reducible first | exact HB.out | apply below_alloc | apply pw_below_drewN | apply below_drew1 | refine below_set ?_ GE266.out) | exact HB.out))) : w.heap.size ≤ gb278)); have n4_ := Aside0.mk ((by rw [hg]; exact (below_size (by repeat (first | (with_reducible first | exact HB.out | apply below_alloc | apply pw_below_drewN | apply below_drew1 | refine below_set ?_ GE266.out) | exact HB.out))) : w.heap.size ≤ gb278)); have n5_ := Aside0.mk ((by rw [hg]; exact Nat.ne_of_lt (blk_lt (g := gb266) (o := .cells #[.int .i64 a0_0, .int .i64 a0_1, .slice A0_2 l0_2.length c0_2, .slice (some ad277) l0_3.length c0_3] 34 (0, 0)) (by (with_reducible repeat (first | refine blk_drewN ?_ _ | refine blk_drew ?_ | refine blk_alloc ?_ _)); exact BK266.out)) : gb266 ≠ gb278)); have n6_ := Aside0.mk ((by rw [hg]; exact Nat.ne_of_gt (blk_lt (g := gb266) (o := .cells #[.int .i64 a0_0, .int .i64 a0_1, .slice A0_2 l0_2.length c0_2, .slice (some ad277) l0_3.length c0_3] 34 (0, 0)) (by (with_reducible repeat (first | refine blk_drewN ?_ _ | refine blk_drew ?_ | refine blk_alloc ?_ _)); exact BK266.out)) : gb278 ≠ gb266)); clear BK266; clear HB; have BK266 := n0_; have HB := n1_; have BK278 := n2_; have GW278 := n3_; have GE278 := n4_; have NB266_278 := n5_; have NB278_266 := n6_; clear n0_ n1_ n2_ n3_ n4_ n5_ n6_; clear hb hbox hg; have hnb72 := NB278_266.out; have hnc72 := NB266_278.out; have hcz73_0 : w71.cell? ⟨gb278, 0, none⟩ = some (.string (⟨#[]⟩ : ByteArray)) := (blk_cell BK278.out 0).trans rfl; have hcz73_1 : w71.cell? ⟨gb278, 1, none⟩ = some (.int .i64 0) := (blk_cell BK278.out 1).trans rfl; have hcz73_2 : w71.cell? ⟨gb278, 2, none⟩ = some (.int .i64 0) := (blk_cell BK278.out 2).trans rfl; have hcz73_3 : w71.cell? ⟨gb278, 3, none⟩ = some (.slice none 0 0) := (blk_cell BK278.out 3).trans rfl; have hfz73_0 := blk_frozen BK278.out 0; have hfz73_1 := blk_frozen BK278.out 1; have hfz73_2 := blk_frozen BK278.out 2; have hfz73_3 := blk_frozen BK278.out 3))
            (try simp only [Act.put, List.setIfInBounds_toArray, List.set_cons_zero, List.set_cons_succ])
            go_cut [99] (fun v99 wc => ∃ (kq : Nat) (x99_69 : Bool), v99 = .bool x99_69 ∧ Aside0 (impl_StreamOk.j4 kq l0_3 (l0_3.length : Int) x69_3 x99_69 a0_0 a0_1 l0_2 l0_3 = some r) ∧ Aside0 (kq ≤ k3) ∧ Aside0 (wc.heap[gb266]? = some (.cells #[.int .i64 a0_0, .int .i64 a0_1, (.slice A0_2 l0_2.length c0_2), (.slice (some ad277) l0_3.length c0_3)] 34 (0, 0))) ∧ Aside0 (wc.heap[gb278]? = some (.cells #[.string ((rd_T107 l0_3 x69_3).f0), .int .i64 ((rd_T107 l0_3 x69_3).f1.f0), .int .i64 ((rd_T107 l0_3 x69_3).f1.f1), (.slice A277_3 ((rd_T107 l0_3 x69_3).f2).length c277_3)] 107 (0, 0))) ∧ Aside0 (Below w.heap.size w wc))
            case first =>
             have H := HC70.out
             clear HC70
             replace H := Option.bind_eq_some_iff.mp H
             obtain ⟨t279, A740, H⟩ := H
             replace H : (if t279 = true then (if x69_3 > 0 then (if 0 ≤ (wrap64 (x69_3 - 1)) then (if (wrap64 (x69_3 - 1)) < (l0_3.length : Int) then (if ((Op.bytesLess (((rd_T107 l0_3 (wrap64 (x69_3 - 1))).f0).toList) (((rd_T107 l0_3 x69_3).f0).toList)) = true) then ((impl_IdLess.f k3 a0_0 a0_1 ((rd_T107 l0_3 x69_3).f1.f0) ((rd_T107 l0_3 x69_3).f1.f1)).bind fun t281 => (impl_StreamOk.j4 k3 l0_3 (l0_3.length : Int) x69_3 t281 a0_0 a0_1 l0_2 l0_3)) else (impl_StreamOk.j4 k3 l0_3 (l0_3.length : Int) x69_3 true a0_0 a0_1 l0_2 l0_3)) else (none)) else (none)) else ((impl_IdLess.f k3 a0_0 a0_1 ((rd_T107 l0_3 x69_3).f1.f0) ((rd_T107 l0_3 x69_3).f1.f1)).bind fun t282 => (impl_StreamOk.j4 k3 l0_3 (l0_3.length : Int) x69_3 t282 a0_0 a0_1 l0_2 l0_3))) else (impl_StreamOk.j4 k3 l0_3 (l0_3.length : Int) x69_3 true a0_0 a0_1 l0_2 l0_3)) = some r := H
             have A74 := Aside0.mk A740
             clear A740
             by_cases c75 : t279 = true
             ·subst c75
              have H1 : (if x69_3 > 0 then (if 0 ≤ (wrap64 (x69_3 - 1)) then (if (wrap64 (x69_3 - 1)) < (l0_3.length : Int) then (if ((Op.bytesLess (((rd_T107 l0_3 (wrap64 (x69_3 - 1))).f0).toList) (((rd_T107 l0_3 x69_3).f0).toList)) = true) then ((impl_IdLess.f k3 a0_0 a0_1 ((rd_T107 l0_3 x69_3).f1.f0) ((rd_T107 l0_3 x69_3).f1.f1)).bind fun t281 => (impl_StreamOk.j4 k3 l0_3 (l0_3.length : Int) x69_3 t281 a0_0 a0_1 l0_2 l0_3)) else (impl_StreamOk.j4 k3 l0_3 (l0_3.length : Int) x69_3 true a0_0 a0_1 l0_2 l0_3)) else (none)) else (none)) else ((impl_IdLess.f k3 a0_0 a0_1 ((rd_T107 l0_3 x69_3).f1.f0) ((rd_T107 l0_3 x69_3).f1.f1)).bind fun t282 => (impl_StreamOk.j4 k3 l0_3 (l0_3.length : Int) x69_3 t282 a0_0 a0_1 l0_2 l0_3))) = some r := by rw [if_pos rfl] at H; exact H
              clear H
              have H := H1
              clear H1
              by_cases c76 : x69_3 > 0
              ·rw [if_pos c76] at H
               have c76b0 : decide (0 < x69_3) = true := decide_eq_true c76
               clear c76
               (first | rw [c76b0] | rw [c76b1] | (simp only [i64_w, i32_w]; rw [c76b0]) | rw [c76b2] | skip)
               obtain ⟨ji77, hji77⟩ : ∃ j_ : Int, (wrap64 (x69_3 - 1)) = j_ := ⟨_, rfl⟩
               replace H : (if 0 ≤ (ji77) then (if (ji77) < (l0_3.length : Int) then (if ((Op.bytesLess (((rd_T107 l0_3 (ji77)).f0).toList) (((rd_T107 l0_3 x69_3).f0).toList)) = true) then ((impl_IdLess.f k3 a0_0 a0_1 ((rd_T107 l0_3 x69_3).f1.f0) ((rd_T107 l0_3 x69_3).f1.f1)).bind fun t281 => (impl_StreamOk.j4 k3 l0_3 (l0_3.length : Int) x69_3 t281 a0_0 a0_1 l0_2 l0_3)) else (impl_StreamOk.j4 k3 l0_3 (l0_3.length : Int) x69_3 true a0_0 a0_1 l0_2 l0_3)) else (none)) else (none)) = some r := by first | (rw [hji77] at H; exact H) | (simp only [hji77] at H ⊢; exact H)
               (try rw [hji77] at A74)
               have hji77w : (IntKind.i64.wrap (x69_3 - 1)) = ji77 := (i64_w _).trans hji77
               by_cases c78 : 0 ≤ (ji77)
               ·rw [if_pos c78] at H
                have c78b0 : decide (0 ≤ (ji77)) = true := decide_eq_true c78
                clear c78
                by_cases c79 : (ji77) < (l0_3.length : Int)
                ·rw [if_pos c79] at H
                 have c79b0 : decide ((ji77) < (l0_3.length : Int)) = true := decide_eq_true c79
                 clear c79
                 by_cases c80 : ((Op.bytesLess (((rd_T107 l0_3 (ji77)).f0).toList) (((rd_T107 l0_3 x69_3).f0).toList)) = true)
                 ·rw [if_pos c80] at H
                  have c80b0 : (Op.bytesLess (((rd_T107 l0_3 (ji77)).f0).toList) (((rd_T107 l0_3 x69_3).f0).toList)) = true := c80
                  clear c80
                  replace H := Option.bind_eq_some_iff.mp H
                  obtain ⟨t281, A810, H⟩ := H
                  replace H : (impl_StreamOk.j4 k3 l0_3 (l0_3.length : Int) x69_3 t281 a0_0 a0_1 l0_2 l0_3) = some r := H
                  have A81 := Aside0.mk A810
                  clear A810
                  have H' := Aside0.mk H
                  clear H
                  try go_wp2
                  have n0_ : Aside0 (((((w71.setCell ⟨gb278, 0, none⟩ (.string ((rd_T107 l0_3 x69_3).f0))).setCell ⟨gb278, 1, none⟩ (.int .i64 ((rd_T107 l0_3 x69_3).f1.f0))).setCell ⟨gb278, 2, none⟩ (.int .i64 ((rd_T107 l0_3 x69_3).f1.f1))).setCell ⟨gb278, 3, none⟩ (.slice A277_3 ((rd_T107 l0_3 x69_3).f2).length c277_3)).heap[gb266]? = some (.cells #[.int .i64 a0_0, .int .i64 a0_1, .slice A0_2 l0_2.length c0_2, .slice (some ad277) l0_3.length c0_3] 34 (0, 0))) := ⟨by (with_reducible repeat (first | refine blk_drewN ?_ _ | refine blk_drew ?_ | refine blk_alloc ?_ _)); refine blk_far ?_ NB266_278.out _; (with_reducible repeat (first | refine blk_drewN ?_ _ | refine blk_drew ?_ | refine blk_alloc ?_ _)); refine blk_far ?_ NB266_278.out _; (with_reducible repeat (first | refine blk_drewN ?_ _ | refine blk_drew ?_ | refine blk_alloc ?_ _)); refine blk_far ?_ NB266_278.out _; (with_reducible repeat (first | refine blk_drewN ?_ _ | refine blk_drew ?_ | refine blk_alloc ?_ _)); refine blk_far ?_ NB266_278.out _; (with_reducible repeat (first | refine blk_drewN ?_ _ | refine blk_drew ?_ | refine blk_alloc ?_ _)); exact BK266.out⟩
                  have n1_ : Aside0 (((((w71.setCell ⟨gb278, 0, none⟩ (.string ((rd_T107 l0_3 x69_3).f0))).setCell ⟨gb278, 1, none⟩ (.int .i64 ((rd_T107 l0_3 x69_3).f1.f0))).setCell ⟨gb278, 2, none⟩ (.int .i64 ((rd_T107 l0_3 x69_3).f1.f1))).setCell ⟨gb278, 3, none⟩ (.slice A277_3 ((rd_T107 l0_3 x69_3).f2).length c277_3)).heap[gb278]? = some (.cells #[.string ((rd_T107 l0_3 x69_3).f0), .int .i64 ((rd_T107 l0_3 x69_3).f1.f0), .int .i64 ((rd_T107 l0_3 x69_3).f1.f1), .slice A277_3 ((rd_T107 l0_3 x69_3).f2).length c277_3] 107 (0, 0))) := ⟨by (with_reducible repeat (first | refine blk_drewN ?_ _ | refine blk_drew ?_ | refine blk_alloc ?_ _)); refine blk_put (cs := #[.string ((rd_T107 l0_3 x69_3).f0), .int .i64 ((rd_T107 l0_3 x69_3).f1.f0), .int .i64 ((rd_T107 l0_3 x69_3).f1.f1), .slice none 0 0]) ?_ 3 _ rfl; (with_reducible repeat (first | refine blk_drewN ?_ _ | refine blk_drew ?_ | refine blk_alloc ?_ _)); refine blk_put (cs := #[.string ((rd_T107 l0_3 x69_3).f0), .int .i64 ((rd_T107 l0_3 x69_3).f1.f0), .int .i64 0, .slice none 0 0]) ?_ 2 _ rfl; (with_reducible repeat (first | refine blk_drewN ?_ _ | refine blk_drew ?_ | refine blk_alloc ?_ _)); refine blk_put (cs := #[.string ((rd_T107 l0_3 x69_3).f0), .int .i64 0, .int .i64 0, .slice none 0 0]) ?_ 1 _ rfl; (with_reducible repeat (first | refine blk_drewN ?_ _ | refine blk_drew ?_ | refine blk_alloc ?_ _)); refine blk_put (cs := #[.string (⟨#[]⟩ : ByteArray), .int .i64 0, .int .i64 0, .slice none 0 0]) ?_ 0 _ rfl; (with_reducible repeat (first | refine blk_drewN ?_ _ | refine blk_drew ?_ | refine blk_alloc ?_ _)); exact BK278.out⟩
                  have n2_ : Aside0 (Below w.heap.size w ((((w71.setCell ⟨gb278, 0, none⟩ (.string ((rd_T107 l0_3 x69_3).f0))).setCell ⟨gb278, 1, none⟩ (.int .i64 ((rd_T107 l0_3 x69_3).f1.f0))).setCell ⟨gb278, 2, none⟩ (.int .i64 ((rd_T107 l0_3 x69_3).f1.f1))).setCell ⟨gb278, 3, none⟩ (.slice A277_3 ((rd_T107 l0_3 x69_3).f2).length c277_3))) := ⟨by repeat (first | (with_reducible first | exact HB.out | apply below_alloc | apply pw_below_drewN | apply below_drew1 | refine below_set ?_ GE266.out | refine below_set ?_ GE278.out) | exact HB.out)⟩
                  (try clear BK266)
                  (try clear BK278)
                  (try clear HB)
                  generalize ((((w71.setCell ⟨gb278, 0, none⟩ (.string ((rd_T107 l0_3 x69_3).f0))).setCell ⟨gb278, 1, none⟩ (.int .i64 ((rd_T107 l0_3 x69_3).f1.f0))).setCell ⟨gb278, 2, none⟩ (.int .i64 ((rd_T107 l0_3 x69_3).f1.f1))).setCell ⟨gb278, 3, none⟩ (.slice A277_3 ((rd_T107 l0_3 x69_3).f2).length c277_3)) = w82 at n0_ n1_ n2_ ⊢
                  have BK266 := n0_
                  have BK278 := n1_
                  have HB := n2_
                  clear n0_ n1_ n2_
                  replace BK266 := Aside0.mk (blk_drew BK266.out)
                  replace BK278 := Aside0.mk (blk_drew BK278.out)
                  replace HB := Aside0.mk (below_drew1 HB.out)
                  have p280 := od (0 ≤ ((ji77) : Int))
                  have q280 := od ((ji77) < (l0_3.length : Int))
                  obtain ⟨ad280, A280_3, c280_3, e280, hx280_0, hx280_1, hx280_2, hx280_3, hl280_3, hi280_3⟩ := at_T107 HR0_3.out (ji77) p280 q280
                  have hw280_3 := hx280_3
                  have hw280_2 := hx280_2
                  have hw280_1 := hx280_1
                  have hw280_0 := hx280_0
                  obtain rfl : ad277 = ad280 := (by injection e280)
                  replace hx280_0 := (HB.out.cell (World.block_lt_of_cell? w _ hx280_0)).trans hx280_0
                  replace hx280_1 := (HB.out.cell (World.block_lt_of_cell? w _ hx280_1)).trans hx280_1
                  replace hx280_2 := (HB.out.cell (World.block_lt_of_cell? w _ hx280_2)).trans hx280_2
                  replace hx280_3 := (HB.out.cell (World.block_lt_of_cell? w _ hx280_3)).trans hx280_3
                  have HR280_3 := Aside0.mk hi280_3
                  have HC280_3 := Aside0.mk hl280_3
                  clear hi280_3 hl280_3
                  replace p280 := eq_true p280
                  replace q280 := eq_true q280
                  refine start_ (n := 26) (S := fun w' => w'.cell? ⟨gb278, 0, none⟩ = some (.string ((rd_T107 l0_3 x69_3).f0)) ∧ w'.cell? ⟨gb278, 1, none⟩ = some (.int .i64 ((rd_T107 l0_3 x69_3).f1.f0)) ∧ w'.cell? ⟨gb278, 2, none⟩ = some (.int .i64 ((rd_T107 l0_3 x69_3).f1.f1)) ∧ w'.cell? ⟨gb278, 3, none⟩ = some (.slice A277_3 ((rd_T107 l0_3 x69_3).f2).length c277_3) ∧ w'.cell? ⟨gb266, 0, none⟩ = some (.int .i64 a0_0) ∧ w'.cell? ⟨gb266, 1, none⟩ = some (.int .i64 a0_1) ∧ w'.cell? ⟨gb266, 2, none⟩ = some (.slice A0_2 l0_2.length c0_2) ∧ w'.cell? ⟨gb266, 3, none⟩ = some (.slice (some ad277) l0_3.length c0_3) ∧ w'.cell? (ad277.add (((ji77)).toNat * 4)) = some (.string ((rd_T107 l0_3 (ji77)).f0)) ∧ w'.cell? ⟨(ad277.add (((ji77)).toNat * 4)).block, (ad277.add (((ji77)).toNat * 4)).off + 1, none⟩ = some (.int .i64 ((rd_T107 l0_3 (ji77)).f1.f0)) ∧ w'.cell? ⟨(ad277.add (((ji77)).toNat * 4)).block, (ad277.add (((ji77)).toNat * 4)).off + 2, none⟩ = some (.int .i64 ((rd_T107 l0_3 (ji77)).f1.f1)) ∧ w'.cell? ⟨(ad277.add (((ji77)).toNat * 4)).block, (ad277.add (((ji77)).toNat * 4)).off + 3, none⟩ = some (.slice A280_3 ((rd_T107 l0_3 (ji77)).f2).length c280_3)) (ds := []) _ (by kernel_rfl) rfl rfl ⟨(blk_cell BK278.out 0).trans rfl, (blk_cell BK278.out 1).trans rfl, (blk_cell BK278.out 2).trans rfl, (blk_cell BK278.out 3).trans rfl, (blk_cell BK266.out 0).trans rfl, (blk_cell BK266.out 1).trans rfl, (blk_cell BK266.out 2).trans rfl, (blk_cell BK266.out 3).trans rfl, ((HB.out.cell (World.block_lt_of_cell? w _ hw280_0)).trans hw280_0), ((HB.out.cell (World.block_lt_of_cell? w _ hw280_1)).trans hw280_1), ((HB.out.cell (World.block_lt_of_cell? w _ hw280_2)).trans hw280_2), ((HB.out.cell (World.block_lt_of_cell? w _ hw280_3)).trans hw280_3)⟩ (fun hHeld => ?_); refine with_tabW impl_StreamOk.tab12 impl_StreamOk.bits12 (fun HT_ HW_ => ?_)
                  generalize w82.drew = w83 at BK266 BK278 HB HR280_3 hx280_0 hx280_1 hx280_2 hx280_3 hHeld ⊢
                  refine tk 0 74 ?_
                  refine on 1 (some 75) (fun K hK => ?_)
                  refine ca Try.func77 (impl_groupOk.calls k3 ((rd_T107 l0_3 x69_3).f0) ((rd_T107 l0_3 x69_3).f1.f0) ((rd_T107 l0_3 x69_3).f1.f1) _ _ ((rd_T107 l0_3 x69_3).f2) true _ ?side1 ?side2 A74.out) ?_
                  (case side1 => repeat (first | exact (Kd.C_below HR277_3.out HB.out) | (with_reducible refine Kd.C_alloc ?_ _) | (with_reducible refine Kd.C_drewN ?_ _) | (with_reducible refine Kd.C_drew ?_)))
                  (case side2 => exact HC277_3.out)
                  rintro e w84 ⟨rfl, hb⟩
                  refine ⟨_, rfl, ?_⟩
                  replace BK266 := Aside0.mk (blk_below (g := gb266) (o := .cells #[.int .i64 a0_0, .int .i64 a0_1, .slice A0_2 l0_2.length c0_2, .slice (some ad277) l0_3.length c0_3] 34 (0, 0)) (by (with_reducible repeat (first | refine blk_drewN ?_ _ | refine blk_drew ?_ | refine blk_alloc ?_ _)); exact BK266.out) hb)
                  replace BK278 := Aside0.mk (blk_below (g := gb278) (o := .cells #[.string ((rd_T107 l0_3 x69_3).f0), .int .i64 ((rd_T107 l0_3 x69_3).f1.f0), .int .i64 ((rd_T107 l0_3 x69_3).f1.f1), .slice A277_3 ((rd_T107 l0_3 x69_3).f2).length c277_3] 107 (0, 0)) (by (with_reducible repeat (first | refine blk_drewN ?_ _ | refine blk_drew ?_ | refine blk_alloc ?_ _)); exact BK278.out) hb)
                  replace HB := Aside0.mk (below_step (by repeat (first | (with_reducible first | exact HB.out | apply below_alloc | apply pw_below_drewN | apply below_drew1 | refine below_set ?_ GE266.out | refine below_set ?_ GE278.out) | exact HB.out)) hb)
                  (try clear hb)
                  (try clear hb2)
                  (try clear hk)
                  (try clear hi)
                  refine hK.out _ _ ⟨(blk_cell BK278.out 0).trans rfl, (blk_cell BK278.out 1).trans rfl, (blk_cell BK278.out 2).trans rfl, (blk_cell BK278.out 3).trans rfl, (blk_cell BK266.out 0).trans rfl, (blk_cell BK266.out 1).trans rfl, (blk_cell BK266.out 2).trans rfl, (blk_cell BK266.out 3).trans rfl, ((HB.out.cell (World.block_lt_of_cell? w _ hw280_0)).trans hw280_0), ((HB.out.cell (World.block_lt_of_cell? w _ hw280_1)).trans hw280_1), ((HB.out.cell (World.block_lt_of_cell? w _ hw280_2)).trans hw280_2), ((HB.out.cell (World.block_lt_of_cell? w _ hw280_3)).trans hw280_3)⟩ (fun hHeld => ?_)
                  clear hK K
                  refine nm ?_; refine pu 2 76 ?_; refine pu 3 77 ?_; refine pu 4 78 ?_; refine pu 5 79 ?_; refine pu 6 80 ?_; refine pu 7 81 ?_; refine pu 9 83 ?_; refine pu 10 84 ?_; refine pu 14 88 ?_; refine tk 8 82 ?_; refine pu 11 85 ?_; refine pu 12 86 ?_; refine tk 13 87 ?_; refine tk 15 89 ?_; refine pu 16 90 ?_; refine pu 17 91 ?_; refine pu 18 92 ?_; refine pu 19 93 ?_; refine pu 20 94 ?_; refine pu 22 96 ?_; refine tk 21 95 ?_; refine tk 23 97 ?_
                  refine on 24 (some 98) (fun K hK => ?_)
                  refine ca Try.func33 (impl_IdLess.calls k3 a0_0 a0_1 ((rd_T107 l0_3 x69_3).f1.f0) ((rd_T107 l0_3 x69_3).f1.f1) t281 _ A81.out) ?_
                  rintro e w85 ⟨rfl, hb⟩
                  refine ⟨_, rfl, ?_⟩
                  replace BK266 := Aside0.mk (blk_below (g := gb266) (o := .cells #[.int .i64 a0_0, .int .i64 a0_1, .slice A0_2 l0_2.length c0_2, .slice (some ad277) l0_3.length c0_3] 34 (0, 0)) (by (with_reducible repeat (first | refine blk_drewN ?_ _ | refine blk_drew ?_ | refine blk_alloc ?_ _)); exact BK266.out) hb)
                  replace BK278 := Aside0.mk (blk_below (g := gb278) (o := .cells #[.string ((rd_T107 l0_3 x69_3).f0), .int .i64 ((rd_T107 l0_3 x69_3).f1.f0), .int .i64 ((rd_T107 l0_3 x69_3).f1.f1), .slice A277_3 ((rd_T107 l0_3 x69_3).f2).length c277_3] 107 (0, 0)) (by (with_reducible repeat (first | refine blk_drewN ?_ _ | refine blk_drew ?_ | refine blk_alloc ?_ _)); exact BK278.out) hb)
                  replace HB := Aside0.mk (below_step (by repeat (first | (with_reducible first | exact HB.out | apply below_alloc | apply pw_below_drewN | apply below_drew1 | refine below_set ?_ GE266.out | refine below_set ?_ GE278.out) | exact HB.out)) hb)
                  (try clear hb)
                  (try clear hb2)
                  (try clear hk)
                  (try clear hi)
                  refine hK.out _ _ ⟨(blk_cell BK278.out 0).trans rfl, (blk_cell BK278.out 1).trans rfl, (blk_cell BK278.out 2).trans rfl, (blk_cell BK278.out 3).trans rfl, (blk_cell BK266.out 0).trans rfl, (blk_cell BK266.out 1).trans rfl, (blk_cell BK266.out 2).trans rfl, (blk_cell BK266.out 3).trans rfl, ((HB.out.cell (World.block_lt_of_cell? w _ hw280_0)).trans hw280_0), ((HB.out.cell (World.block_lt_of_cell? w _ hw280_1)).trans hw280_1), ((HB.out.cell (World.block_lt_of_cell? w _ hw280_2)).trans hw280_2), ((HB.out.cell (World.block_lt_of_cell? w _ hw280_3)).trans hw280_3)⟩ (fun hHeld => ?_)
                  clear hK K
                  refine nm ?_; refine pu 25 99 ?_
                  refine dn ?_
                  try go_wp2
                  go_meet
                  case rel => exact ⟨_, (t281), (by first | rfl | (simp; done) | (simp [*]; done)), H', ⟨by have := HJ1.out; have := HK2.out; have := HK3.out; first | omega | exact Nat.le_refl _⟩, ⟨by (with_reducible repeat (first | refine blk_drewN ?_ _ | refine blk_drew ?_ | refine blk_alloc ?_ _)); exact BK266.out⟩, ⟨by (with_reducible repeat (first | refine blk_drewN ?_ _ | refine blk_drew ?_ | refine blk_alloc ?_ _)); exact BK278.out⟩, ⟨by repeat (first | (with_reducible first | exact HB.out | apply below_alloc | apply pw_below_drewN | apply below_drew1 | refine below_set ?_ GE266.out | refine below_set ?_ GE278.out) | exact HB.out)⟩⟩
                 ·rw [if_neg c80] at H
                  have c80b0 : (Op.bytesLess (((rd_T107 l0_3 (ji77)).f0).toList) (((rd_T107 l0_3 x69_3).f0).toList)) = false := by simpa using c80
                  clear c80
                  have H' := Aside0.mk H
                  clear H
                  try go_wp2
                  have n0_ : Aside0 (((((w71.setCell ⟨gb278, 0, none⟩ (.string ((rd_T107 l0_3 x69_3).f0))).setCell ⟨gb278, 1, none⟩ (.int .i64 ((rd_T107 l0_3 x69_3).f1.f0))).setCell ⟨gb278, 2, none⟩ (.int .i64 ((rd_T107 l0_3 x69_3).f1.f1))).setCell ⟨gb278, 3, none⟩ (.slice A277_3 ((rd_T107 l0_3 x69_3).f2).length c277_3)).heap[gb266]? = some (.cells #[.int .i64 a0_0, .int .i64 a0_1, .slice A0_2 l0_2.length c0_2, .slice (some ad277) l0_3.length c0_3] 34 (0, 0))) := ⟨by (with_reducible repeat (first | refine blk_drewN ?_ _ | refine blk_drew ?_ | refine blk_alloc ?_ _)); refine blk_far ?_ NB266_278.out _; (with_reducible repeat (first | refine blk_drewN ?_ _ | refine blk_drew ?_ | refine blk_alloc ?_ _)); refine blk_far ?_ NB266_278.out _; (with_reducible repeat (first | refine blk_drewN ?_ _ | refine blk_drew ?_ | refine blk_alloc ?_ _)); refine blk_far ?_ NB266_278.out _; (with_reducible repeat (first | refine blk_drewN ?_ _ | refine blk_drew ?_ | refine blk_alloc ?_ _)); refine blk_far ?_ NB266_278.out _; (with_reducible repeat (first | refine blk_drewN ?_ _ | refine blk_drew ?_ | refine blk_alloc ?_ _)); exact BK266.out⟩
                  have n1_ : Aside0 (((((w71.setCell ⟨gb278, 0, none⟩ (.string ((rd_T107 l0_3 x69_3).f0))).setCell ⟨gb278, 1, none⟩ (.int .i64 ((rd_T107 l0_3 x69_3).f1.f0))).setCell ⟨gb278, 2, none⟩ (.int .i64 ((rd_T107 l0_3 x69_3).f1.f1))).setCell ⟨gb278, 3, none⟩ (.slice A277_3 ((rd_T107 l0_3 x69_3).f2).length c277_3)).heap[gb278]? = some (.cells #[.string ((rd_T107 l0_3 x69_3).f0), .int .i64 ((rd_T107 l0_3 x69_3).f1.f0), .int .i64 ((rd_T107 l0_3 x69_3).f1.f1), .slice A277_3 ((rd_T107 l0_3 x69_3).f2).length c277_3] 107 (0, 0))) := ⟨by (with_reducible repeat (first | refine blk_drewN ?_ _ | refine blk_drew ?_ | refine blk_alloc ?_ _)); refine blk_put (cs := #[.string ((rd_T107 l0_3 x69_3).f0), .int .i64 ((rd_T107 l0_3 x69_3).f1.f0), .int .i64 ((rd_T107 l0_3 x69_3).f1.f1), .slice none 0 0]) ?_ 3 _ rfl; (with_reducible repeat (first | refine blk_drewN ?_ _ | refine blk_drew ?_ | refine blk_alloc ?_ _)); refine blk_put (cs := #[.string ((rd_T107 l0_3 x69_3).f0), .int .i64 ((rd_T107 l0_3 x69_3).f1.f0), .int .i64 0, .slice none 0 0]) ?_ 2 _ rfl; (with_reducible repeat (first | refine blk_drewN ?_ _ | refine blk_drew ?_ | refine blk_alloc ?_ _)); refine blk_put (cs := #[.string ((rd_T107 l0_3 x69_3).f0), .int .i64 0, .int .i64 0, .slice none 0 0]) ?_ 1 _ rfl; (with_reducible repeat (first | refine blk_drewN ?_ _ | refine blk_drew ?_ | refine blk_alloc ?_ _)); refine blk_put (cs := #[.string (⟨#[]⟩ : ByteArray), .int .i64 0, .int .i64 0, .slice none 0 0]) ?_ 0 _ rfl; (with_reducible repeat (first | refine blk_drewN ?_ _ | refine blk_drew ?_ | refine blk_alloc ?_ _)); exact BK278.out⟩
                  have n2_ : Aside0 (Below w.heap.size w ((((w71.setCell ⟨gb278, 0, none⟩ (.string ((rd_T107 l0_3 x69_3).f0))).setCell ⟨gb278, 1, none⟩ (.int .i64 ((rd_T107 l0_3 x69_3).f1.f0))).setCell ⟨gb278, 2, none⟩ (.int .i64 ((rd_T107 l0_3 x69_3).f1.f1))).setCell ⟨gb278, 3, none⟩ (.slice A277_3 ((rd_T107 l0_3 x69_3).f2).length c277_3))) := ⟨by repeat (first | (with_reducible first | exact HB.out | apply below_alloc | apply pw_below_drewN | apply below_drew1 | refine below_set ?_ GE266.out | refine below_set ?_ GE278.out) | exact HB.out)⟩
                  (try clear BK266)
                  (try clear BK278)
                  (try clear HB)
                  generalize ((((w71.setCell ⟨gb278, 0, none⟩ (.string ((rd_T107 l0_3 x69_3).f0))).setCell ⟨gb278, 1, none⟩ (.int .i64 ((rd_T107 l0_3 x69_3).f1.f0))).setCell ⟨gb278, 2, none⟩ (.int .i64 ((rd_T107 l0_3 x69_3).f1.f1))).setCell ⟨gb278, 3, none⟩ (.slice A277_3 ((rd_T107 l0_3 x69_3).f2).length c277_3)) = w86 at n0_ n1_ n2_ ⊢
                  have BK266 := n0_
                  have BK278 := n1_
                  have HB := n2_
                  clear n0_ n1_ n2_
                  replace BK266 := Aside0.mk (blk_drew BK266.out)
                  replace BK278 := Aside0.mk (blk_drew BK278.out)
                  replace HB := Aside0.mk (below_drew1 HB.out)
                  have p280 := od (0 ≤ ((ji77) : Int))
                  have q280 := od ((ji77) < (l0_3.length : Int))
                  obtain ⟨ad280, A280_3, c280_3, e280, hx280_0, hx280_1, hx280_2, hx280_3, hl280_3, hi280_3⟩ := at_T107 HR0_3.out (ji77) p280 q280
                  have hw280_3 := hx280_3
                  have hw280_2 := hx280_2
                  have hw280_1 := hx280_1
                  have hw280_0 := hx280_0
                  obtain rfl : ad277 = ad280 := (by injection e280)
                  replace hx280_0 := (HB.out.cell (World.block_lt_of_cell? w _ hx280_0)).trans hx280_0
                  replace hx280_1 := (HB.out.cell (World.block_lt_of_cell? w _ hx280_1)).trans hx280_1
                  replace hx280_2 := (HB.out.cell (World.block_lt_of_cell? w _ hx280_2)).trans hx280_2
                  replace hx280_3 := (HB.out.cell (World.block_lt_of_cell? w _ hx280_3)).trans hx280_3
                  have HR280_3 := Aside0.mk hi280_3
                  have HC280_3 := Aside0.mk hl280_3
                  clear hi280_3 hl280_3
                  replace p280 := eq_true p280
                  replace q280 := eq_true q280
                  refine start_ (n := 26) (S := fun w' => w'.cell? ⟨gb278, 0, none⟩ = some (.string ((rd_T107 l0_3 x69_3).f0)) ∧ w'.cell? ⟨gb278, 1, none⟩ = some (.int .i64 ((rd_T107 l0_3 x69_3).f1.f0)) ∧ w'.cell? ⟨gb278, 2, none⟩ = some (.int .i64 ((rd_T107 l0_3 x69_3).f1.f1)) ∧ w'.cell? ⟨gb278, 3, none⟩ = some (.slice A277_3 ((rd_T107 l0_3 x69_3).f2).length c277_3) ∧ w'.cell? ⟨gb266, 0, none⟩ = some (.int .i64 a0_0) ∧ w'.cell? ⟨gb266, 1, none⟩ = some (.int .i64 a0_1) ∧ w'.cell? ⟨gb266, 2, none⟩ = some (.slice A0_2 l0_2.length c0_2) ∧ w'.cell? ⟨gb266, 3, none⟩ = some (.slice (some ad277) l0_3.length c0_3) ∧ w'.cell? (ad277.add (((ji77)).toNat * 4)) = some (.string ((rd_T107 l0_3 (ji77)).f0)) ∧ w'.cell? ⟨(ad277.add (((ji77)).toNat * 4)).block, (ad277.add (((ji77)).toNat * 4)).off + 1, none⟩ = some (.int .i64 ((rd_T107 l0_3 (ji77)).f1.f0)) ∧ w'.cell? ⟨(ad277.add (((ji77)).toNat * 4)).block, (ad277.add (((ji77)).toNat * 4)).off + 2, none⟩ = some (.int .i64 ((rd_T107 l0_3 (ji77)).f1.f1)) ∧ w'.cell? ⟨(ad277.add (((ji77)).toNat * 4)).block, (ad277.add (((ji77)).toNat * 4)).off + 3, none⟩ = some (.slice A280_3 ((rd_T107 l0_3 (ji77)).f2).length c280_3)) (ds := []) _ (by kernel_rfl) rfl rfl ⟨(blk_cell BK278.out 0).trans rfl, (blk_cell BK278.out 1).trans rfl, (blk_cell BK278.out 2).trans rfl, (blk_cell BK278.out 3).trans rfl, (blk_cell BK266.out 0).trans rfl, (blk_cell BK266.out 1).trans rfl, (blk_cell BK266.out 2).trans rfl, (blk_cell BK266.out 3).trans rfl, ((HB.out.cell (World.block_lt_of_cell? w _ hw280_0)).trans hw280_0), ((HB.out.cell (World.block_lt_of_cell? w _ hw280_1)).trans hw280_1), ((HB.out.cell (World.block_lt_of_cell? w _ hw280_2)).trans hw280_2), ((HB.out.cell (World.block_lt_of_cell? w _ hw280_3)).trans hw280_3)⟩ (fun hHeld => ?_); refine with_tabW impl_StreamOk.tab12 impl_StreamOk.bits12 (fun HT_ HW_ => ?_)
                  generalize w86.drew = w87 at BK266 BK278 HB HR280_3 hx280_0 hx280_1 hx280_2 hx280_3 hHeld ⊢
                  refine tk 0 74 ?_
                  refine on 1 (some 75) (fun K hK => ?_)
                  refine ca Try.func77 (impl_groupOk.calls k3 ((rd_T107 l0_3 x69_3).f0) ((rd_T107 l0_3 x69_3).f1.f0) ((rd_T107 l0_3 x69_3).f1.f1) _ _ ((rd_T107 l0_3 x69_3).f2) true _ ?side1 ?side2 A74.out) ?_
                  (case side1 => repeat (first | exact (Kd.C_below HR277_3.out HB.out) | (with_reducible refine Kd.C_alloc ?_ _) | (with_reducible refine Kd.C_drewN ?_ _) | (with_reducible refine Kd.C_drew ?_)))
                  (case side2 => exact HC277_3.out)
                  rintro e w88 ⟨rfl, hb⟩
                  refine ⟨_, rfl, ?_⟩
                  replace BK266 := Aside0.mk (blk_below (g := gb266) (o := .cells #[.int .i64 a0_0, .int .i64 a0_1, .slice A0_2 l0_2.length c0_2, .slice (some ad277) l0_3.length c0_3] 34 (0, 0)) (by (with_reducible repeat (first | refine blk_drewN ?_ _ | refine blk_drew ?_ | refine blk_alloc ?_ _)); exact BK266.out) hb)
                  replace BK278 := Aside0.mk (blk_below (g := gb278) (o := .cells #[.string ((rd_T107 l0_3 x69_3).f0), .int .i64 ((rd_T107 l0_3 x69_3).f1.f0), .int .i64 ((rd_T107 l0_3 x69_3).f1.f1), .slice A277_3 ((rd_T107 l0_3 x69_3).f2).length c277_3] 107 (0, 0)) (by (with_reducible repeat (first | refine blk_drewN ?_ _ | refine blk_drew ?_ | refine blk_alloc ?_ _)); exact BK278.out) hb)
                  replace HB := Aside0.mk (below_step (by repeat (first | (with_reducible first | exact HB.out | apply below_alloc | apply pw_below_drewN | apply below_drew1 | refine below_set ?_ GE266.out | refine below_set ?_ GE278.out) | exact HB.out)) hb)
                  (try clear hb)
                  (try clear hb2)
                  (try clear hk)
                  (try clear hi)
                  refine hK.out _ _ ⟨(blk_cell BK278.out 0).trans rfl, (blk_cell BK278.out 1).trans rfl, (blk_cell BK278.out 2).trans rfl, (blk_cell BK278.out 3).trans rfl, (blk_cell BK266.out 0).trans rfl, (blk_cell BK266.out 1).trans rfl, (blk_cell BK266.out 2).trans rfl, (blk_cell BK266.out 3).trans rfl, ((HB.out.cell (World.block_lt_of_cell? w _ hw280_0)).trans hw280_0), ((HB.out.cell (World.block_lt_of_cell? w _ hw280_1)).trans hw280_1), ((HB.out.cell (World.block_lt_of_cell? w _ hw280_2)).trans hw280_2), ((HB.out.cell (World.block_lt_of_cell? w _ hw280_3)).trans hw280_3)⟩ (fun hHeld => ?_)
                  clear hK K
                  refine nm ?_; refine pu 2 76 ?_; refine pu 3 77 ?_; refine pu 4 78 ?_; refine pu 5 79 ?_; refine pu 6 80 ?_; refine pu 7 81 ?_; refine pu 9 83 ?_; refine pu 10 84 ?_; refine pu 14 88 ?_; refine tk 8 82 ?_; refine pu 11 85 ?_; refine pu 12 86 ?_; refine tk 13 87 ?_; refine tk 15 89 ?_; refine pu 16 90 ?_; refine pu 17 91 ?_; refine pu 18 92 ?_; refine pu 19 93 ?_; refine of 20 94 ?_; refine of 21 95 ?_; refine of 22 96 ?_; refine of 23 97 ?_; refine of 24 98 ?_; refine pu 25 99 ?_
                  refine dn ?_
                  try go_wp2
                  go_meet
                  case rel => exact ⟨_, (true), (by first | rfl | (simp; done) | (simp [*]; done)), H', ⟨by have := HJ1.out; have := HK2.out; have := HK3.out; first | omega | exact Nat.le_refl _⟩, ⟨by (with_reducible repeat (first | refine blk_drewN ?_ _ | refine blk_drew ?_ | refine blk_alloc ?_ _)); exact BK266.out⟩, ⟨by (with_reducible repeat (first | refine blk_drewN ?_ _ | refine blk_drew ?_ | refine blk_alloc ?_ _)); exact BK278.out⟩, ⟨by repeat (first | (with_reducible first | exact HB.out | apply below_alloc | apply pw_below_drewN | apply below_drew1 | refine below_set ?_ GE266.out | refine below_set ?_ GE278.out) | exact HB.out)⟩⟩
                ·rw [if_neg c79] at H
                 exact absurd H (by simp)
               ·rw [if_neg c78] at H
                exact absurd H (by simp)
              ·rw [if_neg c76] at H
               have c76b0 : decide (0 < x69_3) = false := decide_eq_false c76
               clear c76
               (first | rw [c76b0] | rw [c76b1] | (simp only [i64_w, i32_w]; rw [c76b0]) | rw [c76b2] | skip)
               replace H := Option.bind_eq_some_iff.mp H
               obtain ⟨t282, A890, H⟩ := H
               replace H : (impl_StreamOk.j4 k3 l0_3 (l0_3.length : Int) x69_3 t282 a0_0 a0_1 l0_2 l0_3) = some r := H
               have A89 := Aside0.mk A890
               clear A890
               have H' := Aside0.mk H
               clear H
               try go_wp2
               have n0_ : Aside0 (((((w71.setCell ⟨gb278, 0, none⟩ (.string ((rd_T107 l0_3 x69_3).f0))).setCell ⟨gb278, 1, none⟩ (.int .i64 ((rd_T107 l0_3 x69_3).f1.f0))).setCell ⟨gb278, 2, none⟩ (.int .i64 ((rd_T107 l0_3 x69_3).f1.f1))).setCell ⟨gb278, 3, none⟩ (.slice A277_3 ((rd_T107 l0_3 x69_3).f2).length c277_3)).heap[gb266]? = some (.cells #[.int .i64 a0_0, .int .i64 a0_1, .slice A0_2 l0_2.length c0_2, .slice (some ad277) l0_3.length c0_3] 34 (0, 0))) := ⟨by (with_reducible repeat (first | refine blk_drewN ?_ _ | refine blk_drew ?_ | refine blk_alloc ?_ _)); refine blk_far ?_ NB266_278.out _; (with_reducible repeat (first | refine blk_drewN ?_ _ | refine blk_drew ?_ | refine blk_alloc ?_ _)); refine blk_far ?_ NB266_278.out _; (with_reducible repeat (first | refine blk_drewN ?_ _ | refine blk_drew ?_ | refine blk_alloc ?_ _)); refine blk_far ?_ NB266_278.out _; (with_reducible repeat (first | refine blk_drewN ?_ _ | refine blk_drew ?_ | refine blk_alloc ?_ _)); refine blk_far ?_ NB266_278.out _; (with_reducible repeat (first | refine blk_drewN ?_ _ | refine blk_drew ?_ | refine blk_alloc ?_ _)); exact BK266.out⟩
               have n1_ : Aside0 (((((w71.setCell ⟨gb278, 0, none⟩ (.string ((rd_T107 l0_3 x69_3).f0))).setCell ⟨gb278, 1, none⟩ (.int .i64 ((rd_T107 l0_3 x69_3).f1.f0))).setCell ⟨gb278, 2, none⟩ (.int .i64 ((rd_T107 l0_3 x69_3).f1.f1))).setCell ⟨gb278, 3, none⟩ (.slice A277_3 ((rd_T107 l0_3 x69_3).f2).length c277_3)).heap[gb278]? = some (.cells #[.string ((rd_T107 l0_3 x69_3).f0), .int .i64 ((rd_T107 l0_3 x69_3).f1.f0), .int .i64 ((rd_T107 l0_3 x69_3).f1.f1), .slice A277_3 ((rd_T107 l0_3 x69_3).f2).length c277_3] 107 (0, 0))) := ⟨by (with_reducible repeat (first | refine blk_drewN ?_ _ | refine blk_drew ?_ | refine blk_alloc ?_ _)); refine blk_put (cs := #[.string ((rd_T107 l0_3 x69_3).f0), .int .i64 ((rd_T107 l0_3 x69_3).f1.f0), .int .i64 ((rd_T107 l0_3 x69_3).f1.f1), .slice none 0 0]) ?_ 3 _ rfl; (with_reducible repeat (first | refine blk_drewN ?_ _ | refine blk_drew ?_ | refine blk_alloc ?_ _)); refine blk_put (cs := #[.string ((rd_T107 l0_3 x69_3).f0), .int .i64 ((rd_T107 l0_3 x69_3).f1.f0), .int .i64 0, .slice none 0 0]) ?_ 2 _ rfl; (with_reducible repeat (first | refine blk_drewN ?_ _ | refine blk_drew ?_ | refine blk_alloc ?_ _)); refine blk_put (cs := #[.string ((rd_T107 l0_3 x69_3).f0), .int .i64 0, .int .i64 0, .slice none 0 0]) ?_ 1 _ rfl; (with_reducible repeat (first | refine blk_drewN ?_ _ | refine blk_drew ?_ | refine blk_alloc ?_ _)); refine blk_put (cs := #[.string (⟨#[]⟩ : ByteArray), .int .i64 0, .int .i64 0, .slice none 0 0]) ?_ 0 _ rfl; (with_reducible repeat (first | refine blk_drewN ?_ _ | refine blk_drew ?_ | refine blk_alloc ?_ _)); exact BK278.out⟩
               have n2_ : Aside0 (Below w.heap.size w ((((w71.setCell ⟨gb278, 0, none⟩ (.string ((rd_T107 l0_3 x69_3).f0))).setCell ⟨gb278, 1, none⟩ (.int .i64 ((rd_T107 l0_3 x69_3).f1.f0))).setCell ⟨gb278, 2, none⟩ (.int .i64 ((rd_T107 l0_3 x69_3).f1.f1))).setCell ⟨gb278, 3, none⟩ (.slice A277_3 ((rd_T107 l0_3 x69_3).f2).length c277_3))) := ⟨by repeat (first | (with_reducible first | exact HB.out | apply below_alloc | apply pw_below_drewN | apply below_drew1 | refine below_set ?_ GE266.out | refine below_set ?_ GE278.out) | exact HB.out)⟩
               (try clear BK266)
               (try clear BK278)
               (try clear HB)
               generalize ((((w71.setCell ⟨gb278, 0, none⟩ (.string ((rd_T107 l0_3 x69_3).f0))).setCell ⟨gb278, 1, none⟩ (.int .i64 ((rd_T107 l0_3 x69_3).f1.f0))).setCell ⟨gb278, 2, none⟩ (.int .i64 ((rd_T107 l0_3 x69_3).f1.f1))).setCell ⟨gb278, 3, none⟩ (.slice A277_3 ((rd_T107 l0_3 x69_3).f2).length c277_3)) = w90 at n0_ n1_ n2_ ⊢
               have BK266 := n0_
               have BK278 := n1_
               have HB := n2_
               clear n0_ n1_ n2_
               replace BK266 := Aside0.mk (blk_drew BK266.out)
               replace BK278 := Aside0.mk (blk_drew BK278.out)
               replace HB := Aside0.mk (below_drew1 HB.out)
               refine start_ (n := 26) (S := fun w' => w'.cell? ⟨gb278, 0, none⟩ = some (.string ((rd_T107 l0_3 x69_3).f0)) ∧ w'.cell? ⟨gb278, 1, none⟩ = some (.int .i64 ((rd_T107 l0_3 x69_3).f1.f0)) ∧ w'.cell? ⟨gb278, 2, none⟩ = some (.int .i64 ((rd_T107 l0_3 x69_3).f1.f1)) ∧ w'.cell? ⟨gb278, 3, none⟩ = some (.slice A277_3 ((rd_T107 l0_3 x69_3).f2).length c277_3) ∧ w'.cell? ⟨gb266, 0, none⟩ = some (.int .i64 a0_0) ∧ w'.cell? ⟨gb266, 1, none⟩ = some (.int .i64 a0_1) ∧ w'.cell? ⟨gb266, 2, none⟩ = some (.slice A0_2 l0_2.length c0_2) ∧ w'.cell? ⟨gb266, 3, none⟩ = some (.slice (some ad277) l0_3.length c0_3)) (ds := []) _ (by kernel_rfl) rfl rfl ⟨(blk_cell BK278.out 0).trans rfl, (blk_cell BK278.out 1).trans rfl, (blk_cell BK278.out 2).trans rfl, (blk_cell BK278.out 3).trans rfl, (blk_cell BK266.out 0).trans rfl, (blk_cell BK266.out 1).trans rfl, (blk_cell BK266.out 2).trans rfl, (blk_cell BK266.out 3).trans rfl⟩ (fun hHeld => ?_); refine with_tabW impl_StreamOk.tab12 impl_StreamOk.bits12 (fun HT_ HW_ => ?_)
               generalize w90.drew = w91 at BK266 BK278 HB hHeld ⊢
               refine tk 0 74 ?_
               refine on 1 (some 75) (fun K hK => ?_)
               refine ca Try.func77 (impl_groupOk.calls k3 ((rd_T107 l0_3 x69_3).f0) ((rd_T107 l0_3 x69_3).f1.f0) ((rd_T107 l0_3 x69_3).f1.f1) _ _ ((rd_T107 l0_3 x69_3).f2) true _ ?side1 ?side2 A74.out) ?_
               (case side1 => repeat (first | exact (Kd.C_below HR277_3.out HB.out) | (with_reducible refine Kd.C_alloc ?_ _) | (with_reducible refine Kd.C_drewN ?_ _) | (with_reducible refine Kd.C_drew ?_)))
               (case side2 => exact HC277_3.out)
               rintro e w92 ⟨rfl, hb⟩
               refine ⟨_, rfl, ?_⟩
               replace BK266 := Aside0.mk (blk_below (g := gb266) (o := .cells #[.int .i64 a0_0, .int .i64 a0_1, .slice A0_2 l0_2.length c0_2, .slice (some ad277) l0_3.length c0_3] 34 (0, 0)) (by (with_reducible repeat (first | refine blk_drewN ?_ _ | refine blk_drew ?_ | refine blk_alloc ?_ _)); exact BK266.out) hb)
               replace BK278 := Aside0.mk (blk_below (g := gb278) (o := .cells #[.string ((rd_T107 l0_3 x69_3).f0), .int .i64 ((rd_T107 l0_3 x69_3).f1.f0), .int .i64 ((rd_T107 l0_3 x69_3).f1.f1), .slice A277_3 ((rd_T107 l0_3 x69_3).f2).length c277_3] 107 (0, 0)) (by (with_reducible repeat (first | refine blk_drewN ?_ _ | refine blk_drew ?_ | refine blk_alloc ?_ _)); exact BK278.out) hb)
               replace HB := Aside0.mk (below_step (by repeat (first | (with_reducible first | exact HB.out | apply below_alloc | apply pw_below_drewN | apply below_drew1 | refine below_set ?_ GE266.out | refine below_set ?_ GE278.out) | exact HB.out)) hb)
               (try clear hb)
               (try clear hb2)
               (try clear hk)
               (try clear hi)
               refine hK.out _ _ ⟨(blk_cell BK278.out 0).trans rfl, (blk_cell BK278.out 1).trans rfl, (blk_cell BK278.out 2).trans rfl, (blk_cell BK278.out 3).trans rfl, (blk_cell BK266.out 0).trans rfl, (blk_cell BK266.out 1).trans rfl, (blk_cell BK266.out 2).trans rfl, (blk_cell BK266.out 3).trans rfl⟩ (fun hHeld => ?_)
               clear hK K
               refine nm ?_; refine pu 2 76 ?_; refine pu 3 77 ?_; refine pu 4 78 ?_; refine pu 5 79 ?_; refine pu 6 80 ?_; refine of 7 81 ?_; refine of 8 82 ?_; refine of 9 83 ?_; refine of 10 84 ?_; refine of 11 85 ?_; refine of 12 86 ?_; refine of 13 87 ?_; refine of 14 88 ?_; refine of 15 89 ?_; refine of 16 90 ?_; refine pu 17 91 ?_; refine pu 18 92 ?_; refine pu 19 93 ?_; refine pu 20 94 ?_; refine pu 22 96 ?_; refine tk 21 95 ?_; refine tk 23 97 ?_
               refine on 24 (some 98) (fun K hK => ?_)
               refine ca Try.func33 (impl_IdLess.calls k3 a0_0 a0_1 ((rd_T107 l0_3 x69_3).f1.f0) ((rd_T107 l0_3 x69_3).f1.f1) t282 _ A89.out) ?_
               rintro e w93 ⟨rfl, hb⟩
               refine ⟨_, rfl, ?_⟩
               replace BK266 := Aside0.mk (blk_below (g := gb266) (o := .cells #[.int .i64 a0_0, .int .i64 a0_1, .slice A0_2 l0_2.length c0_2, .slice (some ad277) l0_3.length c0_3] 34 (0, 0)) (by (with_reducible repeat (first | refine blk_drewN ?_ _ | refine blk_drew ?_ | refine blk_alloc ?_ _)); exact BK266.out) hb)
               replace BK278 := Aside0.mk (blk_below (g := gb278) (o := .cells #[.string ((rd_T107 l0_3 x69_3).f0), .int .i64 ((rd_T107 l0_3 x69_3).f1.f0), .int .i64 ((rd_T107 l0_3 x69_3).f1.f1), .slice A277_3 ((rd_T107 l0_3 x69_3).f2).length c277_3] 107 (0, 0)) (by (with_reducible repeat (first | refine blk_drewN ?_ _ | refine blk_drew ?_ | refine blk_alloc ?_ _)); exact BK278.out) hb)
               replace HB := Aside0.mk (below_step (by repeat (first | (with_reducible first | exact HB.out | apply below_alloc | apply pw_below_drewN | apply below_drew1 | refine below_set ?_ GE266.out | refine below_set ?_ GE278.out) | exact HB.out)) hb)
               (try clear hb)
               (try clear hb2)
               (try clear hk)
               (try clear hi)
               refine hK.out _ _ ⟨(blk_cell BK278.out 0).trans rfl, (blk_cell BK278.out 1).trans rfl, (blk_cell BK278.out 2).trans rfl, (blk_cell BK278.out 3).trans rfl, (blk_cell BK266.out 0).trans rfl, (blk_cell BK266.out 1).trans rfl, (blk_cell BK266.out 2).trans rfl, (blk_cell BK266.out 3).trans rfl⟩ (fun hHeld => ?_)
               clear hK K
               refine nm ?_; refine pu 25 99 ?_
               refine dn ?_
               try go_wp2
               go_meet
               case rel => exact ⟨_, (t282), (by first | rfl | (simp; done) | (simp [*]; done)), H', ⟨by have := HJ1.out; have := HK2.out; have := HK3.out; first | omega | exact Nat.le_refl _⟩, ⟨by (with_reducible repeat (first | refine blk_drewN ?_ _ | refine blk_drew ?_ | refine blk_alloc ?_ _)); exact BK266.out⟩, ⟨by (with_reducible repeat (first | refine blk_drewN ?_ _ | refine blk_drew ?_ | refine blk_alloc ?_ _)); exact BK278.out⟩, ⟨by repeat (first | (with_reducible first | exact HB.out | apply below_alloc | apply pw_below_drewN | apply below_drew1 | refine below_set ?_ GE266.out | refine below_set ?_ GE278.out) | exact HB.out)⟩⟩
             ·replace c75 := Bool.eq_false_iff.mpr c75
              subst c75
              have H1 : (impl_StreamOk.j4 k3 l0_3 (l0_3.length : Int) x69_3 true a0_0 a0_1 l0_2 l0_3) = some r := by rw [if_neg (show ¬ (false = true) by decide)] at H; exact H
              clear H
              have H := H1
              clear H1
              have H' := Aside0.mk H
              clear H
              try go_wp2
              have n0_ : Aside0 (((((w71.setCell ⟨gb278, 0, none⟩ (.string ((rd_T107 l0_3 x69_3).f0))).setCell ⟨gb278, 1, none⟩ (.int .i64 ((rd_T107 l0_3 x69_3).f1.f0))).setCell ⟨gb278, 2, none⟩ (.int .i64 ((rd_T107 l0_3 x69_3).f1.f1))).setCell ⟨gb278, 3, none⟩ (.slice A277_3 ((rd_T107 l0_3 x69_3).f2).length c277_3)).heap[gb266]? = some (.cells #[.int .i64 a0_0, .int .i64 a0_1, .slice A0_2 l0_2.length c0_2, .slice (some ad277) l0_3.length c0_3] 34 (0, 0))) := ⟨by (with_reducible repeat (first | refine blk_drewN ?_ _ | refine blk_drew ?_ | refine blk_alloc ?_ _)); refine blk_far ?_ NB266_278.out _; (with_reducible repeat (first | refine blk_drewN ?_ _ | refine blk_drew ?_ | refine blk_alloc ?_ _)); refine blk_far ?_ NB266_278.out _; (with_reducible repeat (first | refine blk_drewN ?_ _ | refine blk_drew ?_ | refine blk_alloc ?_ _)); refine blk_far ?_ NB266_278.out _; (with_reducible repeat (first | refine blk_drewN ?_ _ | refine blk_drew ?_ | refine blk_alloc ?_ _)); refine blk_far ?_ NB266_278.out _; (with_reducible repeat (first | refine blk_drewN ?_ _ | refine blk_drew ?_ | refine blk_alloc ?_ _)); exact BK266.out⟩
              have n1_ : Aside0 (((((w71.setCell ⟨gb278, 0, none⟩ (.string ((rd_T107 l0_3 x69_3).f0))).setCell ⟨gb278, 1, none⟩ (.int .i64 ((rd_T107 l0_3 x69_3).f1.f0))).setCell ⟨gb278, 2, none⟩ (.int .i64 ((rd_T107 l0_3 x69_3).f1.f1))).setCell ⟨gb278, 3, none⟩ (.slice A277_3 ((rd_T107 l0_3 x69_3).f2).length c277_3)).heap[gb278]? = some (.cells #[.string ((rd_T107 l0_3 x69_3).f0), .int .i64 ((rd_T107 l0_3 x69_3).f1.f0), .int .i64 ((rd_T107 l0_3 x69_3).f1.f1), .slice A277_3 ((rd_T107 l0_3 x69_3).f2).length c277_3] 107 (0, 0))) := ⟨by (with_reducible repeat (first | refine blk_drewN ?_ _ | refine blk_drew ?_ | refine blk_alloc ?_ _)); refine blk_put (cs := #[.string ((rd_T107 l0_3 x69_3).f0), .int .i64 ((rd_T107 l0_3 x69_3).f1.f0), .int .i64 ((rd_T107 l0_3 x69_3).f1.f1), .slice none 0 0]) ?_ 3 _ rfl; (with_reducible repeat (first | refine blk_drewN ?_ _ | refine blk_drew ?_ | refine blk_alloc ?_ _)); refine blk_put (cs := #[.string ((rd_T107 l0_3 x69_3).f0), .int .i64 ((rd_T107 l0_3 x69_3).f1.f0), .int .i64 0, .slice none 0 0]) ?_ 2 _ rfl; (with_reducible repeat (first | refine blk_drewN ?_ _ | refine blk_drew ?_ | refine blk_alloc ?_ _)); refine blk_put (cs := #[.string ((rd_T107 l0_3 x69_3).f0), .int .i64 0, .int .i64 0, .slice none 0 0]) ?_ 1 _ rfl; (with_reducible repeat (first | refine blk_drewN ?_ _ | refine blk_drew ?_ | refine blk_alloc ?_ _)); refine blk_put (cs := #[.string (⟨#[]⟩ : ByteArray), .int .i64 0, .int .i64 0, .slice none 0 0]) ?_ 0 _ rfl; (with_reducible repeat (first | refine blk_drewN ?_ _ | refine blk_drew ?_ | refine blk_alloc ?_ _)); exact BK278.out⟩
              have n2_ : Aside0 (Below w.heap.size w ((((w71.setCell ⟨gb278, 0, none⟩ (.string ((rd_T107 l0_3 x69_3).f0))).setCell ⟨gb278, 1, none⟩ (.int .i64 ((rd_T107 l0_3 x69_3).f1.f0))).setCell ⟨gb278, 2, none⟩ (.int .i64 ((rd_T107 l0_3 x69_3).f1.f1))).setCell ⟨gb278, 3, none⟩ (.slice A277_3 ((rd_T107 l0_3 x69_3).f2).length c277_3))) := ⟨by repeat (first | (with_reducible first | exact HB.out | apply below_alloc | apply pw_below_drewN | apply below_drew1 | refine below_set ?_ GE266.out | refine below_set ?_ GE278.out) | exact HB.out)⟩
              (try clear BK266)
              (try clear BK278)
              (try clear HB)
              generalize ((((w71.setCell ⟨gb278, 0, none⟩ (.string ((rd_T107 l0_3 x69_3).f0))).setCell ⟨gb278, 1, none⟩ (.int .i64 ((rd_T107 l0_3 x69_3).f1.f0))).setCell ⟨gb278, 2, none⟩ (.int .i64 ((rd_T107 l0_3 x69_3).f1.f1))).setCell ⟨gb278, 3, none⟩ (.slice A277_3 ((rd_T107 l0_3 x69_3).f2).length c277_3)) = w94 at n0_ n1_ n2_ ⊢
              have BK266 := n0_
              have BK278 := n1_
              have HB := n2_
              clear n0_ n1_ n2_
              replace BK266 := Aside0.mk (blk_drew BK266.out)
              replace BK278 := Aside0.mk (blk_drew BK278.out)
              replace HB := Aside0.mk (below_drew1 HB.out)
              refine start_ (n := 26) (S := fun w' => w'.cell? ⟨gb278, 0, none⟩ = some (.string ((rd_T107 l0_3 x69_3).f0)) ∧ w'.cell? ⟨gb278, 1, none⟩ = some (.int .i64 ((rd_T107 l0_3 x69_3).f1.f0)) ∧ w'.cell? ⟨gb278, 2, none⟩ = some (.int .i64 ((rd_T107 l0_3 x69_3).f1.f1)) ∧ w'.cell? ⟨gb278, 3, none⟩ = some (.slice A277_3 ((rd_T107 l0_3 x69_3).f2).length c277_3)) (ds := []) _ (by kernel_rfl) rfl rfl ⟨(blk_cell BK278.out 0).trans rfl, (blk_cell BK278.out 1).trans rfl, (blk_cell BK278.out 2).trans rfl, (blk_cell BK278.out 3).trans rfl⟩ (fun hHeld => ?_); refine with_tabW impl_StreamOk.tab12 impl_StreamOk.bits12 (fun HT_ HW_ => ?_)
              generalize w94.drew = w95 at BK266 BK278 HB hHeld ⊢
              refine tk 0 74 ?_
              refine on 1 (some 75) (fun K hK => ?_)
              refine ca Try.func77 (impl_groupOk.calls k3 ((rd_T107 l0_3 x69_3).f0) ((rd_T107 l0_3 x69_3).f1.f0) ((rd_T107 l0_3 x69_3).f1.f1) _ _ ((rd_T107 l0_3 x69_3).f2) false _ ?side1 ?side2 A74.out) ?_
              (case side1 => repeat (first | exact (Kd.C_below HR277_3.out HB.out) | (with_reducible refine Kd.C_alloc ?_ _) | (with_reducible refine Kd.C_drewN ?_ _) | (with_reducible refine Kd.C_drew ?_)))
              (case side2 => exact HC277_3.out)
              rintro e w96 ⟨rfl, hb⟩
              refine ⟨_, rfl, ?_⟩
              replace BK266 := Aside0.mk (blk_below (g := gb266) (o := .cells #[.int .i64 a0_0, .int .i64 a0_1, .slice A0_2 l0_2.length c0_2, .slice (some ad277) l0_3.length c0_3] 34 (0, 0)) (by (with_reducible repeat (first | refine blk_drewN ?_ _ | refine blk_drew ?_ | refine blk_alloc ?_ _)); exact BK266.out) hb)
              replace BK278 := Aside0.mk (blk_below (g := gb278) (o := .cells #[.string ((rd_T107 l0_3 x69_3).f0), .int .i64 ((rd_T107 l0_3 x69_3).f1.f0), .int .i64 ((rd_T107 l0_3 x69_3).f1.f1), .slice A277_3 ((rd_T107 l0_3 x69_3).f2).length c277_3] 107 (0, 0)) (by (with_reducible repeat (first | refine blk_drewN ?_ _ | refine blk_drew ?_ | refine blk_alloc ?_ _)); exact BK278.out) hb)
              replace HB := Aside0.mk (below_step (by repeat (first | (with_reducible first | exact HB.out | apply below_alloc | apply pw_below_drewN | apply below_drew1 | refine below_set ?_ GE266.out | refine below_set ?_ GE278.out) | exact HB.out)) hb)
              (try clear hb)
              (try clear hb2)
              (try clear hk)
              (try clear hi)
              refine hK.out _ _ ⟨(blk_cell BK278.out 0).trans rfl, (blk_cell BK278.out 1).trans rfl, (blk_cell BK278.out 2).trans rfl, (blk_cell BK278.out 3).trans rfl⟩ (fun hHeld => ?_)
              clear hK K
              refine nm ?_; refine pu 2 76 ?_; refine pu 3 77 ?_; refine of 4 78 ?_; refine of 5 79 ?_; refine of 6 80 ?_; refine of 7 81 ?_; refine of 8 82 ?_; refine of 9 83 ?_; refine of 10 84 ?_; refine of 11 85 ?_; refine of 12 86 ?_; refine of 13 87 ?_; refine of 14 88 ?_; refine of 15 89 ?_; refine of 16 90 ?_; refine of 17 91 ?_; refine pu 18 92 ?_; refine pu 19 93 ?_; refine of 20 94 ?_; refine of 21 95 ?_; refine of 22 96 ?_; refine of 23 97 ?_; refine of 24 98 ?_; refine pu 25 99 ?_
              refine dn ?_
              try go_wp2
              go_meet
              case rel => exact ⟨_, (true), (by first | rfl | (simp; done) | (simp [*]; done)), H', ⟨by have := HJ1.out; have := HK2.out; have := HK3.out; first | omega | exact Nat.le_refl _⟩, ⟨by (with_reducible repeat (first | refine blk_drewN ?_ _ | refine blk_drew ?_ | refine blk_alloc ?_ _)); exact BK266.out⟩, ⟨by (with_reducible repeat (first | refine blk_drewN ?_ _ | refine blk_drew ?_ | refine blk_alloc ?_ _)); exact BK278.out⟩, ⟨by repeat (first | (with_reducible first | exact HB.out | apply below_alloc | apply pw_below_drewN | apply below_drew1 | refine below_set ?_ GE266.out | refine below_set ?_ GE278.out) | exact HB.out)⟩⟩
            case rest =>
             clear HC70
             try clear c2
             try clear p2
             try clear c3
             try clear c7
             try clear c27
             try clear c33
             try clear c75
             try clear c76
             try clear c76b0
             try clear c76b1
             try clear c76b2
             try clear c77
             try clear c78
             try clear c79
             obtain ⟨kq, x99_69, rfl, HA, HJ69, BK266, BK278, HB⟩ := hcut
             cases kq with
             | zero => exact absurd HA.out (by simp [impl_StreamOk.j4])
             | succ kj69 =>
              have H := HA.out
              clear HA
              simp only [impl_StreamOk.j4] at H
              by_cases c97 : x99_69 = true
              ·subst c97
               have H1 : (some false) = some r := by rw [if_pos rfl] at H; exact H
               clear H
               have H := H1
               clear H1
               obtain rfl := Option.some.inj H
               go_wp2
               go_ret
               exact ⟨by first | rfl | (simp [errW_none, errW_some] <;> rfl) | (simp [*, errW_none, errW_some] <;> rfl), by repeat (first | (with_reducible first | exact HB.out | apply below_alloc | apply pw_below_drewN | apply below_drew1 | refine below_set ?_ GE266.out | refine below_set ?_ GE278.out) | exact HB.out)⟩
              ·replace c97 := Bool.eq_false_iff.mpr c97
               subst c97
               have H1 : (impl_StreamOk.l1 kj69 l0_3 (l0_3.length : Int) (wrap64 (x69_3 + 1)) a0_0 a0_1 l0_2 l0_3) = some r := by rw [if_neg (show ¬ (false = true) by decide)] at H; exact H
               clear H
               have H := H1
               clear H1
               have H' := Aside0.mk H
               clear H
               go_wp2
               go_roundg kj69
               case measure => have := HJ1.out; have := HK2.out; have := HK3.out; have := HJ69.out; omega
               case rel => exact ⟨(wrap64 (x69_3 + 1)), (by first | rfl | (simp; done) | (simp [*]; done)), H', ⟨by have := HJ1.out; have := HK2.out; have := HK3.out; have := HJ69.out; omega⟩, ⟨by (with_reducible repeat (first | refine blk_drewN ?_ _ | refine blk_drew ?_ | refine blk_alloc ?_ _)); exact BK266.out⟩, ⟨by repeat (first | (with_reducible first | exact HB.out | apply below_alloc | apply pw_below_drewN | apply below_drew1 | refine below_set ?_ GE266.out | refine below_set ?_ GE278.out) | exact HB.out)⟩⟩
           ·rw [if_neg c69] at H
            exact absurd H (by simp)
          ·rw [if_neg c68] at H
           exact absurd H (by simp)
         ·rw [if_neg c67] at H
          have c67b0 : decide (x69_3 < (l0_3.length : Int)) = false := decide_eq_false c67
          clear c67
          obtain rfl := Option.some.inj H
          go_wp2
          go_ret
          exact ⟨by first | rfl | (simp [errW_none, errW_some] <;> rfl) | (simp [*, errW_none, errW_some] <;> rfl), by repeat (first | (with_reducible first | exact HB.out | apply below_alloc | apply pw_below_drewN | apply below_drew1 | refine below_set ?_ GE266.out) | exact HB.out)⟩
end Go.Proofs.Ytofiljboaegekaa.PFnExactStreamOk
namespace Go.Proofs.Ytofiljboaegekaa.PFnExactStreamOk
open Go.RowKit Go.Proofs.YtofiljboaegekaaW.PrintWords Go.Proofs.YtofiljboaegekaaW.PrintLast Go.Proofs.YtofiljboaegekaaW.PrintMore Go.Proofs.Ytofiljboaegekaa.Reg
attribute [local go_sem] max2_int min2_int max_two min_two max_three min_three max_four min_four
set_option linter.unusedVariables false
set_option linter.unusedSimpArgs false
def laws_eqId.f (a0_0 : Int) (a0_1 : Int) (a1_0 : Int) (a1_1 : Int) : Option (Bool) := if a0_0 = a1_0 then (if a0_1 = a1_1 then (some true) else (some false)) else (some false)
set_option maxHeartbeats 8000000 in
set_option maxRecDepth 100000 in
theorem laws_eqId.calls (a0_0 : Int) (a0_1 : Int) (a1_0 : Int) (a1_1 : Int) (r : Bool) (w : World) (h : laws_eqId.f a0_0 a0_1 a1_0 a1_1 = some r) :
  Calls Try.prog 78 #[.agg #[.int .i64 a0_0, .int .i64 a0_1], .agg #[.int .i64 a1_0, .int .i64 a1_1]] w fun e w' => e = .returned (.bool r) ∧ Below w.heap.size w w' := by
 have hu30 := Try.underlying30
 have HB := Aside0.mk (Below.refl w.heap.size w)
 have H : (if a0_0 = a1_0 then (if a0_1 = a1_1 then (some true) else (some false)) else (some false)) = some r := h
 clear h
 have HC3 := Aside0.mk H
 clear H
 go_enter Try.func78, Try.ntmps78
 go_upto_if 9 with (first | ((with_reducible refine gate_dst (N := 2) rfl ?_); refine box_event ?hg (N := 2) ?hd (cs := #[.int .i64 a0_0, .int .i64 a0_1]) (t := 30) ?hr ?_; (case hd => rfl); (case hg => rfl); (case hr => first | (go_simp; done) | (go_simp; rfl)); intro gb283 hg w4 hbox hb; have n0_ := Aside0.mk (below_step (by repeat (first | (with_reducible first | exact HB.out | apply below_alloc | apply pw_below_drewN | apply below_drew1) | exact HB.out)) hb); have n1_ := Aside0.mk (hbox); have n2_ := Aside0.mk ((by rw [hg]; exact (below_size (by repeat (first | (with_reducible first | exact HB.out | apply below_alloc | apply pw_below_drewN | apply below_drew1) | exact HB.out))) : w.heap.size ≤ gb283)); have n3_ := Aside0.mk ((by rw [hg]; exact (below_size (by repeat (first | (with_reducible first | exact HB.out | apply below_alloc | apply pw_below_drewN | apply below_drew1) | exact HB.out))) : w.heap.size ≤ gb283)); clear HB; have HB := n0_; have BK283 := n1_; have GW283 := n2_; have GE283 := n3_; clear n0_ n1_ n2_ n3_; clear hb hbox hg) | ((with_reducible refine gate_dst (N := 3) rfl ?_); refine box_event ?hg (N := 3) ?hd (cs := #[.int .i64 a1_0, .int .i64 a1_1]) (t := 30) ?hr ?_; (case hd => rfl); (case hg => rfl); (case hr => first | (go_simp; done) | (go_simp; rfl)); intro gb284 hg w5 hbox hb; have n0_ := Aside0.mk (blk_below (g := gb283) (o := .cells #[.int .i64 a0_0, .int .i64 a0_1] 30 (0, 0)) (by (with_reducible repeat (first | refine blk_drewN ?_ _ | refine blk_drew ?_ | refine blk_alloc ?_ _)); exact BK283.out) hb); have n1_ := Aside0.mk (below_step (by repeat (first | (with_reducible first | exact HB.out | apply below_alloc | apply pw_below_drewN | apply below_drew1 | refine below_set ?_ GE283.out) | exact HB.out)) hb); have n2_ := Aside0.mk (hbox); have n3_ := Aside0.mk ((by rw [hg]; exact (below_size (by repeat (first | (with_reducible first | exact HB.out | apply below_alloc | apply pw_below_drewN | apply below_drew1 | refine below_set ?_ GE283.out) | exact HB.out))) : w.heap.size ≤ gb284)); have n4_ := Aside0.mk ((by rw [hg]; exact (below_size (by repeat (first | (with_reducible first | exact HB.out | apply below_alloc | apply pw_below_drewN | apply below_drew1 | refine below_set ?_ GE283.out) | exact HB.out))) : w.heap.size ≤ gb284)); have n5_ := Aside0.mk ((by rw [hg]; exact Nat.ne_of_lt (blk_lt (g := gb283) (o := .cells #[.int .i64 a0_0, .int .i64 a0_1] 30 (0, 0)) (by (with_reducible repeat (first | refine blk_drewN ?_ _ | refine blk_drew ?_ | refine blk_alloc ?_ _)); exact BK283.out)) : gb283 ≠ gb284)); have n6_ := Aside0.mk ((by rw [hg]; exact Nat.ne_of_gt (blk_lt (g := gb283) (o := .cells #[.int .i64 a0_0, .int .i64 a0_1] 30 (0, 0)) (by (with_reducible repeat (first | refine blk_drewN ?_ _ | refine blk_drew ?_ | refine blk_alloc ?_ _)); exact BK283.out)) : gb284 ≠ gb283)); clear BK283; clear HB; have BK283 := n0_; have HB := n1_; have BK284 := n2_; have GW284 := n3_; have GE284 := n4_; have NB283_284 := n5_; have NB284_283 := n6_; clear n0_ n1_ n2_ n3_ n4_ n5_ n6_; clear hb hbox hg; have hnb6 := NB283_284.out; have hnc6 := NB284_283.out; have hcz7_0 : w5.cell? ⟨gb283, 0, none⟩ = some (.int .i64 a0_0) := (blk_cell BK283.out 0).trans rfl; have hcz7_1 : w5.cell? ⟨gb283, 1, none⟩ = some (.int .i64 a0_1) := (blk_cell BK283.out 1).trans rfl; have hfz7_0 := blk_frozen BK283.out 0; have hfz7_1 := blk_frozen BK283.out 1; have hcz8_0 : w5.cell? ⟨gb284, 0, none⟩ = some (.int .i64 a1_0) := (blk_cell BK284.out 0).trans rfl; have hcz8_1 : w5.cell? ⟨gb284, 1, none⟩ = some (.int .i64 a1_1) := (blk_cell BK284.out 1).trans rfl; have hfz8_0 := blk_frozen BK284.out 0; have hfz8_1 := blk_frozen BK284.out 1))
 have H := HC3.out
 clear HC3
 by_cases c9 : a0_0 = a1_0
 ·rw [if_pos c9] at H
  have c9b0 : (a0_0 == a1_0) = true := beq_iff_eq.mpr c9
  have c9b1 : (a0_0 != a1_0) = false := bne_eq_false_iff_eq.mpr c9
  clear c9
  (first | rw [c9b0] | rw [c9b1] | (simp only [i64_w, i32_w]; rw [c9b0]) | rw [c9b2] | skip)
  have HC10 := Aside0.mk H
  clear H
  have hnb11 := NB283_284.out
  have hnc11 := NB284_283.out
  have hcz12_0 : w5.cell? ⟨gb283, 0, none⟩ = some (.int .i64 a0_0) := (blk_cell BK283.out 0).trans rfl
  have hcz12_1 : w5.cell? ⟨gb283, 1, none⟩ = some (.int .i64 a0_1) := (blk_cell BK283.out 1).trans rfl
  have hfz12_0 := blk_frozen BK283.out 0
  have hfz12_1 := blk_frozen BK283.out 1
  have hcz13_0 : w5.cell? ⟨gb284, 0, none⟩ = some (.int .i64 a1_0) := (blk_cell BK284.out 0).trans rfl
  have hcz13_1 : w5.cell? ⟨gb284, 1, none⟩ = some (.int .i64 a1_1) := (blk_cell BK284.out 1).trans rfl
  have hfz13_0 := blk_frozen BK284.out 0
  have hfz13_1 := blk_frozen BK284.out 1
  go_upto_if 14 with (fail)
  have H := HC10.out
  clear HC10
  by_cases c14 : a0_1 = a1_1
  ·rw [if_pos c14] at H
   have c14b0 : (a0_1 == a1_1) = true := beq_iff_eq.mpr c14
   have c14b1 : (a0_1 != a1_1) = false := bne_eq_false_iff_eq.mpr c14
   clear c14
   (first | rw [c14b0] | rw [c14b1] | (simp only [i64_w, i32_w]; rw [c14b0]) | rw [c14b2] | skip)
   obtain rfl := Option.some.inj H
   go_wp2
   go_ret
   exact ⟨by first | rfl | (simp [errW_none, errW_some] <;> rfl) | (simp [*, errW_none, errW_some] <;> rfl), by repeat (first | (with_reducible first | exact HB.out | apply below_alloc | apply pw_below_drewN | apply below_drew1 | refine below_set ?_ GE283.out | refine below_set ?_ GE284.out) | exact HB.out)⟩
  ·rw [if_neg c14] at H
   have c14b0 : (a0_1 == a1_1) = false := beq_eq_false_iff_ne.mpr c14
   have c14b1 : (a0_1 != a1_1) = true := bne_iff_ne.mpr c14
   (first | rw [c14b0] | rw [c14b1] | (simp only [i64_w, i32_w]; rw [c14b0]) | rw [c14b2] | skip)
   obtain rfl := Option.some.inj H
   go_wp2
   go_ret
   exact ⟨by first | rfl | (simp [errW_none, errW_some] <;> rfl) | (simp [*, errW_none, errW_some] <;> rfl), by repeat (first | (with_reducible first | exact HB.out | apply below_alloc | apply pw_below_drewN | apply below_drew1 | refine below_set ?_ GE283.out | refine below_set ?_ GE284.out) | exact HB.out)⟩
 ·rw [if_neg c9] at H
  have c9b0 : (a0_0 == a1_0) = false := beq_eq_false_iff_ne.mpr c9
  have c9b1 : (a0_0 != a1_0) = true := bne_iff_ne.mpr c9
  (first | rw [c9b0] | rw [c9b1] | (simp only [i64_w, i32_w]; rw [c9b0]) | rw [c9b2] | skip)
  obtain rfl := Option.some.inj H
  go_wp2
  go_ret
  exact ⟨by first | rfl | (simp [errW_none, errW_some] <;> rfl) | (simp [*, errW_none, errW_some] <;> rfl), by repeat (first | (with_reducible first | exact HB.out | apply below_alloc | apply pw_below_drewN | apply below_drew1 | refine below_set ?_ GE283.out | refine below_set ?_ GE284.out) | exact HB.out)⟩
end Go.Proofs.Ytofiljboaegekaa.PFnExactStreamOk
namespace Go.Proofs.Ytofiljboaegekaa.PFnExactStreamOk
open Go.RowKit Go.Proofs.YtofiljboaegekaaW.PrintWords Go.Proofs.YtofiljboaegekaaW.PrintLast Go.Proofs.YtofiljboaegekaaW.PrintMore Go.Proofs.Ytofiljboaegekaa.Reg
attribute [local go_sem] max2_int min2_int max_two min_two max_three min_three max_four min_four
set_option linter.unusedVariables false
set_option linter.unusedSimpArgs false
def laws_eqPair.f (a0_0 : ByteArray) (a0_1 : ByteArray) (a1_0 : ByteArray) (a1_1 : ByteArray) : Option (Bool) := if a0_0.toList = a1_0.toList then (if a0_1.toList = a1_1.toList then (some true) else (some false)) else (some false)
set_option maxHeartbeats 8000000 in
set_option maxRecDepth 100000 in
theorem laws_eqPair.calls (a0_0 : ByteArray) (a0_1 : ByteArray) (a1_0 : ByteArray) (a1_1 : ByteArray) (r : Bool) (w : World) (h : laws_eqPair.f a0_0 a0_1 a1_0 a1_1 = some r) :
  Calls Try.prog 173 #[.agg #[.string a0_0, .string a0_1], .agg #[.string a1_0, .string a1_1]] w fun e w' => e = .returned (.bool r) ∧ Below w.heap.size w w' := by
 have hu136 := Try.underlying136
 have HB := Aside0.mk (Below.refl w.heap.size w)
 have H : (if a0_0.toList = a1_0.toList then (if a0_1.toList = a1_1.toList then (some true) else (some false)) else (some false)) = some r := h
 clear h
 have HC3 := Aside0.mk H
 clear H
 go_enter Try.func173, Try.ntmps173
 go_upto_if 9 with (first | ((with_reducible refine gate_dst (N := 2) rfl ?_); refine box_event ?hg (N := 2) ?hd (cs := #[.string a0_0, .string a0_1]) (t := 136) ?hr ?_; (case hd => rfl); (case hg => rfl); (case hr => first | (go_simp; done) | (go_simp; rfl)); intro gb285 hg w4 hbox hb; have n0_ := Aside0.mk (below_step (by repeat (first | (with_reducible first | exact HB.out | apply below_alloc | apply pw_below_drewN | apply below_drew1) | exact HB.out)) hb); have n1_ := Aside0.mk (hbox); have n2_ := Aside0.mk ((by rw [hg]; exact (below_size (by repeat (first | (with_reducible first | exact HB.out | apply below_alloc | apply pw_below_drewN | apply below_drew1) | exact HB.out))) : w.heap.size ≤ gb285)); have n3_ := Aside0.mk ((by rw [hg]; exact (below_size (by repeat (first | (with_reducible first | exact HB.out | apply below_alloc | apply pw_below_drewN | apply below_drew1) | exact HB.out))) : w.heap.size ≤ gb285)); clear HB; have HB := n0_; have BK285 := n1_; have GW285 := n2_; have GE285 := n3_; clear n0_ n1_ n2_ n3_; clear hb hbox hg) | ((with_reducible refine gate_dst (N := 3) rfl ?_); refine box_event ?hg (N := 3) ?hd (cs := #[.string a1_0, .string a1_1]) (t := 136) ?hr ?_; (case hd => rfl); (case hg => rfl); (case hr => first | (go_simp; done) | (go_simp; rfl)); intro gb286 hg w5 hbox hb; have n0_ := Aside0.mk (blk_below (g := gb285) (o := .cells #[.string a0_0, .string a0_1] 136 (0, 0)) (by (with_reducible repeat (first | refine blk_drewN ?_ _ | refine blk_drew ?_ | refine blk_alloc ?_ _)); exact BK285.out) hb); have n1_ := Aside0.mk (below_step (by repeat (first | (with_reducible first | exact HB.out | apply below_alloc | apply pw_below_drewN | apply below_drew1 | refine below_set ?_ GE285.out) | exact HB.out)) hb); have n2_ := Aside0.mk (hbox); have n3_ := Aside0.mk ((by rw [hg]; exact (below_size (by repeat (first | (with_reducible first | exact HB.out | apply below_alloc | apply pw_below_drewN | apply below_drew1 | refine below_set ?_ GE285.out) | exact HB.out))) : w.heap.size ≤ gb286)); have n4_ := Aside0.mk ((by rw [hg]; exact (below_size (by repeat (first | (with_reducible first | exact HB.out | apply below_alloc | apply pw_below_drewN | apply below_drew1 | refine below_set ?_ GE285.out) | exact HB.out))) : w.heap.size ≤ gb286)); have n5_ := Aside0.mk ((by rw [hg]; exact Nat.ne_of_lt (blk_lt (g := gb285) (o := .cells #[.string a0_0, .string a0_1] 136 (0, 0)) (by (with_reducible repeat (first | refine blk_drewN ?_ _ | refine blk_drew ?_ | refine blk_alloc ?_ _)); exact BK285.out)) : gb285 ≠ gb286)); have n6_ := Aside0.mk ((by rw [hg]; exact Nat.ne_of_gt (blk_lt (g := gb285) (o := .cells #[.string a0_0, .string a0_1] 136 (0, 0)) (by (with_reducible repeat (first | refine blk_drewN ?_ _ | refine blk_drew ?_ | refine blk_alloc ?_ _)); exact BK285.out)) : gb286 ≠ gb285)); clear BK285; clear HB; have BK285 := n0_; have HB := n1_; have BK286 := n2_; have GW286 := n3_; have GE286 := n4_; have NB285_286 := n5_; have NB286_285 := n6_; clear n0_ n1_ n2_ n3_ n4_ n5_ n6_; clear hb hbox hg; have hnb6 := NB285_286.out; have hnc6 := NB286_285.out; have hcz7_0 : w5.cell? ⟨gb285, 0, none⟩ = some (.string a0_0) := (blk_cell BK285.out 0).trans rfl; have hcz7_1 : w5.cell? ⟨gb285, 1, none⟩ = some (.string a0_1) := (blk_cell BK285.out 1).trans rfl; have hfz7_0 := blk_frozen BK285.out 0; have hfz7_1 := blk_frozen BK285.out 1; have hcz8_0 : w5.cell? ⟨gb286, 0, none⟩ = some (.string a1_0) := (blk_cell BK286.out 0).trans rfl; have hcz8_1 : w5.cell? ⟨gb286, 1, none⟩ = some (.string a1_1) := (blk_cell BK286.out 1).trans rfl; have hfz8_0 := blk_frozen BK286.out 0; have hfz8_1 := blk_frozen BK286.out 1))
 have H := HC3.out
 clear HC3
 by_cases c9 : a0_0.toList = a1_0.toList
 ·rw [if_pos c9] at H
  have c9b0 : (a0_0.toList == a1_0.toList) = true := beq_iff_eq.mpr c9
  have c9b1 : (a0_0.toList != a1_0.toList) = false := bne_eq_false_iff_eq.mpr c9
  clear c9
  (first | rw [c9b0] | rw [c9b1] | (simp only [i64_w, i32_w]; rw [c9b0]) | rw [c9b2] | skip)
  have HC10 := Aside0.mk H
  clear H
  have hnb11 := NB285_286.out
  have hnc11 := NB286_285.out
  have hcz12_0 : w5.cell? ⟨gb285, 0, none⟩ = some (.string a0_0) := (blk_cell BK285.out 0).trans rfl
  have hcz12_1 : w5.cell? ⟨gb285, 1, none⟩ = some (.string a0_1) := (blk_cell BK285.out 1).trans rfl
  have hfz12_0 := blk_frozen BK285.out 0
  have hfz12_1 := blk_frozen BK285.out 1
  have hcz13_0 : w5.cell? ⟨gb286, 0, none⟩ = some (.string a1_0) := (blk_cell BK286.out 0).trans rfl
  have hcz13_1 : w5.cell? ⟨gb286, 1, none⟩ = some (.string a1_1) := (blk_cell BK286.out 1).trans rfl
  have hfz13_0 := blk_frozen BK286.out 0
  have hfz13_1 := blk_frozen BK286.out 1
  go_upto_if 14 with (fail)
  have H := HC10.out
  clear HC10
  by_cases c14 : a0_1.toList = a1_1.toList
  ·rw [if_pos c14] at H
   have c14b0 : (a0_1.toList == a1_1.toList) = true := beq_iff_eq.mpr c14
   have c14b1 : (a0_1.toList != a1_1.toList) = false := bne_eq_false_iff_eq.mpr c14
   clear c14
   (first | rw [c14b0] | rw [c14b1] | (simp only [i64_w, i32_w]; rw [c14b0]) | rw [c14b2] | skip)
   obtain rfl := Option.some.inj H
   go_wp2
   go_ret
   exact ⟨by first | rfl | (simp [errW_none, errW_some] <;> rfl) | (simp [*, errW_none, errW_some] <;> rfl), by repeat (first | (with_reducible first | exact HB.out | apply below_alloc | apply pw_below_drewN | apply below_drew1 | refine below_set ?_ GE285.out | refine below_set ?_ GE286.out) | exact HB.out)⟩
  ·rw [if_neg c14] at H
   have c14b0 : (a0_1.toList == a1_1.toList) = false := beq_eq_false_iff_ne.mpr c14
   have c14b1 : (a0_1.toList != a1_1.toList) = true := bne_iff_ne.mpr c14
   (first | rw [c14b0] | rw [c14b1] | (simp only [i64_w, i32_w]; rw [c14b0]) | rw [c14b2] | skip)
   obtain rfl := Option.some.inj H
   go_wp2
   go_ret
   exact ⟨by first | rfl | (simp [errW_none, errW_some] <;> rfl) | (simp [*, errW_none, errW_some] <;> rfl), by repeat (first | (with_reducible first | exact HB.out | apply below_alloc | apply pw_below_drewN | apply below_drew1 | refine below_set ?_ GE285.out | refine below_set ?_ GE286.out) | exact HB.out)⟩
 ·rw [if_neg c9] at H
  have c9b0 : (a0_0.toList == a1_0.toList) = false := beq_eq_false_iff_ne.mpr c9
  have c9b1 : (a0_0.toList != a1_0.toList) = true := bne_iff_ne.mpr c9
  (first | rw [c9b0] | rw [c9b1] | (simp only [i64_w, i32_w]; rw [c9b0]) | rw [c9b2] | skip)
  obtain rfl := Option.some.inj H
  go_wp2
  go_ret
  exact ⟨by first | rfl | (simp [errW_none, errW_some] <;> rfl) | (simp [*, errW_none, errW_some] <;> rfl), by repeat (first | (with_reducible first | exact HB.out | apply below_alloc | apply pw_below_drewN | apply below_drew1 | refine below_set ?_ GE285.out | refine below_set ?_ GE286.out) | exact HB.out)⟩
end Go.Proofs.Ytofiljboaegekaa.PFnExactStreamOk
