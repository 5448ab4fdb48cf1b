/- Texts of this claim, packed: walks and laws that its row stands on. Each states its own conditions. -/
import Derived.ChangeArms
import Derived.ChangeSlices
import Derived.DataElems
import Derived.IntWalk
import Derived.Laws.BitsLemmas
import Derived.OpenShut
import Derived.SizedLaws
import Derived.Test.YtpokafkkfdponaaBFnExactListMove0
namespace Go.Proofs.Ytpokafkkfdponaa.PFnExactListMove
open Go.RowKit Go.Proofs.YtpokafkkfdponaaW.PrintWords Go.Proofs.YtpokafkkfdponaaW.PrintLast Go.Proofs.YtpokafkkfdponaaW.PrintMore Go.Proofs.Ytpokafkkfdponaa.Reg
attribute [local go_sem] run_store_v max2_int min2_int max_two min_two max_three min_three max_four min_four
set_option linter.unusedVariables false
set_option linter.unusedSimpArgs false
mutual
def impl_ListPush.j0 : Nat → List ByteArray → Bool → List ByteArray → Bool → Option (List ByteArray × Bool)
 | 0, _, _, _, _ => none
 | k + 1, x0, x1, x2, x25 => if x25 = true then ((impl_copied.f x0).bind fun t198 => (some (t198, false))) else ((impl_copied.f x0).bind fun t201 => (impl_ListPush.l0 k x1 t201 x2 (x2.length : Int) 0))
def impl_ListPush.l0 : Nat → Bool → List ByteArray → List ByteArray → Int → Int → Option (List ByteArray × Bool)
 | 0, _, _, _, _, _ => none
 | k + 1, x1, x8, x30, x31, x32 => if x32 < x31 then (if 0 ≤ x32 then (if x32 < (x30.length : Int) then (if x1 = true then ((slices_Insert_string_string.f x8 0 (([rdOf ByteArray.empty x30 x32] : List ByteArray))).bind fun bt211 => (impl_ListPush.l0 k x1 bt211.1 x30 x31 (wrap64 (x32 + 1)))) else (if x8.length < 8796093022208 then (impl_ListPush.l0 k x1 (x8 ++ [rdOf ByteArray.empty x30 x32]) x30 x31 (wrap64 (x32 + 1))) else (none))) else (none)) else (none)) else ((impl_copied.f x8).bind fun t204 => (some (t204, true)))
end
def impl_ListPush.f (k : Nat) (l0 : List ByteArray) (a1 : Bool) (l2 : List ByteArray) : Option (List ByteArray × Bool) := (impl_listOk.f k l0).bind fun t193 => (if t193 = true then ((impl_listOk.f k l2).bind fun t197 => (if t197 = true then (impl_ListPush.j0 k l0 a1 l2 (decide ((wrap64 ((l0.length : Int) + (l2.length : Int))) > 16))) else (impl_ListPush.j0 k l0 a1 l2 true))) else (some ((([] : List ByteArray)), false)))
set_option maxHeartbeats 8000000 in
set_option maxRecDepth 100000 in
theorem impl_ListPush.calls (k : Nat) (A0 : Option Addr) (c0 : Nat) (l0 : List ByteArray) (a1 : Bool) (A2 : Option Addr) (c2 : Nat) (l2 : List ByteArray) (r1 : List ByteArray) (r2 : Bool) (w : World) (hr0 : Kd.C Kd.string w A0 l0.length l0) (hc0 : l0.length ≤ c0) (hr2 : Kd.C Kd.string w A2 l2.length l2) (hc2 : l2.length ≤ c2) (h : impl_ListPush.f k l0 a1 l2 = some (r1, r2)) :
  Calls Try.prog 49 #[.slice A0 l0.length c0, .bool a1, .slice A2 l2.length c2] w fun e w' => ∃ v0_ : Value, e = .returned (.tuple #[v0_, .bool r2]) ∧ Kd.R Kd.string 9 w' w.heap.size (fun _ => True) v0_ r1 ∧ Below w.heap.size w w' := by
 have HR0 := Aside0.mk hr0
 have HC0 := Aside0.mk hc0
 clear hr0 hc0
 have HR2 := Aside0.mk hr2
 have HC2 := Aside0.mk hc2
 clear hr2 hc2
 have HB := Aside0.mk (Below.refl w.heap.size w)
 have H : ((impl_listOk.f k l0).bind fun t193 => (if t193 = true then ((impl_listOk.f k l2).bind fun t197 => (if t197 = true then (impl_ListPush.j0 k l0 a1 l2 (decide ((wrap64 ((l0.length : Int) + (l2.length : Int))) > 16))) else (impl_ListPush.j0 k l0 a1 l2 true))) else (some ((([] : List ByteArray)), false)))) = some (r1, r2) := h
 clear h
 replace H := Option.bind_eq_some_iff.mp H
 obtain ⟨t193, A40, H⟩ := H
 replace H : (if t193 = true then ((impl_listOk.f k l2).bind fun t197 => (if t197 = true then (impl_ListPush.j0 k l0 a1 l2 (decide ((wrap64 ((l0.length : Int) + (l2.length : Int))) > 16))) else (impl_ListPush.j0 k l0 a1 l2 true))) else (some ((([] : List ByteArray)), false))) = some (r1, r2) := H
 have A4 := Aside0.mk A40
 clear A40
 have HC5 := Aside0.mk H
 clear H
 go_enter Try.func49, Try.ntmps49
 go_upto_if 13 with (first | ((with_reducible refine gate_callee (f := 59) rfl ?_); refine goesL_ (some 12) rfl rfl Try.func59 (by kernel_rfl) rfl #[.slice A0 l0.length c0] rfl (by (try simp only [List.map_toArray, List.map_cons, List.map_nil]); first | done | rfl | (simp only [List.length_drop, List.length_take]; rfl)) ?_; (with_reducible refine (impl_listOk.calls k _ _ l0 t193 _ ?side1 ?side2 A4.out).mono ?_); (case side1 => repeat (first | exact HR0.out | (with_reducible refine Kd.C_alloc ?_ _) | (with_reducible refine Kd.C_drewN ?_ _) | (with_reducible refine Kd.C_drew ?_))); (case side2 => exact HC0.out); rintro e w' ⟨rfl, ⟨nd, rfl⟩⟩; refine ⟨_, rfl, ?_⟩))
 have H := HC5.out
 clear HC5
 by_cases c6 : t193 = true
 ·subst c6
  have H1 : ((impl_listOk.f k l2).bind fun t197 => (if t197 = true then (impl_ListPush.j0 k l0 a1 l2 (decide ((wrap64 ((l0.length : Int) + (l2.length : Int))) > 16))) else (impl_ListPush.j0 k l0 a1 l2 true))) = some (r1, r2) := by rw [if_pos rfl] at H; exact H
  clear H
  have H := H1
  clear H1
  have HC7 := Aside0.mk H
  clear H
  go_upto_region 3 with (fail)
  go_cut [25] (fun v25 wc => ∃ (kq : Nat) (x25_6 : Bool), v25 = .bool x25_6 ∧ Aside0 (impl_ListPush.j0 kq l0 a1 l2 x25_6 = some (r1, r2)) ∧ Aside0 (kq ≤ k) ∧ Aside0 (Below w.heap.size w wc))
  case first =>
   have H := HC7.out
   clear HC7
   replace H := Option.bind_eq_some_iff.mp H
   obtain ⟨t197, A80, H⟩ := H
   replace H : (if t197 = true then (impl_ListPush.j0 k l0 a1 l2 (decide ((wrap64 ((l0.length : Int) + (l2.length : Int))) > 16))) else (impl_ListPush.j0 k l0 a1 l2 true)) = some (r1, r2) := H
   have A8 := Aside0.mk A80
   clear A80
   by_cases c9 : t197 = true
   ·subst c9
    have H1 : (impl_ListPush.j0 k l0 a1 l2 (decide ((wrap64 ((l0.length : Int) + (l2.length : Int))) > 16))) = some (r1, r2) := by rw [if_pos rfl] at H; exact H
    clear H
    have H := H1
    clear H1
    have H' := Aside0.mk H
    clear H
    go_wp2_with (first | ((with_reducible refine gate_callee (f := 59) rfl ?_); refine goesL_ (some 16) rfl rfl Try.func59 (by kernel_rfl) rfl #[.slice A2 l2.length c2] rfl (by (try simp only [List.map_toArray, List.map_cons, List.map_nil]); first | done | rfl | (simp only [List.length_drop, List.length_take]; rfl)) ?_; (with_reducible refine (impl_listOk.calls k _ _ l2 true _ ?side1 ?side2 A8.out).mono ?_); (case side1 => repeat (first | exact (Kd.C_below HR2.out HB.out) | (with_reducible refine Kd.C_alloc ?_ _) | (with_reducible refine Kd.C_drewN ?_ _) | (with_reducible refine Kd.C_drew ?_))); (case side2 => exact HC2.out); rintro e w' ⟨rfl, ⟨nd, rfl⟩⟩; refine ⟨_, rfl, ?_⟩))
    go_meet
    case rel => exact ⟨_, (decide ((wrap64 ((l0.length : Int) + (l2.length : Int))) > 16)), (by first | rfl | (simp; done) | (simp [*]; done)), H', ⟨by first | omega | exact Nat.le_refl _⟩, ⟨by repeat (first | (with_reducible first | exact HB.out | apply below_alloc | apply pw_below_drewN | apply below_drew1) | exact HB.out)⟩⟩
   ·replace c9 := Bool.eq_false_iff.mpr c9
    subst c9
    have H1 : (impl_ListPush.j0 k l0 a1 l2 true) = some (r1, r2) := by rw [if_neg (show ¬ (false = true) by decide)] at H; exact H
    clear H
    have H := H1
    clear H1
    have H' := Aside0.mk H
    clear H
    go_wp2_with (first | ((with_reducible refine gate_callee (f := 59) rfl ?_); refine goesL_ (some 16) rfl rfl Try.func59 (by kernel_rfl) rfl #[.slice A2 l2.length c2] rfl (by (try simp only [List.map_toArray, List.map_cons, List.map_nil]); first | done | rfl | (simp only [List.length_drop, List.length_take]; rfl)) ?_; (with_reducible refine (impl_listOk.calls k _ _ l2 false _ ?side1 ?side2 A8.out).mono ?_); (case side1 => repeat (first | exact (Kd.C_below HR2.out HB.out) | (with_reducible refine Kd.C_alloc ?_ _) | (with_reducible refine Kd.C_drewN ?_ _) | (with_reducible refine Kd.C_drew ?_))); (case side2 => exact HC2.out); rintro e w' ⟨rfl, ⟨nd, rfl⟩⟩; refine ⟨_, rfl, ?_⟩))
    go_meet
    case rel => exact ⟨_, (true), (by first | rfl | (simp; done) | (simp [*]; done)), H', ⟨by first | omega | exact Nat.le_refl _⟩, ⟨by repeat (first | (with_reducible first | exact HB.out | apply below_alloc | apply pw_below_drewN | apply below_drew1) | exact HB.out)⟩⟩
  case rest =>
   clear HC7
   try clear c2
   try clear p2
   try clear c4
   try clear c5
   try clear c6
   try clear p6
   try clear c9
   obtain ⟨kq, x25_6, rfl, HA, HJ6, HB⟩ := hcut
   cases kq with
   | zero => exact absurd HA.out (by simp [impl_ListPush.j0])
   | succ kj6 =>
    have H := HA.out
    clear HA
    simp only [impl_ListPush.j0] at H
    by_cases c10 : x25_6 = true
    ·subst c10
     have H1 : ((impl_copied.f l0).bind fun t198 => (some (t198, false))) = some (r1, r2) := by rw [if_pos rfl] at H; exact H
     clear H
     have H := H1
     clear H1
     replace H := Option.bind_eq_some_iff.mp H
     obtain ⟨t198, A110, H⟩ := H
     replace H : (some (t198, false)) = some (r1, r2) := H
     have A11 := Aside0.mk A110
     clear A110
     simp only [Option.some.injEq, Prod.mk.injEq] at H
     obtain ⟨rfl, rfl⟩ := H
     go_wp2_with (first | ((with_reducible refine gate_callee (f := 50) rfl ?_); refine goesL_ (some 27) rfl rfl Try.func50 (by kernel_rfl) rfl #[.slice A0 l0.length c0] rfl (by (try simp only [List.map_toArray, List.map_cons, List.map_nil]); first | done | rfl | (simp only [List.length_drop, List.length_take]; rfl)) ?_; (with_reducible refine (impl_copied.calls _ _ l0 t198 _ ?side1 ?side2 A11.out).mono ?_); (case side1 => repeat (first | exact (Kd.C_below HR0.out HB.out) | (with_reducible refine Kd.C_alloc ?_ _) | (with_reducible refine Kd.C_drewN ?_ _) | (with_reducible refine Kd.C_drew ?_))); (case side2 => exact HC0.out); rintro e w12 ⟨v199, rfl, ho0, hb⟩; refine ⟨_, rfl, ?_⟩; (try have hone_ := (Kd.R_val ho0).2); have n0_ := Aside0.mk (Kd.R_lower ho0 (below_size (by repeat (first | (with_reducible first | exact HB.out | apply below_alloc | apply pw_below_drewN | apply below_drew1) | exact HB.out)))); have n1_ := Aside0.mk (below_step (by repeat (first | (with_reducible first | exact HB.out | apply below_alloc | apply pw_below_drewN | apply below_drew1) | exact HB.out)) hb); clear HB; have HO200 := n0_; have HB := n1_; clear n0_ n1_; (try clear hb); (try clear hb2); (try clear hk); (try clear hi); (try clear ho0)))
     go_ret2
     exact ⟨_, by first | rfl | (simp [errW_none, errW_some] <;> rfl) | (simp [*, errW_none, errW_some] <;> rfl), by (with_reducible repeat (first | apply Kd.R_alloc | apply Kd.R_drewN | apply Kd.R_drew)); exact HO200.out, by repeat (first | (with_reducible first | exact HB.out | apply below_alloc | apply pw_below_drewN | apply below_drew1) | exact HB.out)⟩
    ·replace c10 := Bool.eq_false_iff.mpr c10
     subst c10
     have H1 : ((impl_copied.f l0).bind fun t201 => (impl_ListPush.l0 kj6 a1 t201 l2 (l2.length : Int) 0)) = some (r1, r2) := by rw [if_neg (show ¬ (false = true) by decide)] at H; exact H
     clear H
     have H := H1
     clear H1
     replace H := Option.bind_eq_some_iff.mp H
     obtain ⟨t201, A130, H⟩ := H
     replace H : (impl_ListPush.l0 kj6 a1 t201 l2 (l2.length : Int) 0) = some (r1, r2) := H
     have A13 := Aside0.mk A130
     clear A130
     have H' := Aside0.mk H
     clear H
     go_wp2_with (first | ((with_reducible refine gate_callee (f := 50) rfl ?_); refine goesL_ (some 29) rfl rfl Try.func50 (by kernel_rfl) rfl #[.slice A0 l0.length c0] rfl (by (try simp only [List.map_toArray, List.map_cons, List.map_nil]); first | done | rfl | (simp only [List.length_drop, List.length_take]; rfl)) ?_; (with_reducible refine (impl_copied.calls _ _ l0 t201 _ ?side1 ?side2 A13.out).mono ?_); (case side1 => repeat (first | exact (Kd.C_below HR0.out HB.out) | (with_reducible refine Kd.C_alloc ?_ _) | (with_reducible refine Kd.C_drewN ?_ _) | (with_reducible refine Kd.C_drew ?_))); (case side2 => exact HC0.out); rintro e w14 ⟨v202, rfl, ho0, hb⟩; refine ⟨_, rfl, ?_⟩; (try have hone_ := (Kd.R_val ho0).2); have n0_ := Aside0.mk (Kd.R_lower ho0 (below_size (by repeat (first | (with_reducible first | exact HB.out | apply below_alloc | apply pw_below_drewN | apply below_drew1) | exact HB.out)))); have n1_ := Aside0.mk (below_step (by repeat (first | (with_reducible first | exact HB.out | apply below_alloc | apply pw_below_drewN | apply below_drew1) | exact HB.out)) hb); clear HB; have HO203 := n0_; have HB := n1_; clear n0_ n1_; (try clear hb); (try clear hb2); (try clear hk); (try clear hi); (try clear ho0)))
     go_loopg [8, 32] kj6 (fun kq v8 v32 w' => ∃ (x8_2 : List ByteArray) (x32_2 : Int), v32 = .int .i64 x32_2 ∧ Aside0 (impl_ListPush.l0 kq a1 x8_2 l2 (l2.length : Int) x32_2 = some (r1, r2)) ∧ Aside0 (kq ≤ kj6) ∧ Aside0 (Kd.R Kd.string 9 w' w.heap.size (fun _ => True) v8 x8_2) ∧ Aside0 (Below w.heap.size w w'))
     case atStart => exact ⟨(t201), (0), (by first | rfl | (simp; done) | (simp [*]; done)), H', ⟨Nat.le_refl _⟩, ⟨by (with_reducible repeat (first | apply Kd.R_alloc | apply Kd.R_drewN | apply Kd.R_drew)); exact HO203.out⟩, ⟨by repeat (first | (with_reducible first | exact HB.out | apply below_alloc | apply pw_below_drewN | apply below_drew1) | exact HB.out)⟩⟩
     case round =>
      clear H'
      try clear c1
      try clear c2
      try clear p2
      try clear c4
      try clear c5
      try clear c6
      try clear p6
      try clear c9
      try clear c10
      try clear p2
      try clear p6
      obtain ⟨x8_2, x32_2, rfl, HA, HK2, HO_8, HB⟩ := hrel
      cases gk with
      | zero => exact absurd HA.out (by simp [impl_ListPush.l0])
      | succ k2 =>
       have H := HA.out
       clear HA
       simp only [impl_ListPush.l0] at H
       by_cases c15 : x32_2 < (l2.length : Int)
       ·rw [if_pos c15] at H
        have c15b0 : decide (x32_2 < (l2.length : Int)) = true := decide_eq_true c15
        clear c15
        by_cases c16 : 0 ≤ x32_2
        ·rw [if_pos c16] at H
         have c16b0 : decide (0 ≤ x32_2) = true := decide_eq_true c16
         clear c16
         by_cases c17 : x32_2 < (l2.length : Int)
         ·rw [if_pos c17] at H
          have c17b0 : decide (x32_2 < (l2.length : Int)) = true := decide_eq_true c17
          clear c17
          have HC18 := Aside0.mk H
          clear H
          have p207 := od (0 ≤ (x32_2 : Int))
          have q207 := od (x32_2 < (l2.length : Int))
          obtain ⟨ad207, e207, hx207_0⟩ := Kd.at_string HR2.out x32_2 p207 q207
          cases e207
          replace hx207_0 := (HB.out.cell (World.block_lt_of_cell? w _ hx207_0)).trans hx207_0
          replace p207 := eq_true p207
          replace q207 := eq_true q207
          go_upto_if 36 with (fail)
          have H := HC18.out
          clear HC18
          by_cases c19 : a1 = true
          ·subst c19
           have H1 : ((slices_Insert_string_string.f x8_2 0 (([rdOf ByteArray.empty l2 x32_2] : List ByteArray))).bind fun bt211 => (impl_ListPush.l0 k2 true bt211.1 l2 (l2.length : Int) (wrap64 (x32_2 + 1)))) = some (r1, r2) := by rw [if_pos rfl] at H; exact H
           clear H
           have H := H1
           clear H1
           obtain ⟨y208, hy208⟩ : ∃ y_ : List ByteArray, y_ = (([rdOf ByteArray.empty l2 x32_2] : List ByteArray)) := ⟨_, rfl⟩
           replace H : ((slices_Insert_string_string.f x8_2 0 y208).bind fun bt211 => (impl_ListPush.l0 k2 true bt211.1 l2 (l2.length : Int) (wrap64 (x32_2 + 1)))) = some (r1, r2) := by first | (rw [hy208]; with_reducible exact H) | (have H2_ := (Option.bind_some _ _).symm.trans H; rw [hy208]; with_reducible exact H2_) | (have H2_ := (Option.bind_some _ _).symm.trans H; with_reducible exact H2_) | with_reducible exact H | (rw [hy208]; exact H) | exact H
           have Ny208 := Aside0.mk hy208
           clear hy208
           replace H := Option.bind_eq_some_iff.mp H
           obtain ⟨⟨t211, t214⟩, A200, H⟩ := H
           replace H : (impl_ListPush.l0 k2 true t211 l2 (l2.length : Int) (wrap64 (x32_2 + 1))) = some (r1, r2) := H
           have A20 := Aside0.mk A200
           clear A200
           have H' := Aside0.mk H
           clear H
           go_wp2_with (first | ((with_reducible refine gate_dst (N := 39) rfl ?_); (try (refine gate_guard (by rfl) ?_; dsimp only)); refine Kd.R_lit Kd.string _ 9 ?hg (N := 39) ?hd (xs := ([rdOf ByteArray.empty l2 x32_2] : List ByteArray)) (inner := [.string (rdOf ByteArray.empty l2 x32_2)]) (ok := fun _ => True) (okp := fun _ => True) ?hr ?hp (fun _ hk => hk) trivial (Below.refl _ _) (Nat.le_refl _) (by simp) ?_; (case hd => rfl); (case hg => rfl); (case hr => first | (go_simp; done) | (go_simp; rfl)); (case hp => exact (Reps.one (show Kd.M Kd.string _ _ _ (rdOf ByteArray.empty l2 x32_2) [.string (rdOf ByteArray.empty l2 x32_2)] from rfl) (Reps.none _ _))); intro v209 w21 ho22 hb hg_ hnew_; clear hg_ hnew_; (first | rw [← Ny208.out] at ho22 | (simp only [Int.reduceToNat] at ho22; rw [← Ny208.out] at ho22)); have n0_ := Aside0.mk (Kd.R_elder' (by (with_reducible repeat (first | apply Kd.R_alloc | apply Kd.R_drewN | apply Kd.R_drew)); exact HO_8.out) (Kd.R_base ho22) hb); have n1_ := Aside0.mk (Kd.R_lower (Kd.R_new' ho22 (Kd.R_lt (by (with_reducible repeat (first | apply Kd.R_alloc | apply Kd.R_drewN | apply Kd.R_drew)); exact HO_8.out))) (below_size (by repeat (first | (with_reducible first | exact HB.out | apply below_alloc | apply pw_below_drewN | apply below_drew1) | exact HB.out)))); have n2_ := Aside0.mk (below_step (by repeat (first | (with_reducible first | exact HB.out | apply below_alloc | apply pw_below_drewN | apply below_drew1) | exact HB.out)) hb); clear HO_8; clear HB; have HO_8 := n0_; have HO210 := n1_; have HB := n2_; clear n0_ n1_ n2_; clear hb ho22; obtain ⟨Ao23, co23, eo23⟩ := Kd.R_slice HO_8.out; subst eo23; obtain ⟨Ao24, co24, eo24⟩ := Kd.R_slice HO210.out; subst eo24) | ((with_reducible refine gate_callee (f := 60) rfl ?_); refine goesL_ (some 40) rfl rfl Try.func60 (by kernel_rfl) rfl #[.slice Ao23 x8_2.length co23, .int .i64 0, .slice Ao24 y208.length co24] rfl (by (try simp only [List.map_toArray, List.map_cons, List.map_nil]); first | done | rfl | (simp only [List.length_drop, List.length_take]; rfl)) ?_; (with_reducible refine (slices_Insert_string_string.calls (fun k_ => some k_ = (.slice Ao23 x8_2.length co23 : Value).ownBlock) (.slice Ao23 x8_2.length co23) x8_2 0 (fun k_ => some k_ = (.slice Ao24 y208.length co24 : Value).ownBlock) (.slice Ao24 y208.length co24) y208 t211 t214 w _ ?side1 ?side2 ?side3 ?side4 ?side5 A20.out).mono ?_); (case side1 => repeat (first | (with_reducible first | exact HB.out | apply below_alloc | apply pw_below_drewN | apply below_drew1) | exact HB.out)); (case side2 => exact Kd.R_tight rfl HO_8.out); (case side3 => exact fun k_ e_ => (HO_8.out.1 k_ e_.symm).2); (case side4 => exact Kd.R_tight rfl HO210.out); (case side5 => exact fun k_ e_ => (HO210.out.1 k_ e_.symm).2); rintro e w25 ⟨v212, rfl, ho0, hy0, hb, hkp⟩; refine ⟨_, rfl, ?_⟩; (try have hone_ := (Kd.R_val ho0).2); have n0_ := Aside0.mk (Kd.R_reok rfl hy0 (fun k_ e_ => HO210.out.1 k_ e_)); have n1_ := Aside0.mk (Kd.R_mono (ok' := fun k_ => some k_ ≠ (.slice Ao24 y208.length co24 : Value).ownBlock) ho0 (fun k_ hk_ => hk_.2)); have n2_ := Aside0.mk (hb); clear HO210; clear HB; clear HO_8; have HO210 := n0_; have HO213 := n1_; have HB := n2_; clear n0_ n1_ n2_; (try clear hb); (try clear hkp); (try clear ho0); (try clear hy0)))
           go_roundg k2
           case measure => have := HJ6.out; have := HK2.out; omega
           case rel => exact ⟨(t211), (wrap64 (x32_2 + 1)), (by first | rfl | (simp; done) | (simp [*]; done)), H', ⟨by have := HJ6.out; have := HK2.out; omega⟩, ⟨by (with_reducible repeat (first | apply Kd.R_alloc | apply Kd.R_drewN | apply Kd.R_drew)); exact Kd.R_mono HO213.out (fun _ hk => trivial)⟩, ⟨by repeat (first | (with_reducible first | exact HB.out | apply below_alloc | apply pw_below_drewN | apply below_drew1) | exact HB.out)⟩⟩
          ·replace c19 := Bool.eq_false_iff.mpr c19
           subst c19
           have H1 : (if x8_2.length < 8796093022208 then (impl_ListPush.l0 k2 false (x8_2 ++ [rdOf ByteArray.empty l2 x32_2]) l2 (l2.length : Int) (wrap64 (x32_2 + 1))) else (none)) = some (r1, r2) := by rw [if_neg (show ¬ (false = true) by decide)] at H; exact H
           clear H
           have H := H1
           clear H1
           by_cases c26 : x8_2.length < 8796093022208
           ·rw [if_pos c26] at H
            have LMc26 := Aside0.mk c26
            clear c26
            obtain ⟨y215, hy215⟩ : ∃ y_ : List ByteArray, y_ = (x8_2 ++ [rdOf ByteArray.empty l2 x32_2]) := ⟨_, rfl⟩
            replace H : (impl_ListPush.l0 k2 false y215 l2 (l2.length : Int) (wrap64 (x32_2 + 1))) = some (r1, r2) := by first | (rw [hy215]; with_reducible exact H) | (have H2_ := (Option.bind_some _ _).symm.trans H; rw [hy215]; with_reducible exact H2_) | (have H2_ := (Option.bind_some _ _).symm.trans H; with_reducible exact H2_) | with_reducible exact H | (rw [hy215]; exact H) | exact H
            have Ny215 := Aside0.mk hy215
            clear hy215
            have H' := Aside0.mk H
            clear H
            go_wp2_with (first | ((with_reducible refine gate_builtin (b := .append) (xs := #[.tmp 41, .tmp 43]) rfl ?_); (try (refine gate_guard (by rfl) ?_; dsimp only)); at_builtin; refine Kd.R_append Kd.string (w0 := w) w.heap.size rfl (.tmp 41) (.tmp 43) 36 9 (.string ⟨#[]⟩) 16 rfl Try.underlying36 info9 rfl (by decide) (by omega) u8 x8_2 (rdOf ByteArray.empty l2 x32_2) [.string (rdOf ByteArray.empty l2 x32_2)] (fun _ => True) (fun _ => False) rfl rfl ?aP (fun _ hk => hk.elim) ?aF ?aO ?aB ?aS ?aL ?_; (case aP => exact rfl); (case aB => exact (by repeat (first | (with_reducible first | exact HB.out | apply below_alloc | apply pw_below_drewN | apply below_drew1) | exact HB.out))); (case aF => exact (fun _ _ => trivial)); (case aO => exact (by (with_reducible repeat (first | apply Kd.R_alloc | apply Kd.R_drewN | apply Kd.R_drew)); exact HO_8.out)); (case aS => exact (below_size (by repeat (first | (with_reducible first | exact HB.out | apply below_alloc | apply pw_below_drewN | apply below_drew1) | exact HB.out)))); (case aL => have := LMc26.out; omega); intro v216 w27 ho hb hg hat; rw [← Ny215.out] at ho; have n0_ := Aside0.mk (hb); have n1_ := Aside0.mk (ho); clear HB; clear HO_8; have HB := n0_; have HO217 := n1_; clear n0_ n1_; clear ho hb hg hat))
            go_roundg k2
            case measure => have := HJ6.out; have := HK2.out; omega
            case rel => exact ⟨(y215), (wrap64 (x32_2 + 1)), (by first | rfl | (simp; done) | (simp [*]; done)), H', ⟨by have := HJ6.out; have := HK2.out; omega⟩, ⟨by (with_reducible repeat (first | apply Kd.R_alloc | apply Kd.R_drewN | apply Kd.R_drew)); exact HO217.out⟩, ⟨by repeat (first | (with_reducible first | exact HB.out | apply below_alloc | apply pw_below_drewN | apply below_drew1) | exact HB.out)⟩⟩
           ·rw [if_neg c26] at H
            exact absurd H (by simp)
         ·rw [if_neg c17] at H
          exact absurd H (by simp)
        ·rw [if_neg c16] at H
         exact absurd H (by simp)
       ·rw [if_neg c15] at H
        have c15b0 : decide (x32_2 < (l2.length : Int)) = false := decide_eq_false c15
        clear c15
        replace H := Option.bind_eq_some_iff.mp H
        obtain ⟨t204, A280, H⟩ := H
        replace H : (some (t204, true)) = some (r1, r2) := H
        have A28 := Aside0.mk A280
        clear A280
        simp only [Option.some.injEq, Prod.mk.injEq] at H
        obtain ⟨rfl, rfl⟩ := H
        obtain ⟨Ao29, co29, eo29⟩ := Kd.R_slice HO_8.out
        subst eo29
        go_wp2_with (first | ((with_reducible refine gate_callee (f := 50) rfl ?_); refine goesL_ (some 47) rfl rfl Try.func50 (by kernel_rfl) rfl #[.slice Ao29 x8_2.length co29] rfl (by (try simp only [List.map_toArray, List.map_cons, List.map_nil]); first | done | rfl | (simp only [List.length_drop, List.length_take]; rfl)) ?_; (with_reducible refine (impl_copied.calls _ _ x8_2 t204 _ ?side1 ?side2 A28.out).mono ?_); (case side1 => repeat (first | exact (Kd.R_reads' HO_8.out).2.2 | (with_reducible refine Kd.C_alloc ?_ _) | (with_reducible refine Kd.C_drewN ?_ _) | (with_reducible refine Kd.C_drew ?_))); (case side2 => exact (Kd.R_reads' HO_8.out).2.1); rintro e w30 ⟨v205, rfl, ho0, hb⟩; refine ⟨_, rfl, ?_⟩; (try have hone_ := (Kd.R_val ho0).2); have n0_ := Aside0.mk (Kd.R_elder' (by (with_reducible repeat (first | apply Kd.R_alloc | apply Kd.R_drewN | apply Kd.R_drew)); exact HO_8.out) (Kd.R_base ho0) hb); have n1_ := Aside0.mk (Kd.R_lower (Kd.R_new' ho0 (Kd.R_lt (by (with_reducible repeat (first | apply Kd.R_alloc | apply Kd.R_drewN | apply Kd.R_drew)); exact HO_8.out))) (below_size (by repeat (first | (with_reducible first | exact HB.out | apply below_alloc | apply pw_below_drewN | apply below_drew1) | exact HB.out)))); have n2_ := Aside0.mk (below_step (by repeat (first | (with_reducible first | exact HB.out | apply below_alloc | apply pw_below_drewN | apply below_drew1) | exact HB.out)) hb); clear HO_8; clear HB; have HO_8 := n0_; have HO206 := n1_; have HB := n2_; clear n0_ n1_ n2_; (try clear hb); (try clear hb2); (try clear hk); (try clear hi); (try clear ho0)))
        go_ret2
        exact ⟨_, by first | rfl | (simp [errW_none, errW_some] <;> rfl) | (simp [*, errW_none, errW_some] <;> rfl), by (with_reducible repeat (first | apply Kd.R_alloc | apply Kd.R_drewN | apply Kd.R_drew)); exact Kd.R_mono HO206.out (fun _ hk => trivial), by repeat (first | (with_reducible first | exact HB.out | apply below_alloc | apply pw_below_drewN | apply below_drew1) | exact HB.out)⟩
 ·replace c6 := Bool.eq_false_iff.mpr c6
  subst c6
  have H1 : (some ((([] : List ByteArray)), false)) = some (r1, r2) := by rw [if_neg (show ¬ (false = true) by decide)] at H; exact H
  clear H
  have H := H1
  clear H1
  obtain ⟨y194, hy194⟩ : ∃ y_ : List ByteArray, y_ = (([] : List ByteArray)) := ⟨_, rfl⟩
  replace H : (some (y194, false)) = some (r1, r2) := by first | (rw [hy194]; with_reducible exact H) | (have H2_ := (Option.bind_some _ _).symm.trans H; rw [hy194]; with_reducible exact H2_) | (have H2_ := (Option.bind_some _ _).symm.trans H; with_reducible exact H2_) | with_reducible exact H | (rw [hy194]; exact H) | exact H
  have Ny194 := Aside0.mk hy194
  clear hy194
  simp only [Option.some.injEq, Prod.mk.injEq] at H
  obtain ⟨rfl, rfl⟩ := H
  go_wp2_with (first | ((with_reducible refine gate_dst (N := 14) rfl ?_); (try (refine gate_guard (by rfl) ?_; dsimp only)); refine Kd.R_lit Kd.string _ 9 ?hg (N := 14) ?hd (xs := ([] : List ByteArray)) (inner := []) (ok := fun _ => True) (okp := fun _ => True) ?hr ?hp (fun _ hk => hk) trivial (Below.refl _ _) (Nat.le_refl _) (by simp) ?_; (case hd => rfl); (case hg => rfl); (case hr => first | (go_simp; done) | (go_simp; rfl)); (case hp => exact (Reps.none _ _)); intro v195 w31 ho32 hb hg_ hnew_; clear hg_ hnew_; (first | rw [← Ny194.out] at ho32 | (simp only [Int.reduceToNat] at ho32; rw [← Ny194.out] at ho32)); have n0_ := Aside0.mk (Kd.R_lower ho32 (below_size (by repeat (first | (with_reducible first | exact HB.out | apply below_alloc | apply pw_below_drewN | apply below_drew1) | exact HB.out)))); have n1_ := Aside0.mk (below_step (by repeat (first | (with_reducible first | exact HB.out | apply below_alloc | apply pw_below_drewN | apply below_drew1) | exact HB.out)) hb); clear HB; have HO196 := n0_; have HB := n1_; clear n0_ n1_; clear hb ho32))
  go_ret2
  exact ⟨_, by first | rfl | (simp [errW_none, errW_some] <;> rfl) | (simp [*, errW_none, errW_some] <;> rfl), by (with_reducible repeat (first | apply Kd.R_alloc | apply Kd.R_drewN | apply Kd.R_drew)); exact HO196.out, by repeat (first | (with_reducible first | exact HB.out | apply below_alloc | apply pw_below_drewN | apply below_drew1) | exact HB.out)⟩
end Go.Proofs.Ytpokafkkfdponaa.PFnExactListMove
namespace Go.Proofs.Ytpokafkkfdponaa.PFnExactListMove
open Go.RowKit Go.Proofs.YtpokafkkfdponaaW.PrintWords Go.Proofs.YtpokafkkfdponaaW.PrintLast Go.Proofs.YtpokafkkfdponaaW.PrintMore Go.Proofs.Ytpokafkkfdponaa.Reg
attribute [local go_sem] run_store_v max2_int min2_int max_two min_two max_three min_three max_four min_four
set_option linter.unusedVariables false
set_option linter.unusedSimpArgs false
def impl_ListMove.j0 : Nat → List ByteArray → List ByteArray → List ByteArray → List ByteArray → Bool → Option (List ByteArray × List ByteArray × Bool)
 | 0, _, _, _, _, _ => none
 | k + 1, x0, x1, x11, x14, x36 => if x36 = true then ((impl_copied.f x0).bind fun t230 => ((impl_copied.f x1).bind fun t233 => (some (t230, t233, false)))) else (some (x11, x14, true))
def impl_ListMove.f (k : Nat) (l0 : List ByteArray) (l1 : List ByteArray) (a2 : Bool) (a3 : Bool) : Option (List ByteArray × List ByteArray × Bool) := (impl_ListPop.f k l0 a2).bind fun bt218 => ((impl_ListPush.f k l1 a3 (([bt218.2.1] : List ByteArray))).bind fun bt226 => (if bt218.2.2 = true then (impl_ListMove.j0 k l0 l1 bt218.1 bt226.1 (!bt226.2)) else (impl_ListMove.j0 k l0 l1 bt218.1 bt226.1 true)))
set_option maxHeartbeats 8000000 in
set_option maxRecDepth 100000 in
theorem impl_ListMove.calls (k : Nat) (A0 : Option Addr) (c0 : Nat) (l0 : List ByteArray) (A1 : Option Addr) (c1 : Nat) (l1 : List ByteArray) (a2 : Bool) (a3 : Bool) (r1 : List ByteArray) (r2 : List ByteArray) (r3 : Bool) (w : World) (hr0 : Kd.C Kd.string w A0 l0.length l0) (hc0 : l0.length ≤ c0) (hr1 : Kd.C Kd.string w A1 l1.length l1) (hc1 : l1.length ≤ c1) (h : impl_ListMove.f k l0 l1 a2 a3 = some (r1, r2, r3)) :
  Calls Try.prog 22 #[.slice A0 l0.length c0, .slice A1 l1.length c1, .bool a2, .bool a3] w fun e w' => ∃ v0_ v1_ : Value, e = .returned (.tuple #[v0_, v1_, .bool r3]) ∧ Kd.R Kd.string 9 w' w.heap.size (fun k_ => some k_ ≠ (v1_ : Value).ownBlock) v0_ r1 ∧ Kd.R Kd.string 9 w' w.heap.size (fun k_ => some k_ ≠ (v0_ : Value).ownBlock) v1_ r2 ∧ Below w.heap.size w w' := by
 have HR0 := Aside0.mk hr0
 have HC0 := Aside0.mk hc0
 clear hr0 hc0
 have HR1 := Aside0.mk hr1
 have HC1 := Aside0.mk hc1
 clear hr1 hc1
 have HB := Aside0.mk (Below.refl w.heap.size w)
 have H : ((impl_ListPop.f k l0 a2).bind fun bt218 => ((impl_ListPush.f k l1 a3 (([bt218.2.1] : List ByteArray))).bind fun bt226 => (if bt218.2.2 = true then (impl_ListMove.j0 k l0 l1 bt218.1 bt226.1 (!bt226.2)) else (impl_ListMove.j0 k l0 l1 bt218.1 bt226.1 true)))) = some (r1, r2, r3) := h
 clear h
 replace H := Option.bind_eq_some_iff.mp H
 obtain ⟨⟨t218, t219, t220⟩, A50, H⟩ := H
 replace H : ((impl_ListPush.f k l1 a3 (([t219] : List ByteArray))).bind fun bt226 => (if t220 = true then (impl_ListMove.j0 k l0 l1 t218 bt226.1 (!bt226.2)) else (impl_ListMove.j0 k l0 l1 t218 bt226.1 true))) = some (r1, r2, r3) := H
 have A5 := Aside0.mk A50
 clear A50
 obtain ⟨y223, hy223⟩ : ∃ y_ : List ByteArray, y_ = (([t219] : List ByteArray)) := ⟨_, rfl⟩
 replace H : ((impl_ListPush.f k l1 a3 y223).bind fun bt226 => (if t220 = true then (impl_ListMove.j0 k l0 l1 t218 bt226.1 (!bt226.2)) else (impl_ListMove.j0 k l0 l1 t218 bt226.1 true))) = some (r1, r2, r3) := by first | (rw [hy223]; with_reducible exact H) | (have H2_ := (Option.bind_some _ _).symm.trans H; rw [hy223]; with_reducible exact H2_) | (have H2_ := (Option.bind_some _ _).symm.trans H; with_reducible exact H2_) | with_reducible exact H | (rw [hy223]; exact H) | exact H
 have Ny223 := Aside0.mk hy223
 clear hy223
 replace H := Option.bind_eq_some_iff.mp H
 obtain ⟨⟨t226, t227⟩, A60, H⟩ := H
 replace H : (if t220 = true then (impl_ListMove.j0 k l0 l1 t218 t226 (!t227)) else (impl_ListMove.j0 k l0 l1 t218 t226 true)) = some (r1, r2, r3) := H
 have A6 := Aside0.mk A60
 clear A60
 have HC7 := Aside0.mk H
 clear H
 go_enter Try.func22, Try.ntmps22
 go_upto_region 3 with (first | ((with_reducible refine gate_callee (f := 48) rfl ?_); refine goesL_ (some 19) rfl rfl Try.func48 (by kernel_rfl) rfl #[.slice A0 l0.length c0, .bool a2] rfl (by (try simp only [List.map_toArray, List.map_cons, List.map_nil]); first | done | rfl | (simp only [List.length_drop, List.length_take]; rfl)) ?_; (with_reducible refine (impl_ListPop.calls k _ _ l0 a2 t218 t219 t220 _ ?side1 ?side2 A5.out).mono ?_); (case side1 => repeat (first | exact HR0.out | (with_reducible refine Kd.C_alloc ?_ _) | (with_reducible refine Kd.C_drewN ?_ _) | (with_reducible refine Kd.C_drew ?_))); (case side2 => exact HC0.out); rintro e w8 ⟨v221, rfl, ho0, hb⟩; refine ⟨_, rfl, ?_⟩; (try have hone_ := (Kd.R_val ho0).2); have n0_ := Aside0.mk (Kd.R_lower ho0 (below_size (by repeat (first | (with_reducible first | exact HB.out | apply below_alloc | apply pw_below_drewN | apply below_drew1) | exact HB.out)))); have n1_ := Aside0.mk (below_step (by repeat (first | (with_reducible first | exact HB.out | apply below_alloc | apply pw_below_drewN | apply below_drew1) | exact HB.out)) hb); clear HB; have HO222 := n0_; have HB := n1_; clear n0_ n1_; (try clear hb); (try clear hb2); (try clear hk); (try clear hi); (try clear ho0)) | ((with_reducible refine gate_dst (N := 27) rfl ?_); refine Kd.R_lit Kd.string _ 9 ?hg (N := 27) ?hd (xs := ([t219] : List ByteArray)) (inner := [.string t219]) (ok := fun _ => True) (okp := fun _ => True) ?hr ?hp (fun _ hk => hk) trivial (Below.refl _ _) (Nat.le_refl _) (by simp) ?_; (case hd => rfl); (case hg => rfl); (case hr => first | (go_simp; done) | (go_simp; rfl)); (case hp => exact (Reps.one (show Kd.M Kd.string _ _ _ t219 [.string t219] from rfl) (Reps.none _ _))); intro v224 w9 ho10 hb hg_ hnew_; clear hg_ hnew_; (first | rw [← Ny223.out] at ho10 | (simp only [Int.reduceToNat] at ho10; rw [← Ny223.out] at ho10)); have n0_ := Aside0.mk (Kd.R_elder' (by (with_reducible repeat (first | apply Kd.R_alloc | apply Kd.R_drewN | apply Kd.R_drew)); exact HO222.out) (Kd.R_base ho10) hb); have n1_ := Aside0.mk (Kd.R_lower (Kd.R_new' ho10 (Kd.R_lt (by (with_reducible repeat (first | apply Kd.R_alloc | apply Kd.R_drewN | apply Kd.R_drew)); exact HO222.out))) (below_size (by repeat (first | (with_reducible first | exact HB.out | apply below_alloc | apply pw_below_drewN | apply below_drew1) | exact HB.out)))); have n2_ := Aside0.mk (below_step (by repeat (first | (with_reducible first | exact HB.out | apply below_alloc | apply pw_below_drewN | apply below_drew1) | exact HB.out)) hb); clear HO222; clear HB; have HO222 := n0_; have HO225 := n1_; have HB := n2_; clear n0_ n1_ n2_; clear hb ho10; obtain ⟨Ao11, co11, eo11⟩ := Kd.R_slice HO225.out; subst eo11) | ((with_reducible refine gate_callee (f := 49) rfl ?_); refine goesL_ (some 28) rfl rfl Try.func49 (by kernel_rfl) rfl #[.slice A1 l1.length c1, .bool a3, .slice Ao11 y223.length co11] rfl (by (try simp only [List.map_toArray, List.map_cons, List.map_nil]); first | done | rfl | (simp only [List.length_drop, List.length_take]; rfl)) ?_; (with_reducible refine (impl_ListPush.calls k _ _ l1 a3 _ _ y223 t226 t227 _ ?side1 ?side2 ?side3 ?side4 A6.out).mono ?_); (case side1 => repeat (first | exact (Kd.C_below HR1.out HB.out) | (with_reducible refine Kd.C_alloc ?_ _) | (with_reducible refine Kd.C_drewN ?_ _) | (with_reducible refine Kd.C_drew ?_))); (case side2 => exact HC1.out); (case side3 => repeat (first | exact (Kd.R_reads' HO225.out).2.2 | (with_reducible refine Kd.C_alloc ?_ _) | (with_reducible refine Kd.C_drewN ?_ _) | (with_reducible refine Kd.C_drew ?_))); (case side4 => exact (Kd.R_reads' HO225.out).2.1); rintro e w12 ⟨v228, rfl, ho0, hb⟩; refine ⟨_, rfl, ?_⟩; (try have hone_ := (Kd.R_val ho0).2); have n0_ := Aside0.mk (Kd.R_elder' (by (with_reducible repeat (first | apply Kd.R_alloc | apply Kd.R_drewN | apply Kd.R_drew)); exact HO222.out) (Kd.R_base ho0) hb); have n1_ := Aside0.mk (Kd.R_elder' (by (with_reducible repeat (first | apply Kd.R_alloc | apply Kd.R_drewN | apply Kd.R_drew)); exact HO225.out) (Kd.R_base ho0) hb); have n2_ := Aside0.mk (Kd.R_lower (Kd.R_new' (Kd.R_new' ho0 (Kd.R_lt (by (with_reducible repeat (first | apply Kd.R_alloc | apply Kd.R_drewN | apply Kd.R_drew)); exact HO222.out))) (Kd.R_lt (by (with_reducible repeat (first | apply Kd.R_alloc | apply Kd.R_drewN | apply Kd.R_drew)); exact HO225.out))) (below_size (by repeat (first | (with_reducible first | exact HB.out | apply below_alloc | apply pw_below_drewN | apply below_drew1) | exact HB.out)))); have n3_ := Aside0.mk (below_step (by repeat (first | (with_reducible first | exact HB.out | apply below_alloc | apply pw_below_drewN | apply below_drew1) | exact HB.out)) hb); clear HO222; clear HO225; clear HB; have HO222 := n0_; have HO225 := n1_; have HO229 := n2_; have HB := n3_; clear n0_ n1_ n2_ n3_; (try clear hb); (try clear hb2); (try clear hk); (try clear hi); (try clear ho0)))
 (try simp only [Act.put, List.setIfInBounds_toArray, List.set_cons_zero, List.set_cons_succ])
 go_cut [36] (fun v36 wc => ∃ (kq : Nat) (x36_6 : Bool), v36 = .bool x36_6 ∧ Aside0 (impl_ListMove.j0 kq l0 l1 t218 t226 x36_6 = some (r1, r2, r3)) ∧ Aside0 (kq ≤ k) ∧ Aside0 (Kd.R Kd.string 9 wc w.heap.size (fun k_ => some k_ ≠ (v228 : Value).ownBlock) v221 t218) ∧ Aside0 (Kd.R Kd.string 9 wc w.heap.size (fun k_ => some k_ ≠ (v221 : Value).ownBlock) v228 t226) ∧ Aside0 (Below w.heap.size w wc))
 case first =>
  have H := HC7.out
  clear HC7
  by_cases c13 : t220 = true
  ·subst c13
   have H1 : (impl_ListMove.j0 k l0 l1 t218 t226 (!t227)) = some (r1, r2, r3) := by rw [if_pos rfl] at H; exact H
   clear H
   have H := H1
   clear H1
   have H' := Aside0.mk H
   clear H
   go_wp2
   go_meet
   case rel => exact ⟨_, (!t227), (by first | rfl | (simp; done) | (simp [*]; done)), H', ⟨by first | omega | exact Nat.le_refl _⟩, ⟨by (with_reducible repeat (first | apply Kd.R_alloc | apply Kd.R_drewN | apply Kd.R_drew)); exact Kd.R_mono HO222.out (fun _ hk => hk.2)⟩, ⟨by (with_reducible repeat (first | apply Kd.R_alloc | apply Kd.R_drewN | apply Kd.R_drew)); exact Kd.R_mono HO229.out (fun _ hk => hk.1.2)⟩, ⟨by repeat (first | (with_reducible first | exact HB.out | apply below_alloc | apply pw_below_drewN | apply below_drew1) | exact HB.out)⟩⟩
  ·replace c13 := Bool.eq_false_iff.mpr c13
   subst c13
   have H1 : (impl_ListMove.j0 k l0 l1 t218 t226 true) = some (r1, r2, r3) := by rw [if_neg (show ¬ (false = true) by decide)] at H; exact H
   clear H
   have H := H1
   clear H1
   have H' := Aside0.mk H
   clear H
   go_wp2
   go_meet
   case rel => exact ⟨_, (true), (by first | rfl | (simp; done) | (simp [*]; done)), H', ⟨by first | omega | exact Nat.le_refl _⟩, ⟨by (with_reducible repeat (first | apply Kd.R_alloc | apply Kd.R_drewN | apply Kd.R_drew)); exact Kd.R_mono HO222.out (fun _ hk => hk.2)⟩, ⟨by (with_reducible repeat (first | apply Kd.R_alloc | apply Kd.R_drewN | apply Kd.R_drew)); exact Kd.R_mono HO229.out (fun _ hk => hk.1.2)⟩, ⟨by repeat (first | (with_reducible first | exact HB.out | apply below_alloc | apply pw_below_drewN | apply below_drew1) | exact HB.out)⟩⟩
 case rest =>
  clear HC7
  try clear c1
  try clear c2
  try clear p2
  try clear c4
  try clear c13
  obtain ⟨kq, x36_6, rfl, HA, HJ6, HO_11, HO_14, HB⟩ := hcut
  cases kq with
  | zero => exact absurd HA.out (by simp [impl_ListMove.j0])
  | succ kj6 =>
   have H := HA.out
   clear HA
   simp only [impl_ListMove.j0] at H
   by_cases c14 : x36_6 = true
   ·subst c14
    have H1 : ((impl_copied.f l0).bind fun t230 => ((impl_copied.f l1).bind fun t233 => (some (t230, t233, false)))) = some (r1, r2, r3) := by rw [if_pos rfl] at H; exact H
    clear H
    have H := H1
    clear H1
    replace H := Option.bind_eq_some_iff.mp H
    obtain ⟨t230, A150, H⟩ := H
    replace H : ((impl_copied.f l1).bind fun t233 => (some (t230, t233, false))) = some (r1, r2, r3) := H
    have A15 := Aside0.mk A150
    clear A150
    replace H := Option.bind_eq_some_iff.mp H
    obtain ⟨t233, A160, H⟩ := H
    replace H : (some (t230, t233, false)) = some (r1, r2, r3) := H
    have A16 := Aside0.mk A160
    clear A160
    simp only [Option.some.injEq, Prod.mk.injEq] at H
    obtain ⟨rfl, rfl, rfl⟩ := H
    go_wp2_with (first | ((with_reducible refine gate_callee (f := 50) rfl ?_); refine goesL_ (some 38) rfl rfl Try.func50 (by kernel_rfl) rfl #[.slice A0 l0.length c0] rfl (by (try simp only [List.map_toArray, List.map_cons, List.map_nil]); first | done | rfl | (simp only [List.length_drop, List.length_take]; rfl)) ?_; (with_reducible refine (impl_copied.calls _ _ l0 t230 _ ?side1 ?side2 A15.out).mono ?_); (case side1 => repeat (first | exact (Kd.C_below HR0.out HB.out) | (with_reducible refine Kd.C_alloc ?_ _) | (with_reducible refine Kd.C_drewN ?_ _) | (with_reducible refine Kd.C_drew ?_))); (case side2 => exact HC0.out); rintro e w17 ⟨v231, rfl, ho0, hb⟩; refine ⟨_, rfl, ?_⟩; (try have hone_ := (Kd.R_val ho0).2); have n0_ := Aside0.mk (Kd.R_elder' (by (with_reducible repeat (first | apply Kd.R_alloc | apply Kd.R_drewN | apply Kd.R_drew)); exact HO_11.out) (Kd.R_base ho0) hb); have n1_ := Aside0.mk (Kd.R_elder' (by (with_reducible repeat (first | apply Kd.R_alloc | apply Kd.R_drewN | apply Kd.R_drew)); exact HO_14.out) (Kd.R_base ho0) hb); have n2_ := Aside0.mk (Kd.R_lower (Kd.R_new' (Kd.R_new' ho0 (Kd.R_lt (by (with_reducible repeat (first | apply Kd.R_alloc | apply Kd.R_drewN | apply Kd.R_drew)); exact HO_11.out))) (Kd.R_lt (by (with_reducible repeat (first | apply Kd.R_alloc | apply Kd.R_drewN | apply Kd.R_drew)); exact HO_14.out))) (below_size (by repeat (first | (with_reducible first | exact HB.out | apply below_alloc | apply pw_below_drewN | apply below_drew1) | exact HB.out)))); have n3_ := Aside0.mk (below_step (by repeat (first | (with_reducible first | exact HB.out | apply below_alloc | apply pw_below_drewN | apply below_drew1) | exact HB.out)) hb); clear HO_11; clear HO_14; clear HB; have HO_11 := n0_; have HO_14 := n1_; have HO232 := n2_; have HB := n3_; clear n0_ n1_ n2_ n3_; (try clear hb); (try clear hb2); (try clear hk); (try clear hi); (try clear ho0)) | ((with_reducible refine gate_callee (f := 50) rfl ?_); refine goesL_ (some 40) rfl rfl Try.func50 (by kernel_rfl) rfl #[.slice A1 l1.length c1] rfl (by (try simp only [List.map_toArray, List.map_cons, List.map_nil]); first | done | rfl | (simp only [List.length_drop, List.length_take]; rfl)) ?_; (with_reducible refine (impl_copied.calls _ _ l1 t233 _ ?side1 ?side2 A16.out).mono ?_); (case side1 => repeat (first | exact (Kd.C_below HR1.out HB.out) | (with_reducible refine Kd.C_alloc ?_ _) | (with_reducible refine Kd.C_drewN ?_ _) | (with_reducible refine Kd.C_drew ?_))); (case side2 => exact HC1.out); rintro e w18 ⟨v234, rfl, ho0, hb⟩; refine ⟨_, rfl, ?_⟩; (try have hone_ := (Kd.R_val ho0).2); have n0_ := Aside0.mk (Kd.R_elder' (by (with_reducible repeat (first | apply Kd.R_alloc | apply Kd.R_drewN | apply Kd.R_drew)); exact HO_11.out) (Kd.R_base ho0) hb); have n1_ := Aside0.mk (Kd.R_elder' (by (with_reducible repeat (first | apply Kd.R_alloc | apply Kd.R_drewN | apply Kd.R_drew)); exact HO_14.out) (Kd.R_base ho0) hb); have n2_ := Aside0.mk (Kd.R_elder' (by (with_reducible repeat (first | apply Kd.R_alloc | apply Kd.R_drewN | apply Kd.R_drew)); exact HO232.out) (Kd.R_base ho0) hb); have n3_ := Aside0.mk (Kd.R_lower (Kd.R_new' (Kd.R_new' (Kd.R_new' ho0 (Kd.R_lt (by (with_reducible repeat (first | apply Kd.R_alloc | apply Kd.R_drewN | apply Kd.R_drew)); exact HO_11.out))) (Kd.R_lt (by (with_reducible repeat (first | apply Kd.R_alloc | apply Kd.R_drewN | apply Kd.R_drew)); exact HO_14.out))) (Kd.R_lt (by (with_reducible repeat (first | apply Kd.R_alloc | apply Kd.R_drewN | apply Kd.R_drew)); exact HO232.out))) (below_size (by repeat (first | (with_reducible first | exact HB.out | apply below_alloc | apply pw_below_drewN | apply below_drew1) | exact HB.out)))); have n4_ := Aside0.mk (below_step (by repeat (first | (with_reducible first | exact HB.out | apply below_alloc | apply pw_below_drewN | apply below_drew1) | exact HB.out)) hb); clear HO_11; clear HO_14; clear HO232; clear HB; have HO_11 := n0_; have HO_14 := n1_; have HO232 := n2_; have HO235 := n3_; have HB := n4_; clear n0_ n1_ n2_ n3_ n4_; (try clear hb); (try clear hb2); (try clear hk); (try clear hi); (try clear ho0)))
    go_ret3
    exact ⟨_, _, by first | rfl | (simp [errW_none, errW_some] <;> rfl) | (simp [*, errW_none, errW_some] <;> rfl), by (with_reducible repeat (first | apply Kd.R_alloc | apply Kd.R_drewN | apply Kd.R_drew)); exact Kd.R_mono HO232.out (fun _ hk => hk.2), by (with_reducible repeat (first | apply Kd.R_alloc | apply Kd.R_drewN | apply Kd.R_drew)); exact Kd.R_mono HO235.out (fun _ hk => hk.2), by repeat (first | (with_reducible first | exact HB.out | apply below_alloc | apply pw_below_drewN | apply below_drew1) | exact HB.out)⟩
   ·replace c14 := Bool.eq_false_iff.mpr c14
    subst c14
    have H1 : (some (t218, t226, true)) = some (r1, r2, r3) := by rw [if_neg (show ¬ (false = true) by decide)] at H; exact H
    clear H
    have H := H1
    clear H1
    simp only [Option.some.injEq, Prod.mk.injEq] at H
    obtain ⟨rfl, rfl, rfl⟩ := H
    go_wp2
    go_ret3
    exact ⟨_, _, by first | rfl | (simp [errW_none, errW_some] <;> rfl) | (simp [*, errW_none, errW_some] <;> rfl), by (with_reducible repeat (first | apply Kd.R_alloc | apply Kd.R_drewN | apply Kd.R_drew)); exact HO_11.out, by (with_reducible repeat (first | apply Kd.R_alloc | apply Kd.R_drewN | apply Kd.R_drew)); exact HO_14.out, by repeat (first | (with_reducible first | exact HB.out | apply below_alloc | apply pw_below_drewN | apply below_drew1) | exact HB.out)⟩
end Go.Proofs.Ytpokafkkfdponaa.PFnExactListMove
namespace Go.Proofs.Ytpokafkkfdponaa.PFnExactListMove
open Go.RowKit Go.Proofs.YtpokafkkfdponaaW.PrintWords Go.Proofs.YtpokafkkfdponaaW.PrintLast Go.Proofs.YtpokafkkfdponaaW.PrintMore Go.Proofs.Ytpokafkkfdponaa.Reg
attribute [local go_sem] max2_int min2_int max_two min_two max_three min_three max_four min_four
set_option linter.unusedVariables false
set_option linter.unusedSimpArgs false
def laws_eqStringS.l0 : Nat → List ByteArray → List ByteArray → Int → Option (Bool)
 | 0, _, _, _ => none
 | k + 1, x0, x1, x5 => if x5 < (x0.length : Int) then (if 0 ≤ x5 then (if x5 < (x1.length : Int) then (if (rdOf ByteArray.empty x0 x5).toList = (rdOf ByteArray.empty x1 x5).toList then (laws_eqStringS.l0 k x0 x1 (wrap64 (x5 + 1))) else (some false)) else (none)) else (none)) else (some true)
def laws_eqStringS.f (k : Nat) (l0 : List ByteArray) (l1 : List ByteArray) : Option (Bool) := if (l0.length : Int) = (l1.length : Int) then (laws_eqStringS.l0 k l0 l1 0) else (some false)
set_option maxHeartbeats 8000000 in
set_option maxRecDepth 100000 in
theorem laws_eqStringS.calls (k : Nat) (A0 : Option Addr) (c0 : Nat) (l0 : List ByteArray) (A1 : Option Addr) (c1 : Nat) (l1 : List ByteArray) (r : Bool) (w : World) (hr0 : Kd.C Kd.string w A0 l0.length l0) (hc0 : l0.length ≤ c0) (hr1 : Kd.C Kd.string w A1 l1.length l1) (hc1 : l1.length ≤ c1) (h : laws_eqStringS.f k l0 l1 = some r) :
  Calls Try.prog 23 #[.slice A0 l0.length c0, .slice A1 l1.length c1] w fun e w' => e = .returned (.bool r) ∧ Drawn0 w w' := by
 have HR0 := Aside0.mk hr0
 have HC0 := Aside0.mk hc0
 clear hr0 hc0
 have HR1 := Aside0.mk hr1
 have HC1 := Aside0.mk hc1
 clear hr1 hc1
 have H : (if (l0.length : Int) = (l1.length : Int) then (laws_eqStringS.l0 k l0 l1 0) else (some false)) = some r := h
 clear h
 by_cases c3 : (l0.length : Int) = (l1.length : Int)
 ·rw [if_pos c3] at H
  have c3b0 : ((l0.length : Int) == (l1.length : Int)) = true := beq_iff_eq.mpr c3
  have c3b1 : ((l0.length : Int) != (l1.length : Int)) = false := bne_eq_false_iff_eq.mpr c3
  have c3b2 : (l0.length == l1.length) = true := by first | simpa using c3 | (simp at c3 ⊢; omega)
  clear c3
  have H' := Aside0.mk H
  clear H
  go_enter Try.func23, Try.ntmps23
  go_wp2
  repeat (go_quiet (fail); try go_wp2)
  go_loopg [5] k (fun kq v5 w' => ∃ (x5_1 : Int), v5 = .int .i64 x5_1 ∧ Aside0 (laws_eqStringS.l0 kq l0 l1 x5_1 = some r) ∧ Aside0 (kq ≤ k) ∧ Drawn0 w w')
  case atStart => exact ⟨(0), (by first | rfl | (simp; done) | (simp [*]; done)), H', ⟨Nat.le_refl _⟩, by repeat (first | exact Drawn0.refl _ | apply Drawn0.step)⟩
  case round =>
   clear H'
   try clear c1
   try clear c2
   try clear p2
   try clear c3
   try clear c3b0
   try clear c3b1
   try clear c3b2
   obtain ⟨x5_1, rfl, HA, HK1, ⟨m1, rfl⟩⟩ := hrel
   cases gk with
   | zero => exact absurd HA.out (by simp [laws_eqStringS.l0])
   | succ k1 =>
    have H := HA.out
    clear HA
    simp only [laws_eqStringS.l0] at H
    by_cases c4 : x5_1 < (l0.length : Int)
    ·rw [if_pos c4] at H
     have c4b0 : decide (x5_1 < (l0.length : Int)) = true := decide_eq_true c4
     clear c4
     by_cases c5 : 0 ≤ x5_1
     ·rw [if_pos c5] at H
      have c5b0 : decide (0 ≤ x5_1) = true := decide_eq_true c5
      clear c5
      by_cases c6 : x5_1 < (l1.length : Int)
      ·rw [if_pos c6] at H
       have c6b0 : decide (x5_1 < (l1.length : Int)) = true := decide_eq_true c6
       clear c6
       have HC7 := Aside0.mk H
       clear H
       have p236 := od (0 ≤ (x5_1 : Int))
       have q236 := od (x5_1 < (l0.length : Int))
       obtain ⟨ad236, e236, hx236_0⟩ := Kd.at_string HR0.out x5_1 p236 q236
       cases e236
       replace p236 := eq_true p236
       replace q236 := eq_true q236
       have p237 := od (0 ≤ (x5_1 : Int))
       have q237 := od (x5_1 < (l1.length : Int))
       obtain ⟨ad237, e237, hx237_0⟩ := Kd.at_string HR1.out x5_1 p237 q237
       cases e237
       replace p237 := eq_true p237
       replace q237 := eq_true q237
       go_upto_if 25 with (fail)
       repeat (go_quiet (fail); try go_upto_if 25 with (fail))
       have H := HC7.out
       clear HC7
       by_cases c8 : (rdOf ByteArray.empty l0 x5_1).toList = (rdOf ByteArray.empty l1 x5_1).toList
       ·rw [if_pos c8] at H
        have c8b0 : ((rdOf ByteArray.empty l0 x5_1).toList == (rdOf ByteArray.empty l1 x5_1).toList) = true := beq_iff_eq.mpr c8
        have c8b1 : ((rdOf ByteArray.empty l0 x5_1).toList != (rdOf ByteArray.empty l1 x5_1).toList) = false := bne_eq_false_iff_eq.mpr c8
        clear c8
        (first | rw [c8b0] | rw [c8b1] | (simp only [i64_w, i32_w]; rw [c8b0]) | rw [c8b2] | skip)
        have H' := Aside0.mk H
        clear H
        go_wp2
        repeat (go_quiet (fail); try go_wp2)
        go_roundg k1
        case measure => have := HK1.out; omega
        case rel => exact ⟨(wrap64 (x5_1 + 1)), (by first | rfl | (simp; done) | (simp [*]; done)), H', ⟨by have := HK1.out; omega⟩, by repeat (first | exact Drawn0.refl _ | apply Drawn0.step)⟩
       ·rw [if_neg c8] at H
        have c8b0 : ((rdOf ByteArray.empty l0 x5_1).toList == (rdOf ByteArray.empty l1 x5_1).toList) = false := beq_eq_false_iff_ne.mpr c8
        have c8b1 : ((rdOf ByteArray.empty l0 x5_1).toList != (rdOf ByteArray.empty l1 x5_1).toList) = true := bne_iff_ne.mpr c8
        (first | rw [c8b0] | rw [c8b1] | (simp only [i64_w, i32_w]; rw [c8b0]) | rw [c8b2] | skip)
        obtain rfl := Option.some.inj H
        go_wp2
        repeat (go_quiet (fail); try go_wp2)
        go_ret
        exact ⟨by first | rfl | (simp; done) | (simp [*]; done), by repeat (first | exact Drawn0.refl _ | apply Drawn0.step)⟩
      ·rw [if_neg c6] at H
       exact absurd H (by simp)
     ·rw [if_neg c5] at H
      exact absurd H (by simp)
    ·rw [if_neg c4] at H
     have c4b0 : decide (x5_1 < (l0.length : Int)) = false := decide_eq_false c4
     clear c4
     obtain rfl := Option.some.inj H
     go_wp2
     repeat (go_quiet (fail); try go_wp2)
     go_ret
     exact ⟨by first | rfl | (simp; done) | (simp [*]; done), by repeat (first | exact Drawn0.refl _ | apply Drawn0.step)⟩
 ·rw [if_neg c3] at H
  have c3b0 : ((l0.length : Int) == (l1.length : Int)) = false := beq_eq_false_iff_ne.mpr c3
  have c3b1 : ((l0.length : Int) != (l1.length : Int)) = true := bne_iff_ne.mpr c3
  have c3b2 : (l0.length == l1.length) = false := by first | simpa using c3 | (simp at c3 ⊢; omega)
  obtain rfl := Option.some.inj H
  go_enter Try.func23, Try.ntmps23
  go_wp2
  repeat (go_quiet (fail); try go_wp2)
  go_ret
  exact ⟨by first | rfl | (simp; done) | (simp [*]; done), by repeat (first | exact Drawn0.refl _ | apply Drawn0.step)⟩
end Go.Proofs.Ytpokafkkfdponaa.PFnExactListMove
namespace Go.Proofs.Ytpokafkkfdponaa.PFnExactListMove
open Go.RowKit Go.Proofs.YtpokafkkfdponaaW.PrintWords Go.Proofs.YtpokafkkfdponaaW.PrintLast Go.Proofs.YtpokafkkfdponaaW.PrintMore Go.Proofs.Ytpokafkkfdponaa.Reg
attribute [local go_sem] max2_int min2_int max_two min_two max_three min_three max_four min_four
set_option linter.unusedVariables false
set_option linter.unusedSimpArgs false
def laws_markText.l0 : Nat → Int → ByteArray → Option (ByteArray)
 | 0, _, _ => none
 | k + 1, x0, x3 => if x0 > 0 then ((some (([(wrap64 (48 + (Int.tmod x0 10))) % 256] : List Int) : List Int)).bind fun y238 => (if (strOfNums y238).size + x3.size ≤ 9223372036854775807 then (laws_markText.l0 k (wrap64 (Int.tdiv x0 10)) ((strOfNums y238) ++ x3)) else (none))) else (if 1 + x3.size ≤ 9223372036854775807 then (some ((⟨#[109]⟩ : ByteArray) ++ x3)) else (none))
def laws_markText.f (k : Nat) (a0 : Int) : Option (ByteArray) := if a0 ≤ 0 then (some (⟨#[109, 48]⟩ : ByteArray)) else (laws_markText.l0 k a0 (⟨#[]⟩ : ByteArray))
set_option maxHeartbeats 8000000 in
set_option maxRecDepth 100000 in
theorem laws_markText.calls (k : Nat) (a0 : Int) (r : ByteArray) (w : World) (h : laws_markText.f k a0 = some r) :
  Calls Try.prog 51 #[.int .i64 a0] w fun e w' => e = .returned (.string r) ∧ Below w.heap.size w w' := by
 have HB := Aside0.mk (Below.refl w.heap.size w)
 have H : (if a0 ≤ 0 then (some (⟨#[109, 48]⟩ : ByteArray)) else (laws_markText.l0 k a0 (⟨#[]⟩ : ByteArray))) = some r := h
 clear h
 by_cases c2 : a0 ≤ 0
 ·rw [if_pos c2] at H
  have c2b0 : decide (a0 ≤ 0) = true := decide_eq_true c2
  clear c2
  obtain rfl := Option.some.inj H
  go_enter Try.func51, Try.ntmps51
  go_wp2
  go_ret
  exact ⟨by first | rfl | (simp [errW_none, errW_some] <;> rfl) | (simp [*, errW_none, errW_some] <;> rfl), by repeat (first | (with_reducible first | exact HB.out | apply below_alloc | apply pw_below_drewN | apply below_drew1) | exact HB.out)⟩
 ·rw [if_neg c2] at H
  have c2b0 : decide (a0 ≤ 0) = false := decide_eq_false c2
  clear c2
  have H' := Aside0.mk H
  clear H
  go_enter Try.func51, Try.ntmps51
  go_wp2
  go_loopg [0, 3] k (fun kq v0 v3 w' => ∃ (x0_1 : Int) (x3_1 : ByteArray), v0 = .int .i64 x0_1 ∧ v3 = .string x3_1 ∧ Aside0 (laws_markText.l0 kq x0_1 x3_1 = some r) ∧ Aside0 (kq ≤ k) ∧ Aside0 (Below w.heap.size w w'))
  case atStart => exact ⟨(a0), ((⟨#[]⟩ : ByteArray)), (by first | rfl | (simp; done) | (simp [*]; done)), (by first | rfl | (simp; done) | (simp [*]; done)), H', ⟨Nat.le_refl _⟩, ⟨by repeat (first | (with_reducible first | exact HB.out | apply below_alloc | apply pw_below_drewN | apply below_drew1) | exact HB.out)⟩⟩
  case round =>
   clear H'
   try clear c2
   try clear c2b0
   try clear p2
   obtain ⟨x0_1, x3_1, rfl, rfl, HA, HK1, HB⟩ := hrel
   cases gk with
   | zero => exact absurd HA.out (by simp [laws_markText.l0])
   | succ k1 =>
    have H := HA.out
    clear HA
    simp only [laws_markText.l0] at H
    by_cases c3 : x0_1 > 0
    ·rw [if_pos c3] at H
     have c3b0 : decide (0 < x0_1) = true := decide_eq_true c3
     clear c3
     obtain ⟨y238, hy238⟩ : ∃ y_ : List Int, y_ = (([(wrap64 (48 + (Int.tmod x0_1 10))) % 256] : List Int)) := ⟨_, rfl⟩
     replace H : (if (strOfNums y238).size + x3_1.size ≤ 9223372036854775807 then (laws_markText.l0 k1 (wrap64 (Int.tdiv x0_1 10)) ((strOfNums y238) ++ x3_1)) else (none)) = some r := by first | (rw [hy238]; with_reducible exact H) | (have H2_ := (Option.bind_some _ _).symm.trans H; rw [hy238]; with_reducible exact H2_) | (have H2_ := (Option.bind_some _ _).symm.trans H; with_reducible exact H2_) | with_reducible exact H | (rw [hy238]; exact H) | exact H
     have Ny238 := Aside0.mk hy238
     clear hy238
     by_cases c4 : (strOfNums y238).size + x3_1.size ≤ 9223372036854775807
     ·rw [if_pos c4] at H
      have c4b0 := eq_true c4
      have c4b1 : decide ((strOfNums y238).size + x3_1.size ≤ 9223372036854775807) = true := decide_eq_true c4
      try have c4b2 : (9223372036854775807 < (strOfNums y238).size + x3_1.size) = False := eq_false (Nat.not_lt.2 c4)
      have H' := Aside0.mk H
      clear H
      go_wp2_with (first | ((with_reducible refine gate_dst (N := 12) rfl ?_); refine Kd.R_lit (Kd.int .u8) _ 5 ?hg (N := 12) ?hd (xs := ([(wrap64 (48 + (Int.tmod x0_1 10))) % 256] : List Int)) (inner := [.int .u8 ((wrap64 (48 + (Int.tmod x0_1 10))) % 256)]) (ok := fun _ => True) (okp := fun _ => True) ?hr ?hp (fun _ hk => hk) trivial (Below.refl _ _) (Nat.le_refl _) (by simp) ?_; (case hd => rfl); (case hg => rfl); (case hr => first | (go_simp; done) | (go_simp; rfl)); (case hp => exact (Reps.one (show Kd.M (Kd.int .u8) _ _ _ ((wrap64 (48 + (Int.tmod x0_1 10))) % 256) [.int .u8 ((wrap64 (48 + (Int.tmod x0_1 10))) % 256)] from rfl) (Reps.none _ _))); intro v239 w5 ho6 hb hg_ hnew_; clear hg_ hnew_; (first | rw [← Ny238.out] at ho6 | (simp only [Int.reduceToNat] at ho6; rw [← Ny238.out] at ho6)); have n0_ := Aside0.mk (Kd.R_lower ho6 (below_size (by repeat (first | (with_reducible first | exact HB.out | apply below_alloc | apply pw_below_drewN | apply below_drew1) | exact HB.out)))); have n1_ := Aside0.mk (below_step (by repeat (first | (with_reducible first | exact HB.out | apply below_alloc | apply pw_below_drewN | apply below_drew1) | exact HB.out)) hb); clear HB; have HO240 := n0_; have HB := n1_; clear n0_ n1_; clear hb ho6; have hcv7 := own_string (P := Try.prog) Try.underlying28 Try.underlying5 Try.underlying9 (Kd.own_of_R HO240.out)))
      go_roundg k1
      case measure => have := HK1.out; omega
      case rel => exact ⟨(wrap64 (Int.tdiv x0_1 10)), ((strOfNums y238) ++ x3_1), (by first | rfl | (simp; done) | (simp [*]; done)), (by first | rfl | (simp; done) | (simp [*]; done)), H', ⟨by have := HK1.out; omega⟩, ⟨by repeat (first | (with_reducible first | exact HB.out | apply below_alloc | apply pw_below_drewN | apply below_drew1) | exact HB.out)⟩⟩
     ·rw [if_neg c4] at H
      exact absurd H (by simp)
    ·rw [if_neg c3] at H
     have c3b0 : decide (0 < x0_1) = false := decide_eq_false c3
     clear c3
     by_cases c8 : 1 + x3_1.size ≤ 9223372036854775807
     ·rw [if_pos c8] at H
      have c8b0 := eq_true c8
      have c8b1 : decide (1 + x3_1.size ≤ 9223372036854775807) = true := decide_eq_true c8
      try have c8b2 : (9223372036854775807 < 1 + x3_1.size) = False := eq_false (Nat.not_lt.2 c8)
      obtain rfl := Option.some.inj H
      go_wp2
      go_ret
      exact ⟨by first | rfl | (simp [errW_none, errW_some] <;> rfl) | (simp [*, errW_none, errW_some] <;> rfl), by repeat (first | (with_reducible first | exact HB.out | apply below_alloc | apply pw_below_drewN | apply below_drew1) | exact HB.out)⟩
     ·rw [if_neg c8] at H
      exact absurd H (by simp)
end Go.Proofs.Ytpokafkkfdponaa.PFnExactListMove
namespace Go.Proofs.Ytpokafkkfdponaa.PFnExactListMove
open Go.RowKit Go.Proofs.YtpokafkkfdponaaW.PrintWords Go.Proofs.YtpokafkkfdponaaW.PrintLast Go.Proofs.YtpokafkkfdponaaW.PrintMore Go.Proofs.Ytpokafkkfdponaa.Reg
attribute [local go_sem] max2_int min2_int max_two min_two max_three min_three max_four min_four
set_option linter.unusedVariables false
set_option linter.unusedSimpArgs false
def laws_markStringS.l0 : Nat → List ByteArray → Int → Int → Option (Int × List ByteArray)
 | 0, _, _, _ => none
 | k + 1, x0, x1, x5 => if x5 < (x0.length : Int) then ((laws_markText.f k x1).bind fun t241 => (if 0 ≤ x5 then (laws_markStringS.l0 k (x0.set (x5 : Int).toNat t241) (wrap64 (x1 + 1)) (wrap64 (x5 + 1))) else (none))) else (some (x1, x0))
def laws_markStringS.f (k : Nat) (l0 : List ByteArray) (a1 : Int) : Option (Int × List ByteArray) := laws_markStringS.l0 k l0 a1 0
set_option maxHeartbeats 8000000 in
set_option maxRecDepth 100000 in
theorem laws_markStringS.calls (k : Nat) (P0_ : Nat → Prop) (u9000_ : Value) (l0 : List ByteArray) (a1 : Int) (r1 : Int) (r2 : List ByteArray) (w0 w : World) (hB : Below w0.heap.size w0 w) (ho0 : Kd.R Kd.string 9 w w0.heap.size P0_ u9000_ l0) (h : laws_markStringS.f k l0 a1 = some (r1, r2)) :
  Calls Try.prog 24 #[u9000_, .int .i64 a1] w fun e w' => e = .returned (.int .i64 r1) ∧ Kd.R Kd.string 9 w' w0.heap.size (fun k_ => (P0_ k_ ∨ w.heap.size ≤ k_)) u9000_ r2 ∧ Below w0.heap.size w0 w' ∧ Kept w w' (fun k_ => P0_ k_) := by
 have HO0 := Aside0.mk (show Kd.R Kd.string 9 w w0.heap.size (fun k_ => (P0_ k_ ∨ w.heap.size ≤ k_)) u9000_ l0 from Kd.R_mono ho0 (fun k_ hk => (.inl hk)))
 have HK := Aside0.mk (Kept.refl w (fun k_ => P0_ k_))
 have HW0 := Aside0.mk hB.size
 have HB := Aside0.mk hB
 clear hB
 have H : (laws_markStringS.l0 k l0 a1 0) = some (r1, r2) := h
 clear h
 have H' := Aside0.mk H
 clear H
 go_enter Try.func24, Try.ntmps24
 go_wp2
 go_loopg [1, 5] k (fun kq v1 v5 w' => ∃ (x0_1 : List ByteArray) (x1_1 : Int) (x5_1 : Int), v1 = .int .i64 x1_1 ∧ v5 = .int .i64 x5_1 ∧ Aside0 (laws_markStringS.l0 kq x0_1 x1_1 x5_1 = some (r1, r2)) ∧ Aside0 (kq ≤ k) ∧ Aside0 (Kd.R Kd.string 9 w' w0.heap.size (fun k_ => (P0_ k_ ∨ w.heap.size ≤ k_)) u9000_ x0_1) ∧ Aside0 (Kept w w' (fun k_ => P0_ k_)) ∧ Aside0 (Below w0.heap.size w0 w'))
 case atStart => exact ⟨(l0), (a1), (0), (by first | rfl | (simp; done) | (simp [*]; done)), (by first | rfl | (simp; done) | (simp [*]; done)), H', ⟨Nat.le_refl _⟩, ⟨by (with_reducible repeat (first | apply Kd.R_alloc | apply Kd.R_drewN | apply Kd.R_drew)); exact HO0.out⟩, ⟨by repeat (first | (with_reducible first | exact HK.out | apply Kept.alloc | apply Kept.drewN | apply Kept.drew) | exact HK.out)⟩, ⟨by repeat (first | (with_reducible first | exact HB.out | apply below_alloc | apply pw_below_drewN | apply below_drew1) | exact HB.out)⟩⟩
 case round =>
  clear H'
  try clear c2
  try clear p2
  obtain ⟨x0_1, x1_1, x5_1, rfl, rfl, HA, HK1, HO_0, HK, HB⟩ := hrel
  cases gk with
  | zero => exact absurd HA.out (by simp [laws_markStringS.l0])
  | succ k1 =>
   have H := HA.out
   clear HA
   simp only [laws_markStringS.l0] at H
   have HC3 := Aside0.mk H
   clear H
   obtain ⟨Ao4, co4, eo4⟩ := Kd.R_slice HO_0.out
   subst eo4
   go_upto_if 9 with (fail)
   have H := HC3.out
   clear HC3
   by_cases c5 : x5_1 < (x0_1.length : Int)
   ·rw [if_pos c5] at H
    have c5b0 : decide (x5_1 < (x0_1.length : Int)) = true := decide_eq_true c5
    clear c5
    (first | rw [c5b0] | rw [c5b1] | (simp only [i64_w, i32_w]; rw [c5b0]) | rw [c5b2] | skip)
    replace H := Option.bind_eq_some_iff.mp H
    obtain ⟨t241, A60, H⟩ := H
    replace H : (if 0 ≤ x5_1 then (laws_markStringS.l0 k1 (x0_1.set (x5_1 : Int).toNat t241) (wrap64 (x1_1 + 1)) (wrap64 (x5_1 + 1))) else (none)) = some (r1, r2) := H
    have A6 := Aside0.mk A60
    clear A60
    by_cases c7 : 0 ≤ x5_1
    ·rw [if_pos c7] at H
     have c7b0 : decide (0 ≤ x5_1) = true := decide_eq_true c7
     clear c7
     obtain ⟨y242, hy242⟩ : ∃ y_ : List ByteArray, y_ = (x0_1.set (x5_1 : Int).toNat t241) := ⟨_, rfl⟩
     replace H : (laws_markStringS.l0 k1 y242 (wrap64 (x1_1 + 1)) (wrap64 (x5_1 + 1))) = some (r1, r2) := by first | (rw [hy242]; with_reducible exact H) | (have H2_ := (Option.bind_some _ _).symm.trans H; rw [hy242]; with_reducible exact H2_) | (have H2_ := (Option.bind_some _ _).symm.trans H; with_reducible exact H2_) | with_reducible exact H | (rw [hy242]; exact H) | exact H
     have Ny242 := Aside0.mk hy242
     clear hy242
     have H' := Aside0.mk H
     clear H
     go_wp2_with (first | ((with_reducible refine gate_callee (f := 51) rfl ?_); refine goesL_ (some 15) rfl rfl Try.func51 (by kernel_rfl) rfl #[.int .i64 x1_1] rfl (by (try simp only [List.map_toArray, List.map_cons, List.map_nil]); first | done | rfl | (simp only [List.length_drop, List.length_take]; rfl)) ?_; (with_reducible refine (laws_markText.calls k1 x1_1 t241 _ A6.out).mono ?_); rintro e w9 ⟨rfl, hb⟩; refine ⟨_, rfl, ?_⟩; have n0_ := Aside0.mk (Kd.R_below (by (with_reducible repeat (first | apply Kd.R_alloc | apply Kd.R_drewN | apply Kd.R_drew)); exact HO_0.out) hb); have n1_ := Aside0.mk (Kept.below (S := (fun k_ => P0_ k_)) (by repeat (first | (with_reducible first | exact HK.out | apply Kept.alloc | apply Kept.drewN | apply Kept.drew) | exact HK.out)) hb); have n2_ := Aside0.mk (below_step (by repeat (first | (with_reducible first | exact HB.out | apply below_alloc | apply pw_below_drewN | apply below_drew1) | exact HB.out)) hb); clear HO_0; clear HK; clear HB; have HO_0 := n0_; have HK := n1_; have HB := n2_; clear n0_ n1_ n2_; (try clear hb); (try clear hb2); (try clear hk); (try clear hi); have p8 : 0 ≤ (x5_1 : Int) := of_decide_eq_true (by first | (with_reducible assumption) | assumption); have q8 : (x5_1 : Int) < ((x0_1.length : Int) : Int) := of_decide_eq_true (by first | (with_reducible assumption) | assumption); obtain ⟨go8, co8, eo8, gb8, gl8, cl8, HG8⟩ := Kd.R_form HO_0.out (by omega); (first | cases eo8 | (injection eo8 with ea_ en_ ec_; (first | subst ea_ | (injection ea_ with ea_; subst ea_)); subst ec_; clear en_)); have GB8 := Aside0.mk gb8; have GG8 := Aside0.mk HG8; clear gb8 gl8 HG8; have HMgo8 := Aside0.mk (show (P0_ go8 ∨ w.heap.size ≤ go8) from (HO_0.out.1 _ rfl)); obtain ⟨hx8_0, hf8_0⟩ := Kd.R_celln (⟨#[]⟩ : ByteArray) HO_0.out (x5_1 : Int) p8 q8; replace p8 := eq_true p8; replace q8 := eq_true q8; obtain ⟨hy10_, hz10_⟩ := Kd.R_celln (⟨#[]⟩ : ByteArray) HO_0.out (x5_1 : Int) (of_decide_eq_true (by first | (with_reducible assumption) | assumption)) (of_decide_eq_true (by first | (with_reducible assumption) | assumption)); have HP10 := Kd.R_putg HO_0.out (x5_1 : Int) t241) | ((with_reducible refine gate_store (t := 9) (p := 16) rfl ?_); refine store_event (t := 9) (p := 16) (v := ?vo_w11) (w1 := (w9.setCell ⟨go8, (x5_1 : Int).toNat, none⟩ (.string t241))) ?hg ?ho ?hn ?hr ?_; (case ho => rfl); (case hg => rfl); (case hn => rfl); (case hr => first | (go_simp; done) | (go_simp; rfl)); intro w11 hw; have hg : w9.grownBy w11 (some go8) := (by rw [hw]; exact HP10.2); have hp_ : Kd.R Kd.string 9 w11 w0.heap.size (fun k_ => (P0_ k_ ∨ w.heap.size ≤ k_)) (.slice (some ⟨go8, 0, none⟩) x0_1.length co4) y242 := (by rw [hw, Ny242.out]; exact HP10.1); clear HP10; have n0_ := Aside0.mk (hp_); have n1_ := Aside0.mk ((by rw [hw]; exact below_set (HB.out) GB8.out : Below w0.heap.size w0 w11)); have n2_ := Aside0.mk (Kept.of_grown (S := (fun k_ => P0_ k_)) hg (by repeat (first | (with_reducible first | exact HK.out | apply Kept.alloc | apply Kept.drewN | apply Kept.drew) | exact HK.out)) (fun k_ e_ => (HO_0.out.1 k_ e_))); clear HO_0; clear HB; clear HK; have HO_0 := n0_; have HB := n1_; have HK := n2_; clear n0_ n1_ n2_; clear hg hw hp_))
     go_roundg k1
     case measure => have := HK1.out; omega
     case rel => exact ⟨(y242), (wrap64 (x1_1 + 1)), (wrap64 (x5_1 + 1)), (by first | rfl | (simp; done) | (simp [*]; done)), (by first | rfl | (simp; done) | (simp [*]; done)), H', ⟨by have := HK1.out; omega⟩, ⟨by (with_reducible repeat (first | apply Kd.R_alloc | apply Kd.R_drewN | apply Kd.R_drew)); exact HO_0.out⟩, ⟨by repeat (first | (with_reducible first | exact HK.out | apply Kept.alloc | apply Kept.drewN | apply Kept.drew) | exact HK.out)⟩, ⟨by repeat (first | (with_reducible first | exact HB.out | apply below_alloc | apply pw_below_drewN | apply below_drew1) | exact HB.out)⟩⟩
    ·rw [if_neg c7] at H
     exact absurd H (by simp)
   ·rw [if_neg c5] at H
    have c5b0 : decide (x5_1 < (x0_1.length : Int)) = false := decide_eq_false c5
    clear c5
    (first | rw [c5b0] | rw [c5b1] | (simp only [i64_w, i32_w]; rw [c5b0]) | rw [c5b2] | skip)
    simp only [Option.some.injEq, Prod.mk.injEq] at H
    obtain ⟨rfl, rfl⟩ := H
    go_wp2
    go_ret
    exact ⟨by first | rfl | (simp [errW_none, errW_some] <;> rfl) | (simp [*, errW_none, errW_some] <;> rfl), by (with_reducible repeat (first | apply Kd.R_alloc | apply Kd.R_drewN | apply Kd.R_drew)); exact HO_0.out, by repeat (first | (with_reducible first | exact HB.out | apply below_alloc | apply pw_below_drewN | apply below_drew1) | exact HB.out), by repeat (first | (with_reducible first | exact HK.out | apply Kept.alloc | apply Kept.drewN | apply Kept.drew) | exact HK.out)⟩
end Go.Proofs.Ytpokafkkfdponaa.PFnExactListMove
namespace Go.Proofs.Ytpokafkkfdponaa.PFnExactListMove
open Go.RowKit Go.Proofs.YtpokafkkfdponaaW.PrintWords Go.Proofs.YtpokafkkfdponaaW.PrintLast Go.Proofs.YtpokafkkfdponaaW.PrintMore Go.Proofs.Ytpokafkkfdponaa.Reg
attribute [local go_sem] max2_int min2_int max_two min_two max_three min_three max_four min_four
set_option linter.unusedVariables false
set_option linter.unusedSimpArgs false
def laws_heldStringS.l0 : Nat → List ByteArray → Int → Int → Option (Int)
 | 0, _, _, _ => none
 | k + 1, x0, x1, x5 => if x5 < (x0.length : Int) then (if 0 ≤ x5 then ((laws_markText.f k x1).bind fun t244 => (if (rdOf ByteArray.empty x0 x5).toList = t244.toList then (laws_heldStringS.l0 k x0 (wrap64 (x1 + 1)) (wrap64 (x5 + 1))) else (some (-1)))) else (none)) else (some x1)
def laws_heldStringS.f (k : Nat) (l0 : List ByteArray) (a1 : Int) : Option (Int) := laws_heldStringS.l0 k l0 a1 0
set_option maxHeartbeats 8000000 in
set_option maxRecDepth 100000 in
theorem laws_heldStringS.calls (k : Nat) (A0 : Option Addr) (c0 : Nat) (l0 : List ByteArray) (a1 : Int) (r : Int) (w : World) (hr0 : Kd.C Kd.string w A0 l0.length l0) (hc0 : l0.length ≤ c0) (h : laws_heldStringS.f k l0 a1 = some r) :
  Calls Try.prog 25 #[.slice A0 l0.length c0, .int .i64 a1] w fun e w' => e = .returned (.int .i64 r) ∧ Below w.heap.size w w' := by
 have HR0 := Aside0.mk hr0
 have HC0 := Aside0.mk hc0
 clear hr0 hc0
 have HB := Aside0.mk (Below.refl w.heap.size w)
 have H : (laws_heldStringS.l0 k l0 a1 0) = some r := h
 clear h
 have H' := Aside0.mk H
 clear H
 go_enter Try.func25, Try.ntmps25
 go_wp2
 go_loopg [1, 5] k (fun kq v1 v5 w' => ∃ (x1_1 : Int) (x5_1 : Int), v1 = .int .i64 x1_1 ∧ v5 = .int .i64 x5_1 ∧ Aside0 (laws_heldStringS.l0 kq l0 x1_1 x5_1 = some r) ∧ Aside0 (kq ≤ k) ∧ Aside0 (Below w.heap.size w w'))
 case atStart => exact ⟨(a1), (0), (by first | rfl | (simp; done) | (simp [*]; done)), (by first | rfl | (simp; done) | (simp [*]; done)), H', ⟨Nat.le_refl _⟩, ⟨by repeat (first | (with_reducible first | exact HB.out | apply below_alloc | apply pw_below_drewN | apply below_drew1) | exact HB.out)⟩⟩
 case round =>
  clear H'
  try clear c2
  try clear p2
  obtain ⟨x1_1, x5_1, rfl, rfl, HA, HK1, HB⟩ := hrel
  cases gk with
  | zero => exact absurd HA.out (by simp [laws_heldStringS.l0])
  | succ k1 =>
   have H := HA.out
   clear HA
   simp only [laws_heldStringS.l0] at H
   by_cases c3 : x5_1 < (l0.length : Int)
   ·rw [if_pos c3] at H
    have c3b0 : decide (x5_1 < (l0.length : Int)) = true := decide_eq_true c3
    clear c3
    by_cases c4 : 0 ≤ x5_1
    ·rw [if_pos c4] at H
     have c4b0 : decide (0 ≤ x5_1) = true := decide_eq_true c4
     clear c4
     replace H := Option.bind_eq_some_iff.mp H
     obtain ⟨t244, A50, H⟩ := H
     replace H : (if (rdOf ByteArray.empty l0 x5_1).toList = t244.toList then (laws_heldStringS.l0 k1 l0 (wrap64 (x1_1 + 1)) (wrap64 (x5_1 + 1))) else (some (-1))) = some r := H
     have A5 := Aside0.mk A50
     clear A50
     have HC6 := Aside0.mk H
     clear H
     try go_wp2
     replace HB := Aside0.mk (below_drew1 HB.out)
     have p243 := od (0 ≤ (x5_1 : Int))
     have q243 := od (x5_1 < (l0.length : Int))
     obtain ⟨ad243, e243, hx243_0⟩ := Kd.at_string HR0.out x5_1 p243 q243
     have hw243_0 := hx243_0
     cases e243
     replace hx243_0 := (HB.out.cell (World.block_lt_of_cell? w _ hx243_0)).trans hx243_0
     replace p243 := eq_true p243
     replace q243 := eq_true q243
     refine start_ (n := 7) (S := fun w' => w'.cell? (ad243.add (x5_1).toNat) = some (.string (rdOf ByteArray.empty l0 x5_1))) (ds := []) _ (by kernel_rfl) rfl rfl (((HB.out.cell (World.block_lt_of_cell? w _ hw243_0)).trans hw243_0)) (fun hHeld => ?_)
     generalize wr.drew = w7 at HB hx243_0 hHeld ⊢
     refine pure_ (i := 0) (N := some 12) (v := ?_) (a' := ?_) #[true, false, false, false, false, false, false] rfl rfl (by kernel_rfl) (fun _ _ _ h => h) (Or.inl ⟨by rfl, ?_⟩) ?_ ?_
     rotate_left
     ·intro w'
      go_simp
      with_reducible rfl
     rotate_left
     ·simp only [Act.put, List.setIfInBounds_toArray, List.set_cons_zero, List.set_cons_succ, i64_w, i32_w]
      rfl
     refine pure_ (i := 1) (N := some 13) (v := ?_) (a' := ?_) #[true, true, false, false, false, false, false] rfl rfl (by kernel_rfl) (fun _ _ _ h => h) (Or.inl ⟨by rfl, ?_⟩) ?_ ?_
     rotate_left
     ·intro w'
      go_simp
      with_reducible rfl
     rotate_left
     ·simp only [Act.put, List.setIfInBounds_toArray, List.set_cons_zero, List.set_cons_succ, i64_w, i32_w]
      rfl
     refine pure_ (i := 2) (N := some 14) (v := ?_) (a' := ?_) #[true, true, true, false, false, false, false] rfl rfl (by kernel_rfl) (fun _ _ _ h => h) (Or.inl ⟨by rfl, ?_⟩) ?_ ?_
     rotate_left
     ·intro w'
      go_simp
      with_reducible rfl
     rotate_left
     ·simp only [Act.put, List.setIfInBounds_toArray, List.set_cons_zero, List.set_cons_succ, i64_w, i32_w]
      rfl
     refine pure_ (i := 4) (N := some 16) (v := ?_) (a' := ?_) #[true, true, true, false, true, false, false] rfl rfl (by kernel_rfl) (fun _ _ _ h => h) (Or.inl ⟨by rfl, ?_⟩) ?_ ?_
     rotate_left
     ·intro w'
      go_simp
      with_reducible rfl
     rotate_left
     ·simp only [Act.put, List.setIfInBounds_toArray, List.set_cons_zero, List.set_cons_succ, i64_w, i32_w]
      rfl
     refine take_ (i := 3) (N := some 15) (v := ?_) (a' := ?_) #[true, true, true, true, true, false, false] rfl rfl (by kernel_rfl) (fun _ _ _ h => h) (Or.inl ⟨by rfl, ?_⟩) hHeld ?_ ?_
     rotate_left
     ·intro w' s0
      go_simp
      with_reducible rfl
     rotate_left
     ·simp only [Act.put, List.setIfInBounds_toArray, List.set_cons_zero, List.set_cons_succ, i64_w, i32_w]
      rfl
     refine one_ (i := 5) (N := some 17) #[true, true, true, true, true, true, false] rfl rfl (by kernel_rfl) (by decide) (fun K hK => ?_)
     refine ca Try.func51 (laws_markText.calls k1 x1_1 t244 _ A5.out) ?_
     rintro e w8 ⟨rfl, hb⟩
     refine ⟨_, rfl, ?_⟩
     replace HB := Aside0.mk (below_step (by repeat (first | (with_reducible first | exact HB.out | apply below_alloc | apply pw_below_drewN | apply below_drew1) | exact HB.out)) hb)
     (try clear hb)
     (try clear hb2)
     (try clear hk)
     (try clear hi)
     refine hK.out _ _ (((HB.out.cell (World.block_lt_of_cell? w _ hw243_0)).trans hw243_0)) (fun hHeld => ?_)
     clear hK K
     refine nm ?_
     refine pure_ (i := 6) (N := some 18) (v := ?_) (a' := ?_) #[true, true, true, true, true, true, true] rfl rfl (by kernel_rfl) (fun _ _ _ h => h) (Or.inl ⟨by rfl, ?_⟩) ?_ ?_
     rotate_left
     ·intro w'
      go_simp
      with_reducible rfl
     rotate_left
     ·simp only [Act.put, List.setIfInBounds_toArray, List.set_cons_zero, List.set_cons_succ, i64_w, i32_w]
      rfl
     refine done_ (by kernel_rfl) ?_
     go_upto_if 18 with (fail)
     have H := HC6.out
     clear HC6
     by_cases c9 : (rdOf ByteArray.empty l0 x5_1).toList = t244.toList
     ·rw [if_pos c9] at H
      have c9b0 : ((rdOf ByteArray.empty l0 x5_1).toList == t244.toList) = true := beq_iff_eq.mpr c9
      have c9b1 : ((rdOf ByteArray.empty l0 x5_1).toList != t244.toList) = false := bne_eq_false_iff_eq.mpr c9
      clear c9
      (first | rw [c9b0] | rw [c9b1] | (simp only [i64_w, i32_w]; rw [c9b0]) | rw [c9b2] | skip)
      have H' := Aside0.mk H
      clear H
      go_wp2
      go_roundg k1
      case measure => have := HK1.out; omega
      case rel => exact ⟨(wrap64 (x1_1 + 1)), (wrap64 (x5_1 + 1)), (by first | rfl | (simp; done) | (simp [*]; done)), (by first | rfl | (simp; done) | (simp [*]; done)), H', ⟨by have := HK1.out; omega⟩, ⟨by repeat (first | (with_reducible first | exact HB.out | apply below_alloc | apply pw_below_drewN | apply below_drew1) | exact HB.out)⟩⟩
     ·rw [if_neg c9] at H
      have c9b0 : ((rdOf ByteArray.empty l0 x5_1).toList == t244.toList) = false := beq_eq_false_iff_ne.mpr c9
      have c9b1 : ((rdOf ByteArray.empty l0 x5_1).toList != t244.toList) = true := bne_iff_ne.mpr c9
      (first | rw [c9b0] | rw [c9b1] | (simp only [i64_w, i32_w]; rw [c9b0]) | rw [c9b2] | skip)
      obtain rfl := Option.some.inj H
      go_wp2
      go_ret
      exact ⟨by first | rfl | (simp [errW_none, errW_some] <;> rfl) | (simp [*, errW_none, errW_some] <;> rfl), by repeat (first | (with_reducible first | exact HB.out | apply below_alloc | apply pw_below_drewN | apply below_drew1) | exact HB.out)⟩
    ·rw [if_neg c4] at H
     exact absurd H (by simp)
   ·rw [if_neg c3] at H
    have c3b0 : decide (x5_1 < (l0.length : Int)) = false := decide_eq_false c3
    clear c3
    obtain rfl := Option.some.inj H
    go_wp2
    go_ret
    exact ⟨by first | rfl | (simp [errW_none, errW_some] <;> rfl) | (simp [*, errW_none, errW_some] <;> rfl), by repeat (first | (with_reducible first | exact HB.out | apply below_alloc | apply pw_below_drewN | apply below_drew1) | exact HB.out)⟩
end Go.Proofs.Ytpokafkkfdponaa.PFnExactListMove
namespace Go.Proofs.Ytpokafkkfdponaa.PFnExactListMove
open Go.RowKit Go.Proofs.YtpokafkkfdponaaW.PrintWords Go.Proofs.YtpokafkkfdponaaW.PrintLast Go.Proofs.YtpokafkkfdponaaW.PrintMore Go.Proofs.Ytpokafkkfdponaa.Reg
attribute [local go_sem] run_store_v max2_int min2_int max_two min_two max_three min_three max_four min_four
set_option linter.unusedVariables false
set_option linter.unusedSimpArgs false
mutual
def laws_FnExactListMove.j0 : Nat → List ByteArray → List ByteArray → Bool → Bool → List ByteArray → List ByteArray → Bool → List ByteArray → List ByteArray → List ByteArray → List ByteArray → Bool → Bool → Option (Bool)
 | 0, _, _, _, _, _, _, _, _, _, _, _, _, _ => none
 | k + 1, x0, x1, x2, x3, x10, x11, x12, x13, x14, x15, x16, x17, x72 => if x72 = true then (some false) else ((laws_toStringS.f k x0).bind fun t275 => ((laws_eqStringS.f k x13 t275).bind fun t278 => (if t278 = true then ((laws_toStringS.f k x1).bind fun t279 => ((laws_eqStringS.f k x14 t279).bind fun t282 => (if t282 = true then ((laws_markStringS.f k x13 1).bind fun bt283 => ((laws_markStringS.f k x14 bt283.1).bind fun bt285 => (if bt285.1 < 0 then (laws_FnExactListMove.j1 k x0 x1 x2 x3 x10 x11 x12 x15 x16 true) else ((laws_eqStringS.f k x15 x10).bind fun t287 => (if t287 = true then ((laws_eqStringS.f k x16 x11).bind fun t288 => (if t288 = true then (laws_FnExactListMove.j1 k x0 x1 x2 x3 x10 x11 x12 x15 x16 (x17 != x12)) else (laws_FnExactListMove.j1 k x0 x1 x2 x3 x10 x11 x12 x15 x16 true))) else (laws_FnExactListMove.j1 k x0 x1 x2 x3 x10 x11 x12 x15 x16 true)))))) else (some false)))) else (some false))))
def laws_FnExactListMove.j1 : Nat → List ByteArray → List ByteArray → Bool → Bool → List ByteArray → List ByteArray → Bool → List ByteArray → List ByteArray → Bool → Option (Bool)
 | 0, _, _, _, _, _, _, _, _, _, _ => none
 | k + 1, x0, x1, x2, x3, x10, x11, x12, x15, x16, x107 => if x107 = true then (some false) else ((laws_markStringS.f k x15 1).bind fun bt289 => ((laws_markStringS.f k x16 bt289.1).bind fun bt291 => ((laws_heldStringS.f k bt289.2 1).bind fun t293 => (if t293 < 0 then (some false) else ((laws_heldStringS.f k bt291.2 t293).bind fun t294 => (if t294 < 0 then (some false) else (if t294 = bt291.1 then ((laws_toStringS.f k x0).bind fun t295 => ((laws_toStringS.f k x1).bind fun t298 => ((impl_ListMove.f k t295 t298 x2 x3).bind fun bt301 => ((laws_eqStringS.f k bt301.1 x10).bind fun t308 => (if t308 = true then ((laws_eqStringS.f k bt301.2.1 x11).bind fun t309 => (if t309 = true then (laws_FnExactListMove.j2 k bt289.2 bt291.2 bt291.1 (bt301.2.2 != x12)) else (laws_FnExactListMove.j2 k bt289.2 bt291.2 bt291.1 true))) else (laws_FnExactListMove.j2 k bt289.2 bt291.2 bt291.1 true)))))) else (some false))))))))
def laws_FnExactListMove.j2 : Nat → List ByteArray → List ByteArray → Int → Bool → Option (Bool)
 | 0, _, _, _, _ => none
 | k + 1, x15, x16, x19, x152 => if x152 = true then (some false) else ((laws_heldStringS.f k x15 1).bind fun t310 => (if t310 < 0 then (some false) else ((laws_heldStringS.f k x16 t310).bind fun t311 => (if t311 < 0 then (some false) else (if t311 = x19 then (some true) else (some false))))))
end
def laws_FnExactListMove.f (k : Nat) (l0 : List ByteArray) (l1 : List ByteArray) (a2 : Bool) (a3 : Bool) : Option (Bool) := (laws_szStringS.f k l0 1048576).bind fun t245 => (if t245 < 0 then (some true) else ((laws_szStringS.f k l1 t245).bind fun t246 => (if t246 < 0 then (some true) else ((laws_toStringS.f k l0).bind fun t247 => ((laws_toStringS.f k l1).bind fun t250 => ((spec_ListMove.f k t247 t250 a2 a3).bind fun bt253 => ((laws_toStringS.f k l0).bind fun t260 => ((laws_toStringS.f k l1).bind fun t263 => ((impl_ListMove.f k t260 t263 a2 a3).bind fun bt266 => ((laws_eqStringS.f k bt266.1 bt253.1).bind fun t273 => (if t273 = true then ((laws_eqStringS.f k bt266.2.1 bt253.2.1).bind fun t274 => (if t274 = true then (laws_FnExactListMove.j0 k l0 l1 a2 a3 bt253.1 bt253.2.1 bt253.2.2 t260 t263 bt266.1 bt266.2.1 bt266.2.2 (bt266.2.2 != bt253.2.2)) else (laws_FnExactListMove.j0 k l0 l1 a2 a3 bt253.1 bt253.2.1 bt253.2.2 t260 t263 bt266.1 bt266.2.1 bt266.2.2 true))) else (laws_FnExactListMove.j0 k l0 l1 a2 a3 bt253.1 bt253.2.1 bt253.2.2 t260 t263 bt266.1 bt266.2.1 bt266.2.2 true))))))))))))
set_option maxHeartbeats 8000000 in
set_option maxRecDepth 100000 in
theorem laws_FnExactListMove.calls (k : Nat) (A0 : Option Addr) (c0 : Nat) (l0 : List ByteArray) (A1 : Option Addr) (c1 : Nat) (l1 : List ByteArray) (a2 : Bool) (a3 : Bool) (r : Bool) (w : World) (hr0 : Kd.C Kd.string w A0 l0.length l0) (hc0 : l0.length ≤ c0) (hr1 : Kd.C Kd.string w A1 l1.length l1) (hc1 : l1.length ≤ c1) (h : laws_FnExactListMove.f k l0 l1 a2 a3 = some r) :
  Calls Try.prog 6 #[.slice A0 l0.length c0, .slice A1 l1.length c1, .bool a2, .bool a3] w fun e w' => e = .returned (.bool r) ∧ Below w.heap.size w w' := by
 have HR0 := Aside0.mk hr0
 have HC0 := Aside0.mk hc0
 clear hr0 hc0
 have HR1 := Aside0.mk hr1
 have HC1 := Aside0.mk hc1
 clear hr1 hc1
 have HB := Aside0.mk (Below.refl w.heap.size w)
 have H : ((laws_szStringS.f k l0 1048576).bind fun t245 => (if t245 < 0 then (some true) else ((laws_szStringS.f k l1 t245).bind fun t246 => (if t246 < 0 then (some true) else ((laws_toStringS.f k l0).bind fun t247 => ((laws_toStringS.f k l1).bind fun t250 => ((spec_ListMove.f k t247 t250 a2 a3).bind fun bt253 => ((laws_toStringS.f k l0).bind fun t260 => ((laws_toStringS.f k l1).bind fun t263 => ((impl_ListMove.f k t260 t263 a2 a3).bind fun bt266 => ((laws_eqStringS.f k bt266.1 bt253.1).bind fun t273 => (if t273 = true then ((laws_eqStringS.f k bt266.2.1 bt253.2.1).bind fun t274 => (if t274 = true then (laws_FnExactListMove.j0 k l0 l1 a2 a3 bt253.1 bt253.2.1 bt253.2.2 t260 t263 bt266.1 bt266.2.1 bt266.2.2 (bt266.2.2 != bt253.2.2)) else (laws_FnExactListMove.j0 k l0 l1 a2 a3 bt253.1 bt253.2.1 bt253.2.2 t260 t263 bt266.1 bt266.2.1 bt266.2.2 true))) else (laws_FnExactListMove.j0 k l0 l1 a2 a3 bt253.1 bt253.2.1 bt253.2.2 t260 t263 bt266.1 bt266.2.1 bt266.2.2 true))))))))))))) = some r := h
 clear h
 replace H := Option.bind_eq_some_iff.mp H
 obtain ⟨t245, A50, H⟩ := H
 replace H : (if t245 < 0 then (some true) else ((laws_szStringS.f k l1 t245).bind fun t246 => (if t246 < 0 then (some true) else ((laws_toStringS.f k l0).bind fun t247 => ((laws_toStringS.f k l1).bind fun t250 => ((spec_ListMove.f k t247 t250 a2 a3).bind fun bt253 => ((laws_toStringS.f k l0).bind fun t260 => ((laws_toStringS.f k l1).bind fun t263 => ((impl_ListMove.f k t260 t263 a2 a3).bind fun bt266 => ((laws_eqStringS.f k bt266.1 bt253.1).bind fun t273 => (if t273 = true then ((laws_eqStringS.f k bt266.2.1 bt253.2.1).bind fun t274 => (if t274 = true then (laws_FnExactListMove.j0 k l0 l1 a2 a3 bt253.1 bt253.2.1 bt253.2.2 t260 t263 bt266.1 bt266.2.1 bt266.2.2 (bt266.2.2 != bt253.2.2)) else (laws_FnExactListMove.j0 k l0 l1 a2 a3 bt253.1 bt253.2.1 bt253.2.2 t260 t263 bt266.1 bt266.2.1 bt266.2.2 true))) else (laws_FnExactListMove.j0 k l0 l1 a2 a3 bt253.1 bt253.2.1 bt253.2.2 t260 t263 bt266.1 bt266.2.1 bt266.2.2 true)))))))))))) = some r := H
 have A5 := Aside0.mk A50
 clear A50
 have HC6 := Aside0.mk H
 clear H
 go_enter Try.func6, Try.ntmps6
 go_upto_if 28 with (first | ((with_reducible refine gate_callee (f := 19) rfl ?_); refine goesL_ (some 26) rfl rfl Try.func19 (by kernel_rfl) rfl #[.slice A0 l0.length c0, .int .i64 1048576] rfl (by (try simp only [List.map_toArray, List.map_cons, List.map_nil]); first | done | rfl | (simp only [List.length_drop, List.length_take]; rfl)) ?_; (with_reducible refine (laws_szStringS.calls k _ _ l0 1048576 t245 _ ?side1 ?side2 A5.out).mono ?_); (case side1 => repeat (first | exact HR0.out | (with_reducible refine Kd.C_alloc ?_ _) | (with_reducible refine Kd.C_drewN ?_ _) | (with_reducible refine Kd.C_drew ?_))); (case side2 => exact HC0.out); rintro e w' ⟨rfl, ⟨nd, rfl⟩⟩; refine ⟨_, rfl, ?_⟩))
 have H := HC6.out
 clear HC6
 by_cases c7 : t245 < 0
 ·rw [if_pos c7] at H
  have c7b0 : decide (t245 < 0) = true := decide_eq_true c7
  clear c7
  (first | rw [c7b0] | rw [c7b1] | (simp only [i64_w, i32_w]; rw [c7b0]) | rw [c7b2] | skip)
  obtain rfl := Option.some.inj H
  go_wp2
  go_ret
  exact ⟨by first | rfl | (simp [errW_none, errW_some] <;> rfl) | (simp [*, errW_none, errW_some] <;> rfl), by repeat (first | (with_reducible first | exact HB.out | apply below_alloc | apply pw_below_drewN | apply below_drew1) | exact HB.out)⟩
 ·rw [if_neg c7] at H
  have c7b0 : decide (t245 < 0) = false := decide_eq_false c7
  clear c7
  (first | rw [c7b0] | rw [c7b1] | (simp only [i64_w, i32_w]; rw [c7b0]) | rw [c7b2] | skip)
  replace H := Option.bind_eq_some_iff.mp H
  obtain ⟨t246, A80, H⟩ := H
  replace H : (if t246 < 0 then (some true) else ((laws_toStringS.f k l0).bind fun t247 => ((laws_toStringS.f k l1).bind fun t250 => ((spec_ListMove.f k t247 t250 a2 a3).bind fun bt253 => ((laws_toStringS.f k l0).bind fun t260 => ((laws_toStringS.f k l1).bind fun t263 => ((impl_ListMove.f k t260 t263 a2 a3).bind fun bt266 => ((laws_eqStringS.f k bt266.1 bt253.1).bind fun t273 => (if t273 = true then ((laws_eqStringS.f k bt266.2.1 bt253.2.1).bind fun t274 => (if t274 = true then (laws_FnExactListMove.j0 k l0 l1 a2 a3 bt253.1 bt253.2.1 bt253.2.2 t260 t263 bt266.1 bt266.2.1 bt266.2.2 (bt266.2.2 != bt253.2.2)) else (laws_FnExactListMove.j0 k l0 l1 a2 a3 bt253.1 bt253.2.1 bt253.2.2 t260 t263 bt266.1 bt266.2.1 bt266.2.2 true))) else (laws_FnExactListMove.j0 k l0 l1 a2 a3 bt253.1 bt253.2.1 bt253.2.2 t260 t263 bt266.1 bt266.2.1 bt266.2.2 true)))))))))) = some r := H
  have A8 := Aside0.mk A80
  clear A80
  have HC9 := Aside0.mk H
  clear H
  go_upto_if 33 with (first | ((with_reducible refine gate_callee (f := 19) rfl ?_); refine goesL_ (some 31) rfl rfl Try.func19 (by kernel_rfl) rfl #[.slice A1 l1.length c1, .int .i64 t245] rfl (by (try simp only [List.map_toArray, List.map_cons, List.map_nil]); first | done | rfl | (simp only [List.length_drop, List.length_take]; rfl)) ?_; (with_reducible refine (laws_szStringS.calls k _ _ l1 t245 t246 _ ?side1 ?side2 A8.out).mono ?_); (case side1 => repeat (first | exact (Kd.C_below HR1.out HB.out) | (with_reducible refine Kd.C_alloc ?_ _) | (with_reducible refine Kd.C_drewN ?_ _) | (with_reducible refine Kd.C_drew ?_))); (case side2 => exact HC1.out); rintro e w' ⟨rfl, ⟨nd, rfl⟩⟩; refine ⟨_, rfl, ?_⟩))
  have H := HC9.out
  clear HC9
  by_cases c10 : t246 < 0
  ·rw [if_pos c10] at H
   have c10b0 : decide (t246 < 0) = true := decide_eq_true c10
   clear c10
   (first | rw [c10b0] | rw [c10b1] | (simp only [i64_w, i32_w]; rw [c10b0]) | rw [c10b2] | skip)
   obtain rfl := Option.some.inj H
   go_wp2
   go_ret
   exact ⟨by first | rfl | (simp [errW_none, errW_some] <;> rfl) | (simp [*, errW_none, errW_some] <;> rfl), by repeat (first | (with_reducible first | exact HB.out | apply below_alloc | apply pw_below_drewN | apply below_drew1) | exact HB.out)⟩
  ·rw [if_neg c10] at H
   have c10b0 : decide (t246 < 0) = false := decide_eq_false c10
   clear c10
   (first | rw [c10b0] | rw [c10b1] | (simp only [i64_w, i32_w]; rw [c10b0]) | rw [c10b2] | skip)
   replace H := Option.bind_eq_some_iff.mp H
   obtain ⟨t247, A110, H⟩ := H
   replace H : ((laws_toStringS.f k l1).bind fun t250 => ((spec_ListMove.f k t247 t250 a2 a3).bind fun bt253 => ((laws_toStringS.f k l0).bind fun t260 => ((laws_toStringS.f k l1).bind fun t263 => ((impl_ListMove.f k t260 t263 a2 a3).bind fun bt266 => ((laws_eqStringS.f k bt266.1 bt253.1).bind fun t273 => (if t273 = true then ((laws_eqStringS.f k bt266.2.1 bt253.2.1).bind fun t274 => (if t274 = true then (laws_FnExactListMove.j0 k l0 l1 a2 a3 bt253.1 bt253.2.1 bt253.2.2 t260 t263 bt266.1 bt266.2.1 bt266.2.2 (bt266.2.2 != bt253.2.2)) else (laws_FnExactListMove.j0 k l0 l1 a2 a3 bt253.1 bt253.2.1 bt253.2.2 t260 t263 bt266.1 bt266.2.1 bt266.2.2 true))) else (laws_FnExactListMove.j0 k l0 l1 a2 a3 bt253.1 bt253.2.1 bt253.2.2 t260 t263 bt266.1 bt266.2.1 bt266.2.2 true)))))))) = some r := H
   have A11 := Aside0.mk A110
   clear A110
   replace H := Option.bind_eq_some_iff.mp H
   obtain ⟨t250, A120, H⟩ := H
   replace H : ((spec_ListMove.f k t247 t250 a2 a3).bind fun bt253 => ((laws_toStringS.f k l0).bind fun t260 => ((laws_toStringS.f k l1).bind fun t263 => ((impl_ListMove.f k t260 t263 a2 a3).bind fun bt266 => ((laws_eqStringS.f k bt266.1 bt253.1).bind fun t273 => (if t273 = true then ((laws_eqStringS.f k bt266.2.1 bt253.2.1).bind fun t274 => (if t274 = true then (laws_FnExactListMove.j0 k l0 l1 a2 a3 bt253.1 bt253.2.1 bt253.2.2 t260 t263 bt266.1 bt266.2.1 bt266.2.2 (bt266.2.2 != bt253.2.2)) else (laws_FnExactListMove.j0 k l0 l1 a2 a3 bt253.1 bt253.2.1 bt253.2.2 t260 t263 bt266.1 bt266.2.1 bt266.2.2 true))) else (laws_FnExactListMove.j0 k l0 l1 a2 a3 bt253.1 bt253.2.1 bt253.2.2 t260 t263 bt266.1 bt266.2.1 bt266.2.2 true))))))) = some r := H
   have A12 := Aside0.mk A120
   clear A120
   replace H := Option.bind_eq_some_iff.mp H
   obtain ⟨⟨t253, t254, t255⟩, A130, H⟩ := H
   replace H : ((laws_toStringS.f k l0).bind fun t260 => ((laws_toStringS.f k l1).bind fun t263 => ((impl_ListMove.f k t260 t263 a2 a3).bind fun bt266 => ((laws_eqStringS.f k bt266.1 t253).bind fun t273 => (if t273 = true then ((laws_eqStringS.f k bt266.2.1 t254).bind fun t274 => (if t274 = true then (laws_FnExactListMove.j0 k l0 l1 a2 a3 t253 t254 t255 t260 t263 bt266.1 bt266.2.1 bt266.2.2 (bt266.2.2 != t255)) else (laws_FnExactListMove.j0 k l0 l1 a2 a3 t253 t254 t255 t260 t263 bt266.1 bt266.2.1 bt266.2.2 true))) else (laws_FnExactListMove.j0 k l0 l1 a2 a3 t253 t254 t255 t260 t263 bt266.1 bt266.2.1 bt266.2.2 true)))))) = some r := H
   have A13 := Aside0.mk A130
   clear A130
   replace H := Option.bind_eq_some_iff.mp H
   obtain ⟨t260, A140, H⟩ := H
   replace H : ((laws_toStringS.f k l1).bind fun t263 => ((impl_ListMove.f k t260 t263 a2 a3).bind fun bt266 => ((laws_eqStringS.f k bt266.1 t253).bind fun t273 => (if t273 = true then ((laws_eqStringS.f k bt266.2.1 t254).bind fun t274 => (if t274 = true then (laws_FnExactListMove.j0 k l0 l1 a2 a3 t253 t254 t255 t260 t263 bt266.1 bt266.2.1 bt266.2.2 (bt266.2.2 != t255)) else (laws_FnExactListMove.j0 k l0 l1 a2 a3 t253 t254 t255 t260 t263 bt266.1 bt266.2.1 bt266.2.2 true))) else (laws_FnExactListMove.j0 k l0 l1 a2 a3 t253 t254 t255 t260 t263 bt266.1 bt266.2.1 bt266.2.2 true))))) = some r := H
   have A14 := Aside0.mk A140
   clear A140
   replace H := Option.bind_eq_some_iff.mp H
   obtain ⟨t263, A150, H⟩ := H
   replace H : ((impl_ListMove.f k t260 t263 a2 a3).bind fun bt266 => ((laws_eqStringS.f k bt266.1 t253).bind fun t273 => (if t273 = true then ((laws_eqStringS.f k bt266.2.1 t254).bind fun t274 => (if t274 = true then (laws_FnExactListMove.j0 k l0 l1 a2 a3 t253 t254 t255 t260 t263 bt266.1 bt266.2.1 bt266.2.2 (bt266.2.2 != t255)) else (laws_FnExactListMove.j0 k l0 l1 a2 a3 t253 t254 t255 t260 t263 bt266.1 bt266.2.1 bt266.2.2 true))) else (laws_FnExactListMove.j0 k l0 l1 a2 a3 t253 t254 t255 t260 t263 bt266.1 bt266.2.1 bt266.2.2 true)))) = some r := H
   have A15 := Aside0.mk A150
   clear A150
   replace H := Option.bind_eq_some_iff.mp H
   obtain ⟨⟨t266, t267, t268⟩, A160, H⟩ := H
   replace H : ((laws_eqStringS.f k t266 t253).bind fun t273 => (if t273 = true then ((laws_eqStringS.f k t267 t254).bind fun t274 => (if t274 = true then (laws_FnExactListMove.j0 k l0 l1 a2 a3 t253 t254 t255 t260 t263 t266 t267 t268 (t268 != t255)) else (laws_FnExactListMove.j0 k l0 l1 a2 a3 t253 t254 t255 t260 t263 t266 t267 t268 true))) else (laws_FnExactListMove.j0 k l0 l1 a2 a3 t253 t254 t255 t260 t263 t266 t267 t268 true))) = some r := H
   have A16 := Aside0.mk A160
   clear A160
   have HC17 := Aside0.mk H
   clear H
   go_upto_region 12 with (first | ((with_reducible refine gate_callee (f := 21) rfl ?_); refine goesL_ (some 36) rfl rfl Try.func21 (by kernel_rfl) rfl #[.slice A0 l0.length c0] rfl (by (try simp only [List.map_toArray, List.map_cons, List.map_nil]); first | done | rfl | (simp only [List.length_drop, List.length_take]; rfl)) ?_; (with_reducible refine (laws_toStringS.calls k _ _ l0 t247 _ ?side1 ?side2 A11.out).mono ?_); (case side1 => repeat (first | exact (Kd.C_below HR0.out HB.out) | (with_reducible refine Kd.C_alloc ?_ _) | (with_reducible refine Kd.C_drewN ?_ _) | (with_reducible refine Kd.C_drew ?_))); (case side2 => exact HC0.out); rintro e w18 ⟨v248, rfl, ho0, hb⟩; refine ⟨_, rfl, ?_⟩; (try have hone_ := (Kd.R_val ho0).2); have n0_ := Aside0.mk (Kd.R_lower ho0 (below_size (by repeat (first | (with_reducible first | exact HB.out | apply below_alloc | apply pw_below_drewN | apply below_drew1) | exact HB.out)))); have n1_ := Aside0.mk (below_step (by repeat (first | (with_reducible first | exact HB.out | apply below_alloc | apply pw_below_drewN | apply below_drew1) | exact HB.out)) hb); clear HB; have HO249 := n0_; have HB := n1_; clear n0_ n1_; (try clear hb); (try clear hb2); (try clear hk); (try clear hi); (try clear ho0)) | ((with_reducible refine gate_callee (f := 21) rfl ?_); refine goesL_ (some 38) rfl rfl Try.func21 (by kernel_rfl) rfl #[.slice A1 l1.length c1] rfl (by (try simp only [List.map_toArray, List.map_cons, List.map_nil]); first | done | rfl | (simp only [List.length_drop, List.length_take]; rfl)) ?_; (with_reducible refine (laws_toStringS.calls k _ _ l1 t250 _ ?side1 ?side2 A12.out).mono ?_); (case side1 => repeat (first | exact (Kd.C_below HR1.out HB.out) | (with_reducible refine Kd.C_alloc ?_ _) | (with_reducible refine Kd.C_drewN ?_ _) | (with_reducible refine Kd.C_drew ?_))); (case side2 => exact HC1.out); rintro e w19 ⟨v251, rfl, ho0, hb⟩; refine ⟨_, rfl, ?_⟩; (try have hone_ := (Kd.R_val ho0).2); have n0_ := Aside0.mk (Kd.R_elder' (by (with_reducible repeat (first | apply Kd.R_alloc | apply Kd.R_drewN | apply Kd.R_drew)); exact HO249.out) (Kd.R_base ho0) hb); have n1_ := Aside0.mk (Kd.R_lower (Kd.R_new' ho0 (Kd.R_lt (by (with_reducible repeat (first | apply Kd.R_alloc | apply Kd.R_drewN | apply Kd.R_drew)); exact HO249.out))) (below_size (by repeat (first | (with_reducible first | exact HB.out | apply below_alloc | apply pw_below_drewN | apply below_drew1) | exact HB.out)))); have n2_ := Aside0.mk (below_step (by repeat (first | (with_reducible first | exact HB.out | apply below_alloc | apply pw_below_drewN | apply below_drew1) | exact HB.out)) hb); clear HO249; clear HB; have HO249 := n0_; have HO252 := n1_; have HB := n2_; clear n0_ n1_ n2_; (try clear hb); (try clear hb2); (try clear hk); (try clear hi); (try clear ho0); obtain ⟨Ao20, co20, eo20⟩ := Kd.R_slice HO249.out; subst eo20; obtain ⟨Ao21, co21, eo21⟩ := Kd.R_slice HO252.out; subst eo21) | ((with_reducible refine gate_callee (f := 20) rfl ?_); refine goesL_ (some 41) rfl rfl Try.func20 (by kernel_rfl) rfl #[.slice Ao20 t247.length co20, .slice Ao21 t250.length co21, .bool a2, .bool a3] rfl (by (try simp only [List.map_toArray, List.map_cons, List.map_nil]); first | done | rfl | (simp only [List.length_drop, List.length_take]; rfl)) ?_; (with_reducible refine (spec_ListMove.calls k _ _ t247 _ _ t250 a2 a3 t253 t254 t255 _ ?side1 ?side2 ?side3 ?side4 A13.out).mono ?_); (case side1 => repeat (first | exact (Kd.R_reads' HO249.out).2.2 | (with_reducible refine Kd.C_alloc ?_ _) | (with_reducible refine Kd.C_drewN ?_ _) | (with_reducible refine Kd.C_drew ?_))); (case side2 => exact (Kd.R_reads' HO249.out).2.1); (case side3 => repeat (first | exact (Kd.R_reads' HO252.out).2.2 | (with_reducible refine Kd.C_alloc ?_ _) | (with_reducible refine Kd.C_drewN ?_ _) | (with_reducible refine Kd.C_drew ?_))); (case side4 => exact (Kd.R_reads' HO252.out).2.1); rintro e w22 ⟨v256, v258, rfl, ho0, ho1, hb⟩; refine ⟨_, rfl, ?_⟩; (try have hone_ := (Kd.R_val ho0).2); have n0_ := Aside0.mk (Kd.R_mono (Kd.R_told (Kd.R_told (Kd.R_old (by (with_reducible repeat (first | apply Kd.R_alloc | apply Kd.R_drewN | apply Kd.R_drew)); exact HO249.out) hb) (Kd.R_base ho0)) (Kd.R_base ho1)) (fun _ h_ => h_.1)); have n1_ := Aside0.mk (Kd.R_mono (Kd.R_told (Kd.R_told (Kd.R_old (by (with_reducible repeat (first | apply Kd.R_alloc | apply Kd.R_drewN | apply Kd.R_drew)); exact HO252.out) hb) (Kd.R_base ho0)) (Kd.R_base ho1)) (fun _ h_ => h_.1)); have n2_ := Aside0.mk (Kd.R_lower (Kd.R_new' (Kd.R_new' ho0 (Kd.R_lt (by (with_reducible repeat (first | apply Kd.R_alloc | apply Kd.R_drewN | apply Kd.R_drew)); exact HO249.out))) (Kd.R_lt (by (with_reducible repeat (first | apply Kd.R_alloc | apply Kd.R_drewN | apply Kd.R_drew)); exact HO252.out))) (below_size (by repeat (first | (with_reducible first | exact HB.out | apply below_alloc | apply pw_below_drewN | apply below_drew1) | exact HB.out)))); have n3_ := Aside0.mk (Kd.R_lower (Kd.R_new' (Kd.R_new' ho1 (Kd.R_lt (by (with_reducible repeat (first | apply Kd.R_alloc | apply Kd.R_drewN | apply Kd.R_drew)); exact HO249.out))) (Kd.R_lt (by (with_reducible repeat (first | apply Kd.R_alloc | apply Kd.R_drewN | apply Kd.R_drew)); exact HO252.out))) (below_size (by repeat (first | (with_reducible first | exact HB.out | apply below_alloc | apply pw_below_drewN | apply below_drew1) | exact HB.out)))); have n4_ := Aside0.mk (below_step (by repeat (first | (with_reducible first | exact HB.out | apply below_alloc | apply pw_below_drewN | apply below_drew1) | exact HB.out)) hb); clear HO249; clear HO252; clear HB; have HO249 := n0_; have HO252 := n1_; have HO257 := n2_; have HO259 := n3_; have HB := n4_; clear n0_ n1_ n2_ n3_ n4_; (try clear hb); (try clear hb2); (try clear hk); (try clear hi); (try clear ho0); (try clear ho1)) | ((with_reducible refine gate_callee (f := 21) rfl ?_); refine goesL_ (some 46) rfl rfl Try.func21 (by kernel_rfl) rfl #[.slice A0 l0.length c0] rfl (by (try simp only [List.map_toArray, List.map_cons, List.map_nil]); first | done | rfl | (simp only [List.length_drop, List.length_take]; rfl)) ?_; (with_reducible refine (laws_toStringS.calls k _ _ l0 t260 _ ?side1 ?side2 A14.out).mono ?_); (case side1 => repeat (first | exact (Kd.C_below HR0.out HB.out) | (with_reducible refine Kd.C_alloc ?_ _) | (with_reducible refine Kd.C_drewN ?_ _) | (with_reducible refine Kd.C_drew ?_))); (case side2 => exact HC0.out); rintro e w23 ⟨v261, rfl, ho0, hb⟩; refine ⟨_, rfl, ?_⟩; (try have hone_ := (Kd.R_val ho0).2); have n0_ := Aside0.mk (Kd.R_elder' (by (with_reducible repeat (first | apply Kd.R_alloc | apply Kd.R_drewN | apply Kd.R_drew)); exact HO249.out) (Kd.R_base ho0) hb); have n1_ := Aside0.mk (Kd.R_elder' (by (with_reducible repeat (first | apply Kd.R_alloc | apply Kd.R_drewN | apply Kd.R_drew)); exact HO252.out) (Kd.R_base ho0) hb); have n2_ := Aside0.mk (Kd.R_elder' (by (with_reducible repeat (first | apply Kd.R_alloc | apply Kd.R_drewN | apply Kd.R_drew)); exact HO257.out) (Kd.R_base ho0) hb); have n3_ := Aside0.mk (Kd.R_elder' (by (with_reducible repeat (first | apply Kd.R_alloc | apply Kd.R_drewN | apply Kd.R_drew)); exact HO259.out) (Kd.R_base ho0) hb); have n4_ := Aside0.mk (Kd.R_lower (Kd.R_new' (Kd.R_new' (Kd.R_new' (Kd.R_new' ho0 (Kd.R_lt (by (with_reducible repeat (first | apply Kd.R_alloc | apply Kd.R_drewN | apply Kd.R_drew)); exact HO249.out))) (Kd.R_lt (by (with_reducible repeat (first | apply Kd.R_alloc | apply Kd.R_drewN | apply Kd.R_drew)); exact HO252.out))) (Kd.R_lt (by (with_reducible repeat (first | apply Kd.R_alloc | apply Kd.R_drewN | apply Kd.R_drew)); exact HO257.out))) (Kd.R_lt (by (with_reducible repeat (first | apply Kd.R_alloc | apply Kd.R_drewN | apply Kd.R_drew)); exact HO259.out))) (below_size (by repeat (first | (with_reducible first | exact HB.out | apply below_alloc | apply pw_below_drewN | apply below_drew1) | exact HB.out)))); have n5_ := Aside0.mk (below_step (by repeat (first | (with_reducible first | exact HB.out | apply below_alloc | apply pw_below_drewN | apply below_drew1) | exact HB.out)) hb); clear HO249; clear HO252; clear HO257; clear HO259; clear HB; have HO249 := n0_; have HO252 := n1_; have HO257 := n2_; have HO259 := n3_; have HO262 := n4_; have HB := n5_; clear n0_ n1_ n2_ n3_ n4_ n5_; (try clear hb); (try clear hb2); (try clear hk); (try clear hi); (try clear ho0)) | ((with_reducible refine gate_callee (f := 21) rfl ?_); refine goesL_ (some 48) rfl rfl Try.func21 (by kernel_rfl) rfl #[.slice A1 l1.length c1] rfl (by (try simp only [List.map_toArray, List.map_cons, List.map_nil]); first | done | rfl | (simp only [List.length_drop, List.length_take]; rfl)) ?_; (with_reducible refine (laws_toStringS.calls k _ _ l1 t263 _ ?side1 ?side2 A15.out).mono ?_); (case side1 => repeat (first | exact (Kd.C_below HR1.out HB.out) | (with_reducible refine Kd.C_alloc ?_ _) | (with_reducible refine Kd.C_drewN ?_ _) | (with_reducible refine Kd.C_drew ?_))); (case side2 => exact HC1.out); rintro e w24 ⟨v264, rfl, ho0, hb⟩; refine ⟨_, rfl, ?_⟩; (try have hone_ := (Kd.R_val ho0).2); have n0_ := Aside0.mk (Kd.R_elder' (by (with_reducible repeat (first | apply Kd.R_alloc | apply Kd.R_drewN | apply Kd.R_drew)); exact HO249.out) (Kd.R_base ho0) hb); have n1_ := Aside0.mk (Kd.R_elder' (by (with_reducible repeat (first | apply Kd.R_alloc | apply Kd.R_drewN | apply Kd.R_drew)); exact HO252.out) (Kd.R_base ho0) hb); have n2_ := Aside0.mk (Kd.R_elder' (by (with_reducible repeat (first | apply Kd.R_alloc | apply Kd.R_drewN | apply Kd.R_drew)); exact HO257.out) (Kd.R_base ho0) hb); have n3_ := Aside0.mk (Kd.R_elder' (by (with_reducible repeat (first | apply Kd.R_alloc | apply Kd.R_drewN | apply Kd.R_drew)); exact HO259.out) (Kd.R_base ho0) hb); have n4_ := Aside0.mk (Kd.R_elder' (by (with_reducible repeat (first | apply Kd.R_alloc | apply Kd.R_drewN | apply Kd.R_drew)); exact HO262.out) (Kd.R_base ho0) hb); have n5_ := Aside0.mk (Kd.R_lower (Kd.R_new' (Kd.R_new' (Kd.R_new' (Kd.R_new' (Kd.R_new' ho0 (Kd.R_lt (by (with_reducible repeat (first | apply Kd.R_alloc | apply Kd.R_drewN | apply Kd.R_drew)); exact HO249.out))) (Kd.R_lt (by (with_reducible repeat (first | apply Kd.R_alloc | apply Kd.R_drewN | apply Kd.R_drew)); exact HO252.out))) (Kd.R_lt (by (with_reducible repeat (first | apply Kd.R_alloc | apply Kd.R_drewN | apply Kd.R_drew)); exact HO257.out))) (Kd.R_lt (by (with_reducible repeat (first | apply Kd.R_alloc | apply Kd.R_drewN | apply Kd.R_drew)); exact HO259.out))) (Kd.R_lt (by (with_reducible repeat (first | apply Kd.R_alloc | apply Kd.R_drewN | apply Kd.R_drew)); exact HO262.out))) (below_size (by repeat (first | (with_reducible first | exact HB.out | apply below_alloc | apply pw_below_drewN | apply below_drew1) | exact HB.out)))); have n6_ := Aside0.mk (below_step (by repeat (first | (with_reducible first | exact HB.out | apply below_alloc | apply pw_below_drewN | apply below_drew1) | exact HB.out)) hb); clear HO249; clear HO252; clear HO257; clear HO259; clear HO262; clear HB; have HO249 := n0_; have HO252 := n1_; have HO257 := n2_; have HO259 := n3_; have HO262 := n4_; have HO265 := n5_; have HB := n6_; clear n0_ n1_ n2_ n3_ n4_ n5_ n6_; (try clear hb); (try clear hb2); (try clear hk); (try clear hi); (try clear ho0); obtain ⟨Ao25, co25, eo25⟩ := Kd.R_slice HO262.out; subst eo25; obtain ⟨Ao26, co26, eo26⟩ := Kd.R_slice HO265.out; subst eo26) | ((with_reducible refine gate_callee (f := 22) rfl ?_); refine goesL_ (some 54) rfl rfl Try.func22 (by kernel_rfl) rfl #[.slice Ao25 t260.length co25, .slice Ao26 t263.length co26, .bool a2, .bool a3] rfl (by (try simp only [List.map_toArray, List.map_cons, List.map_nil]); first | done | rfl | (simp only [List.length_drop, List.length_take]; rfl)) ?_; (with_reducible refine (impl_ListMove.calls k _ _ t260 _ _ t263 a2 a3 t266 t267 t268 _ ?side1 ?side2 ?side3 ?side4 A16.out).mono ?_); (case side1 => repeat (first | exact (Kd.R_reads' HO262.out).2.2 | (with_reducible refine Kd.C_alloc ?_ _) | (with_reducible refine Kd.C_drewN ?_ _) | (with_reducible refine Kd.C_drew ?_))); (case side2 => exact (Kd.R_reads' HO262.out).2.1); (case side3 => repeat (first | exact (Kd.R_reads' HO265.out).2.2 | (with_reducible refine Kd.C_alloc ?_ _) | (with_reducible refine Kd.C_drewN ?_ _) | (with_reducible refine Kd.C_drew ?_))); (case side4 => exact (Kd.R_reads' HO265.out).2.1); rintro e w27 ⟨v269, v271, rfl, ho0, ho1, hb⟩; refine ⟨_, rfl, ?_⟩; (try have hone_ := (Kd.R_val ho0).2); have n0_ := Aside0.mk (Kd.R_mono (Kd.R_told (Kd.R_told (Kd.R_old (by (with_reducible repeat (first | apply Kd.R_alloc | apply Kd.R_drewN | apply Kd.R_drew)); exact HO249.out) hb) (Kd.R_base ho0)) (Kd.R_base ho1)) (fun _ h_ => h_.1)); have n1_ := Aside0.mk (Kd.R_mono (Kd.R_told (Kd.R_told (Kd.R_old (by (with_reducible repeat (first | apply Kd.R_alloc | apply Kd.R_drewN | apply Kd.R_drew)); exact HO252.out) hb) (Kd.R_base ho0)) (Kd.R_base ho1)) (fun _ h_ => h_.1)); have n2_ := Aside0.mk (Kd.R_mono (Kd.R_told (Kd.R_told (Kd.R_old (by (with_reducible repeat (first | apply Kd.R_alloc | apply Kd.R_drewN | apply Kd.R_drew)); exact HO257.out) hb) (Kd.R_base ho0)) (Kd.R_base ho1)) (fun _ h_ => h_.1)); have n3_ := Aside0.mk (Kd.R_mono (Kd.R_told (Kd.R_told (Kd.R_old (by (with_reducible repeat (first | apply Kd.R_alloc | apply Kd.R_drewN | apply Kd.R_drew)); exact HO259.out) hb) (Kd.R_base ho0)) (Kd.R_base ho1)) (fun _ h_ => h_.1)); have n4_ := Aside0.mk (Kd.R_mono (Kd.R_told (Kd.R_told (Kd.R_old (by (with_reducible repeat (first | apply Kd.R_alloc | apply Kd.R_drewN | apply Kd.R_drew)); exact HO262.out) hb) (Kd.R_base ho0)) (Kd.R_base ho1)) (fun _ h_ => h_.1)); have n5_ := Aside0.mk (Kd.R_mono (Kd.R_told (Kd.R_told (Kd.R_old (by (with_reducible repeat (first | apply Kd.R_alloc | apply Kd.R_drewN | apply Kd.R_drew)); exact HO265.out) hb) (Kd.R_base ho0)) (Kd.R_base ho1)) (fun _ h_ => h_.1)); have n6_ := Aside0.mk (Kd.R_lower (Kd.R_new' (Kd.R_new' (Kd.R_new' (Kd.R_new' (Kd.R_new' (Kd.R_new' ho0 (Kd.R_lt (by (with_reducible repeat (first | apply Kd.R_alloc | apply Kd.R_drewN | apply Kd.R_drew)); exact HO249.out))) (Kd.R_lt (by (with_reducible repeat (first | apply Kd.R_alloc | apply Kd.R_drewN | apply Kd.R_drew)); exact HO252.out))) (Kd.R_lt (by (with_reducible repeat (first | apply Kd.R_alloc | apply Kd.R_drewN | apply Kd.R_drew)); exact HO257.out))) (Kd.R_lt (by (with_reducible repeat (first | apply Kd.R_alloc | apply Kd.R_drewN | apply Kd.R_drew)); exact HO259.out))) (Kd.R_lt (by (with_reducible repeat (first | apply Kd.R_alloc | apply Kd.R_drewN | apply Kd.R_drew)); exact HO262.out))) (Kd.R_lt (by (with_reducible repeat (first | apply Kd.R_alloc | apply Kd.R_drewN | apply Kd.R_drew)); exact HO265.out))) (below_size (by repeat (first | (with_reducible first | exact HB.out | apply below_alloc | apply pw_below_drewN | apply below_drew1) | exact HB.out)))); have n7_ := Aside0.mk (Kd.R_lower (Kd.R_new' (Kd.R_new' (Kd.R_new' (Kd.R_new' (Kd.R_new' (Kd.R_new' ho1 (Kd.R_lt (by (with_reducible repeat (first | apply Kd.R_alloc | apply Kd.R_drewN | apply Kd.R_drew)); exact HO249.out))) (Kd.R_lt (by (with_reducible repeat (first | apply Kd.R_alloc | apply Kd.R_drewN | apply Kd.R_drew)); exact HO252.out))) (Kd.R_lt (by (with_reducible repeat (first | apply Kd.R_alloc | apply Kd.R_drewN | apply Kd.R_drew)); exact HO257.out))) (Kd.R_lt (by (with_reducible repeat (first | apply Kd.R_alloc | apply Kd.R_drewN | apply Kd.R_drew)); exact HO259.out))) (Kd.R_lt (by (with_reducible repeat (first | apply Kd.R_alloc | apply Kd.R_drewN | apply Kd.R_drew)); exact HO262.out))) (Kd.R_lt (by (with_reducible repeat (first | apply Kd.R_alloc | apply Kd.R_drewN | apply Kd.R_drew)); exact HO265.out))) (below_size (by repeat (first | (with_reducible first | exact HB.out | apply below_alloc | apply pw_below_drewN | apply below_drew1) | exact HB.out)))); have n8_ := Aside0.mk (below_step (by repeat (first | (with_reducible first | exact HB.out | apply below_alloc | apply pw_below_drewN | apply below_drew1) | exact HB.out)) hb); clear HO249; clear HO252; clear HO257; clear HO259; clear HO262; clear HO265; clear HB; have HO249 := n0_; have HO252 := n1_; have HO257 := n2_; have HO259 := n3_; have HO262 := n4_; have HO265 := n5_; have HO270 := n6_; have HO272 := n7_; have HB := n8_; clear n0_ n1_ n2_ n3_ n4_ n5_ n6_ n7_ n8_; (try clear hb); (try clear hb2); (try clear hk); (try clear hi); (try clear ho0); (try clear ho1)))
   (try simp only [Act.put, List.setIfInBounds_toArray, List.set_cons_zero, List.set_cons_succ])
   go_cut [72] (fun v72 wc => ∃ (kq : Nat) (x72_16 : Bool), v72 = .bool x72_16 ∧ Aside0 (laws_FnExactListMove.j0 kq l0 l1 a2 a3 t253 t254 t255 t260 t263 t266 t267 t268 x72_16 = some r) ∧ Aside0 (kq ≤ k) ∧ Aside0 (Kd.R Kd.string 9 wc w.heap.size (fun k_ => some k_ ≠ (v258 : Value).ownBlock ∧ some k_ ≠ ((.slice Ao25 t260.length co25) : Value).ownBlock ∧ some k_ ≠ ((.slice Ao26 t263.length co26) : Value).ownBlock ∧ some k_ ≠ (v269 : Value).ownBlock ∧ some k_ ≠ (v271 : Value).ownBlock) v256 t253) ∧ Aside0 (Kd.R Kd.string 9 wc w.heap.size (fun k_ => some k_ ≠ (v256 : Value).ownBlock ∧ some k_ ≠ ((.slice Ao25 t260.length co25) : Value).ownBlock ∧ some k_ ≠ ((.slice Ao26 t263.length co26) : Value).ownBlock ∧ some k_ ≠ (v269 : Value).ownBlock ∧ some k_ ≠ (v271 : Value).ownBlock) v258 t254) ∧ Aside0 (Kd.R Kd.string 9 wc w.heap.size (fun k_ => some k_ ≠ (v256 : Value).ownBlock ∧ some k_ ≠ (v258 : Value).ownBlock ∧ some k_ ≠ ((.slice Ao26 t263.length co26) : Value).ownBlock ∧ some k_ ≠ (v269 : Value).ownBlock ∧ some k_ ≠ (v271 : Value).ownBlock) (.slice Ao25 t260.length co25) t260) ∧ Aside0 (Kd.R Kd.string 9 wc w.heap.size (fun k_ => some k_ ≠ (v256 : Value).ownBlock ∧ some k_ ≠ (v258 : Value).ownBlock ∧ some k_ ≠ ((.slice Ao25 t260.length co25) : Value).ownBlock ∧ some k_ ≠ (v269 : Value).ownBlock ∧ some k_ ≠ (v271 : Value).ownBlock) (.slice Ao26 t263.length co26) t263) ∧ Aside0 (Kd.R Kd.string 9 wc w.heap.size (fun k_ => some k_ ≠ (v256 : Value).ownBlock ∧ some k_ ≠ (v258 : Value).ownBlock ∧ some k_ ≠ ((.slice Ao25 t260.length co25) : Value).ownBlock ∧ some k_ ≠ ((.slice Ao26 t263.length co26) : Value).ownBlock ∧ some k_ ≠ (v271 : Value).ownBlock) v269 t266) ∧ Aside0 (Kd.R Kd.string 9 wc w.heap.size (fun k_ => some k_ ≠ (v256 : Value).ownBlock ∧ some k_ ≠ (v258 : Value).ownBlock ∧ some k_ ≠ ((.slice Ao25 t260.length co25) : Value).ownBlock ∧ some k_ ≠ ((.slice Ao26 t263.length co26) : Value).ownBlock ∧ some k_ ≠ (v269 : Value).ownBlock) v271 t267) ∧ Aside0 (Below w.heap.size w wc))
   case first =>
    have H := HC17.out
    clear HC17
    replace H := Option.bind_eq_some_iff.mp H
    obtain ⟨t273, A280, H⟩ := H
    replace H : (if t273 = true then ((laws_eqStringS.f k t267 t254).bind fun t274 => (if t274 = true then (laws_FnExactListMove.j0 k l0 l1 a2 a3 t253 t254 t255 t260 t263 t266 t267 t268 (t268 != t255)) else (laws_FnExactListMove.j0 k l0 l1 a2 a3 t253 t254 t255 t260 t263 t266 t267 t268 true))) else (laws_FnExactListMove.j0 k l0 l1 a2 a3 t253 t254 t255 t260 t263 t266 t267 t268 true)) = some r := H
    have A28 := Aside0.mk A280
    clear A280
    by_cases c29 : t273 = true
    ·subst c29
     have H1 : ((laws_eqStringS.f k t267 t254).bind fun t274 => (if t274 = true then (laws_FnExactListMove.j0 k l0 l1 a2 a3 t253 t254 t255 t260 t263 t266 t267 t268 (t268 != t255)) else (laws_FnExactListMove.j0 k l0 l1 a2 a3 t253 t254 t255 t260 t263 t266 t267 t268 true))) = some r := by rw [if_pos rfl] at H; exact H
     clear H
     have H := H1
     clear H1
     replace H := Option.bind_eq_some_iff.mp H
     obtain ⟨t274, A300, H⟩ := H
     replace H : (if t274 = true then (laws_FnExactListMove.j0 k l0 l1 a2 a3 t253 t254 t255 t260 t263 t266 t267 t268 (t268 != t255)) else (laws_FnExactListMove.j0 k l0 l1 a2 a3 t253 t254 t255 t260 t263 t266 t267 t268 true)) = some r := H
     have A30 := Aside0.mk A300
     clear A300
     by_cases c31 : t274 = true
     ·subst c31
      have H1 : (laws_FnExactListMove.j0 k l0 l1 a2 a3 t253 t254 t255 t260 t263 t266 t267 t268 (t268 != t255)) = some r := by rw [if_pos rfl] at H; exact H
      clear H
      have H := H1
      clear H1
      have H' := Aside0.mk H
      clear H
      obtain ⟨Ao32, co32, eo32⟩ := Kd.R_slice HO270.out
      subst eo32
      obtain ⟨Ao33, co33, eo33⟩ := Kd.R_slice HO257.out
      subst eo33
      go_wp2_with (first | ((with_reducible refine gate_callee (f := 23) rfl ?_); refine goesL_ (some 60) rfl rfl Try.func23 (by kernel_rfl) rfl #[.slice Ao32 t266.length co32, .slice Ao33 t253.length co33] rfl (by (try simp only [List.map_toArray, List.map_cons, List.map_nil]); first | done | rfl | (simp only [List.length_drop, List.length_take]; rfl)) ?_; (with_reducible refine (laws_eqStringS.calls k _ _ t266 _ _ t253 true _ ?side1 ?side2 ?side3 ?side4 A28.out).mono ?_); (case side1 => repeat (first | exact (Kd.R_reads' HO270.out).2.2 | (with_reducible refine Kd.C_alloc ?_ _) | (with_reducible refine Kd.C_drewN ?_ _) | (with_reducible refine Kd.C_drew ?_))); (case side2 => exact (Kd.R_reads' HO270.out).2.1); (case side3 => repeat (first | exact (Kd.R_reads' HO257.out).2.2 | (with_reducible refine Kd.C_alloc ?_ _) | (with_reducible refine Kd.C_drewN ?_ _) | (with_reducible refine Kd.C_drew ?_))); (case side4 => exact (Kd.R_reads' HO257.out).2.1); rintro e w' ⟨rfl, ⟨nd, rfl⟩⟩; refine ⟨_, rfl, ?_⟩; obtain ⟨Ao34, co34, eo34⟩ := Kd.R_slice HO272.out; subst eo34; obtain ⟨Ao35, co35, eo35⟩ := Kd.R_slice HO259.out; subst eo35) | (go_at_call 23; (with_reducible refine (laws_eqStringS.calls k _ _ t267 _ _ t254 true _ ?side1 ?side2 ?side3 ?side4 A30.out).mono ?_); (case side1 => repeat (first | exact (Kd.R_reads' HO272.out).2.2 | (with_reducible refine Kd.C_alloc ?_ _) | (with_reducible refine Kd.C_drewN ?_ _) | (with_reducible refine Kd.C_drew ?_))); (case side2 => exact (Kd.R_reads' HO272.out).2.1); (case side3 => repeat (first | exact (Kd.R_reads' HO259.out).2.2 | (with_reducible refine Kd.C_alloc ?_ _) | (with_reducible refine Kd.C_drewN ?_ _) | (with_reducible refine Kd.C_drew ?_))); (case side4 => exact (Kd.R_reads' HO259.out).2.1); rintro e w' ⟨rfl, ⟨nd, rfl⟩⟩))
      go_meet
      case rel => exact ⟨_, ((t268 != t255)), (by first | rfl | (simp; done) | (simp [*]; done)), H', ⟨by first | omega | exact Nat.le_refl _⟩, ⟨by (with_reducible repeat (first | apply Kd.R_alloc | apply Kd.R_drewN | apply Kd.R_drew)); exact Kd.R_mono HO257.out (fun _ hk => ⟨hk.1.1.1.1.1.1, ⟨hk.1.1.1.2, ⟨hk.1.1.2, ⟨hk.1.2, hk.2⟩⟩⟩⟩)⟩, ⟨by (with_reducible repeat (first | apply Kd.R_alloc | apply Kd.R_drewN | apply Kd.R_drew)); exact Kd.R_mono HO259.out (fun _ hk => ⟨hk.1.1.1.1.1.1, ⟨hk.1.1.1.2, ⟨hk.1.1.2, ⟨hk.1.2, hk.2⟩⟩⟩⟩)⟩, ⟨by (with_reducible repeat (first | apply Kd.R_alloc | apply Kd.R_drewN | apply Kd.R_drew)); exact Kd.R_mono HO262.out (fun _ hk => ⟨hk.1.1.1.1.2, ⟨hk.1.1.1.2, ⟨hk.1.1.2, ⟨hk.1.2, hk.2⟩⟩⟩⟩)⟩, ⟨by (with_reducible repeat (first | apply Kd.R_alloc | apply Kd.R_drewN | apply Kd.R_drew)); exact Kd.R_mono HO265.out (fun _ hk => ⟨hk.1.1.1.1.2, ⟨hk.1.1.1.2, ⟨hk.1.1.2, ⟨hk.1.2, hk.2⟩⟩⟩⟩)⟩, ⟨by (with_reducible repeat (first | apply Kd.R_alloc | apply Kd.R_drewN | apply Kd.R_drew)); exact Kd.R_mono HO270.out (fun _ hk => ⟨hk.1.1.1.2, ⟨hk.1.1.2, ⟨hk.1.2, ⟨hk.2, hk.1.1.1.1.1.1⟩⟩⟩⟩)⟩, ⟨by (with_reducible repeat (first | apply Kd.R_alloc | apply Kd.R_drewN | apply Kd.R_drew)); exact Kd.R_mono HO272.out (fun _ hk => ⟨hk.1.1.1.2, ⟨hk.1.1.2, ⟨hk.1.2, ⟨hk.2, hk.1.1.1.1.1.1⟩⟩⟩⟩)⟩, ⟨by repeat (first | (with_reducible first | exact HB.out | apply below_alloc | apply pw_below_drewN | apply below_drew1) | exact HB.out)⟩⟩
     ·replace c31 := Bool.eq_false_iff.mpr c31
      subst c31
      have H1 : (laws_FnExactListMove.j0 k l0 l1 a2 a3 t253 t254 t255 t260 t263 t266 t267 t268 true) = some r := by rw [if_neg (show ¬ (false = true) by decide)] at H; exact H
      clear H
      have H := H1
      clear H1
      have H' := Aside0.mk H
      clear H
      obtain ⟨Ao36, co36, eo36⟩ := Kd.R_slice HO270.out
      subst eo36
      obtain ⟨Ao37, co37, eo37⟩ := Kd.R_slice HO257.out
      subst eo37
      go_wp2_with (first | ((with_reducible refine gate_callee (f := 23) rfl ?_); refine goesL_ (some 60) rfl rfl Try.func23 (by kernel_rfl) rfl #[.slice Ao36 t266.length co36, .slice Ao37 t253.length co37] rfl (by (try simp only [List.map_toArray, List.map_cons, List.map_nil]); first | done | rfl | (simp only [List.length_drop, List.length_take]; rfl)) ?_; (with_reducible refine (laws_eqStringS.calls k _ _ t266 _ _ t253 true _ ?side1 ?side2 ?side3 ?side4 A28.out).mono ?_); (case side1 => repeat (first | exact (Kd.R_reads' HO270.out).2.2 | (with_reducible refine Kd.C_alloc ?_ _) | (with_reducible refine Kd.C_drewN ?_ _) | (with_reducible refine Kd.C_drew ?_))); (case side2 => exact (Kd.R_reads' HO270.out).2.1); (case side3 => repeat (first | exact (Kd.R_reads' HO257.out).2.2 | (with_reducible refine Kd.C_alloc ?_ _) | (with_reducible refine Kd.C_drewN ?_ _) | (with_reducible refine Kd.C_drew ?_))); (case side4 => exact (Kd.R_reads' HO257.out).2.1); rintro e w' ⟨rfl, ⟨nd, rfl⟩⟩; refine ⟨_, rfl, ?_⟩; obtain ⟨Ao38, co38, eo38⟩ := Kd.R_slice HO272.out; subst eo38; obtain ⟨Ao39, co39, eo39⟩ := Kd.R_slice HO259.out; subst eo39) | (go_at_call 23; (with_reducible refine (laws_eqStringS.calls k _ _ t267 _ _ t254 false _ ?side1 ?side2 ?side3 ?side4 A30.out).mono ?_); (case side1 => repeat (first | exact (Kd.R_reads' HO272.out).2.2 | (with_reducible refine Kd.C_alloc ?_ _) | (with_reducible refine Kd.C_drewN ?_ _) | (with_reducible refine Kd.C_drew ?_))); (case side2 => exact (Kd.R_reads' HO272.out).2.1); (case side3 => repeat (first | exact (Kd.R_reads' HO259.out).2.2 | (with_reducible refine Kd.C_alloc ?_ _) | (with_reducible refine Kd.C_drewN ?_ _) | (with_reducible refine Kd.C_drew ?_))); (case side4 => exact (Kd.R_reads' HO259.out).2.1); rintro e w' ⟨rfl, ⟨nd, rfl⟩⟩))
      go_meet
      case rel => exact ⟨_, (true), (by first | rfl | (simp; done) | (simp [*]; done)), H', ⟨by first | omega | exact Nat.le_refl _⟩, ⟨by (with_reducible repeat (first | apply Kd.R_alloc | apply Kd.R_drewN | apply Kd.R_drew)); exact Kd.R_mono HO257.out (fun _ hk => ⟨hk.1.1.1.1.1.1, ⟨hk.1.1.1.2, ⟨hk.1.1.2, ⟨hk.1.2, hk.2⟩⟩⟩⟩)⟩, ⟨by (with_reducible repeat (first | apply Kd.R_alloc | apply Kd.R_drewN | apply Kd.R_drew)); exact Kd.R_mono HO259.out (fun _ hk => ⟨hk.1.1.1.1.1.1, ⟨hk.1.1.1.2, ⟨hk.1.1.2, ⟨hk.1.2, hk.2⟩⟩⟩⟩)⟩, ⟨by (with_reducible repeat (first | apply Kd.R_alloc | apply Kd.R_drewN | apply Kd.R_drew)); exact Kd.R_mono HO262.out (fun _ hk => ⟨hk.1.1.1.1.2, ⟨hk.1.1.1.2, ⟨hk.1.1.2, ⟨hk.1.2, hk.2⟩⟩⟩⟩)⟩, ⟨by (with_reducible repeat (first | apply Kd.R_alloc | apply Kd.R_drewN | apply Kd.R_drew)); exact Kd.R_mono HO265.out (fun _ hk => ⟨hk.1.1.1.1.2, ⟨hk.1.1.1.2, ⟨hk.1.1.2, ⟨hk.1.2, hk.2⟩⟩⟩⟩)⟩, ⟨by (with_reducible repeat (first | apply Kd.R_alloc | apply Kd.R_drewN | apply Kd.R_drew)); exact Kd.R_mono HO270.out (fun _ hk => ⟨hk.1.1.1.2, ⟨hk.1.1.2, ⟨hk.1.2, ⟨hk.2, hk.1.1.1.1.1.1⟩⟩⟩⟩)⟩, ⟨by (with_reducible repeat (first | apply Kd.R_alloc | apply Kd.R_drewN | apply Kd.R_drew)); exact Kd.R_mono HO272.out (fun _ hk => ⟨hk.1.1.1.2, ⟨hk.1.1.2, ⟨hk.1.2, ⟨hk.2, hk.1.1.1.1.1.1⟩⟩⟩⟩)⟩, ⟨by repeat (first | (with_reducible first | exact HB.out | apply below_alloc | apply pw_below_drewN | apply below_drew1) | exact HB.out)⟩⟩
    ·replace c29 := Bool.eq_false_iff.mpr c29
     subst c29
     have H1 : (laws_FnExactListMove.j0 k l0 l1 a2 a3 t253 t254 t255 t260 t263 t266 t267 t268 true) = some r := by rw [if_neg (show ¬ (false = true) by decide)] at H; exact H
     clear H
     have H := H1
     clear H1
     have H' := Aside0.mk H
     clear H
     obtain ⟨Ao40, co40, eo40⟩ := Kd.R_slice HO270.out
     subst eo40
     obtain ⟨Ao41, co41, eo41⟩ := Kd.R_slice HO257.out
     subst eo41
     go_wp2_with (first | ((with_reducible refine gate_callee (f := 23) rfl ?_); refine goesL_ (some 60) rfl rfl Try.func23 (by kernel_rfl) rfl #[.slice Ao40 t266.length co40, .slice Ao41 t253.length co41] rfl (by (try simp only [List.map_toArray, List.map_cons, List.map_nil]); first | done | rfl | (simp only [List.length_drop, List.length_take]; rfl)) ?_; (with_reducible refine (laws_eqStringS.calls k _ _ t266 _ _ t253 false _ ?side1 ?side2 ?side3 ?side4 A28.out).mono ?_); (case side1 => repeat (first | exact (Kd.R_reads' HO270.out).2.2 | (with_reducible refine Kd.C_alloc ?_ _) | (with_reducible refine Kd.C_drewN ?_ _) | (with_reducible refine Kd.C_drew ?_))); (case side2 => exact (Kd.R_reads' HO270.out).2.1); (case side3 => repeat (first | exact (Kd.R_reads' HO257.out).2.2 | (with_reducible refine Kd.C_alloc ?_ _) | (with_reducible refine Kd.C_drewN ?_ _) | (with_reducible refine Kd.C_drew ?_))); (case side4 => exact (Kd.R_reads' HO257.out).2.1); rintro e w' ⟨rfl, ⟨nd, rfl⟩⟩; refine ⟨_, rfl, ?_⟩))
     go_meet
     case rel => exact ⟨_, (true), (by first | rfl | (simp; done) | (simp [*]; done)), H', ⟨by first | omega | exact Nat.le_refl _⟩, ⟨by (with_reducible repeat (first | apply Kd.R_alloc | apply Kd.R_drewN | apply Kd.R_drew)); exact Kd.R_mono HO257.out (fun _ hk => ⟨hk.1.1.1.1.1.1, ⟨hk.1.1.1.2, ⟨hk.1.1.2, ⟨hk.1.2, hk.2⟩⟩⟩⟩)⟩, ⟨by (with_reducible repeat (first | apply Kd.R_alloc | apply Kd.R_drewN | apply Kd.R_drew)); exact Kd.R_mono HO259.out (fun _ hk => ⟨hk.1.1.1.1.1.1, ⟨hk.1.1.1.2, ⟨hk.1.1.2, ⟨hk.1.2, hk.2⟩⟩⟩⟩)⟩, ⟨by (with_reducible repeat (first | apply Kd.R_alloc | apply Kd.R_drewN | apply Kd.R_drew)); exact Kd.R_mono HO262.out (fun _ hk => ⟨hk.1.1.1.1.2, ⟨hk.1.1.1.2, ⟨hk.1.1.2, ⟨hk.1.2, hk.2⟩⟩⟩⟩)⟩, ⟨by (with_reducible repeat (first | apply Kd.R_alloc | apply Kd.R_drewN | apply Kd.R_drew)); exact Kd.R_mono HO265.out (fun _ hk => ⟨hk.1.1.1.1.2, ⟨hk.1.1.1.2, ⟨hk.1.1.2, ⟨hk.1.2, hk.2⟩⟩⟩⟩)⟩, ⟨by (with_reducible repeat (first | apply Kd.R_alloc | apply Kd.R_drewN | apply Kd.R_drew)); exact Kd.R_mono HO270.out (fun _ hk => ⟨hk.1.1.1.2, ⟨hk.1.1.2, ⟨hk.1.2, ⟨hk.2, hk.1.1.1.1.1.1⟩⟩⟩⟩)⟩, ⟨by (with_reducible repeat (first | apply Kd.R_alloc | apply Kd.R_drewN | apply Kd.R_drew)); exact Kd.R_mono HO272.out (fun _ hk => ⟨hk.1.1.1.2, ⟨hk.1.1.2, ⟨hk.1.2, ⟨hk.2, hk.1.1.1.1.1.1⟩⟩⟩⟩)⟩, ⟨by repeat (first | (with_reducible first | exact HB.out | apply below_alloc | apply pw_below_drewN | apply below_drew1) | exact HB.out)⟩⟩
   case rest =>
    clear HC17
    try clear c1
    try clear c2
    try clear p2
    try clear c3
    try clear c6
    try clear c7
    try clear c7b0
    try clear c7b1
    try clear c7b2
    try clear c10
    try clear c10b0
    try clear c10b1
    try clear c10b2
    try clear c19
    try clear c20
    try clear c21
    try clear c22
    try clear c23
    try clear c29
    try clear c31
    obtain ⟨kq, x72_16, rfl, HA, HJ16, HO_10, HO_11, HO_13, HO_14, HO_15, HO_16, HB⟩ := hcut
    cases kq with
    | zero => exact absurd HA.out (by simp [laws_FnExactListMove.j0])
    | succ kj16 =>
     have H := HA.out
     clear HA
     simp only [laws_FnExactListMove.j0] at H
     by_cases c42 : x72_16 = true
     ·subst c42
      have H1 : (some false) = some r := by rw [if_pos rfl] at H; exact H
      clear H
      have H := H1
      clear H1
      obtain rfl := Option.some.inj H
      go_wp2
      go_ret
      exact ⟨by first | rfl | (simp [errW_none, errW_some] <;> rfl) | (simp [*, errW_none, errW_some] <;> rfl), by repeat (first | (with_reducible first | exact HB.out | apply below_alloc | apply pw_below_drewN | apply below_drew1) | exact HB.out)⟩
     ·replace c42 := Bool.eq_false_iff.mpr c42
      subst c42
      have H1 : ((laws_toStringS.f kj16 l0).bind fun t275 => ((laws_eqStringS.f kj16 t260 t275).bind fun t278 => (if t278 = true then ((laws_toStringS.f kj16 l1).bind fun t279 => ((laws_eqStringS.f kj16 t263 t279).bind fun t282 => (if t282 = true then ((laws_markStringS.f kj16 t260 1).bind fun bt283 => ((laws_markStringS.f kj16 t263 bt283.1).bind fun bt285 => (if bt285.1 < 0 then (laws_FnExactListMove.j1 kj16 l0 l1 a2 a3 t253 t254 t255 t266 t267 true) else ((laws_eqStringS.f kj16 t266 t253).bind fun t287 => (if t287 = true then ((laws_eqStringS.f kj16 t267 t254).bind fun t288 => (if t288 = true then (laws_FnExactListMove.j1 kj16 l0 l1 a2 a3 t253 t254 t255 t266 t267 (t268 != t255)) else (laws_FnExactListMove.j1 kj16 l0 l1 a2 a3 t253 t254 t255 t266 t267 true))) else (laws_FnExactListMove.j1 kj16 l0 l1 a2 a3 t253 t254 t255 t266 t267 true)))))) else (some false)))) else (some false)))) = some r := by rw [if_neg (show ¬ (false = true) by decide)] at H; exact H
      clear H
      have H := H1
      clear H1
      replace H := Option.bind_eq_some_iff.mp H
      obtain ⟨t275, A430, H⟩ := H
      replace H : ((laws_eqStringS.f kj16 t260 t275).bind fun t278 => (if t278 = true then ((laws_toStringS.f kj16 l1).bind fun t279 => ((laws_eqStringS.f kj16 t263 t279).bind fun t282 => (if t282 = true then ((laws_markStringS.f kj16 t260 1).bind fun bt283 => ((laws_markStringS.f kj16 t263 bt283.1).bind fun bt285 => (if bt285.1 < 0 then (laws_FnExactListMove.j1 kj16 l0 l1 a2 a3 t253 t254 t255 t266 t267 true) else ((laws_eqStringS.f kj16 t266 t253).bind fun t287 => (if t287 = true then ((laws_eqStringS.f kj16 t267 t254).bind fun t288 => (if t288 = true then (laws_FnExactListMove.j1 kj16 l0 l1 a2 a3 t253 t254 t255 t266 t267 (t268 != t255)) else (laws_FnExactListMove.j1 kj16 l0 l1 a2 a3 t253 t254 t255 t266 t267 true))) else (laws_FnExactListMove.j1 kj16 l0 l1 a2 a3 t253 t254 t255 t266 t267 true)))))) else (some false)))) else (some false))) = some r := H
      have A43 := Aside0.mk A430
      clear A430
      replace H := Option.bind_eq_some_iff.mp H
      obtain ⟨t278, A440, H⟩ := H
      replace H : (if t278 = true then ((laws_toStringS.f kj16 l1).bind fun t279 => ((laws_eqStringS.f kj16 t263 t279).bind fun t282 => (if t282 = true then ((laws_markStringS.f kj16 t260 1).bind fun bt283 => ((laws_markStringS.f kj16 t263 bt283.1).bind fun bt285 => (if bt285.1 < 0 then (laws_FnExactListMove.j1 kj16 l0 l1 a2 a3 t253 t254 t255 t266 t267 true) else ((laws_eqStringS.f kj16 t266 t253).bind fun t287 => (if t287 = true then ((laws_eqStringS.f kj16 t267 t254).bind fun t288 => (if t288 = true then (laws_FnExactListMove.j1 kj16 l0 l1 a2 a3 t253 t254 t255 t266 t267 (t268 != t255)) else (laws_FnExactListMove.j1 kj16 l0 l1 a2 a3 t253 t254 t255 t266 t267 true))) else (laws_FnExactListMove.j1 kj16 l0 l1 a2 a3 t253 t254 t255 t266 t267 true)))))) else (some false)))) else (some false)) = some r := H
      have A44 := Aside0.mk A440
      clear A440
      have HC45 := Aside0.mk H
      clear H
      go_upto_if 77 with (first | ((with_reducible refine gate_callee (f := 21) rfl ?_); refine goesL_ (some 75) rfl rfl Try.func21 (by kernel_rfl) rfl #[.slice A0 l0.length c0] rfl (by (try simp only [List.map_toArray, List.map_cons, List.map_nil]); first | done | rfl | (simp only [List.length_drop, List.length_take]; rfl)) ?_; (with_reducible refine (laws_toStringS.calls kj16 _ _ l0 t275 _ ?side1 ?side2 A43.out).mono ?_); (case side1 => repeat (first | exact (Kd.C_below HR0.out HB.out) | (with_reducible refine Kd.C_alloc ?_ _) | (with_reducible refine Kd.C_drewN ?_ _) | (with_reducible refine Kd.C_drew ?_))); (case side2 => exact HC0.out); rintro e w46 ⟨v276, rfl, ho0, hb⟩; refine ⟨_, rfl, ?_⟩; (try have hone_ := (Kd.R_val ho0).2); have n0_ := Aside0.mk (Kd.R_elder' (by (with_reducible repeat (first | apply Kd.R_alloc | apply Kd.R_drewN | apply Kd.R_drew)); exact HO_10.out) (Kd.R_base ho0) hb); have n1_ := Aside0.mk (Kd.R_elder' (by (with_reducible repeat (first | apply Kd.R_alloc | apply Kd.R_drewN | apply Kd.R_drew)); exact HO_11.out) (Kd.R_base ho0) hb); have n2_ := Aside0.mk (Kd.R_elder' (by (with_reducible repeat (first | apply Kd.R_alloc | apply Kd.R_drewN | apply Kd.R_drew)); exact HO_13.out) (Kd.R_base ho0) hb); have n3_ := Aside0.mk (Kd.R_elder' (by (with_reducible repeat (first | apply Kd.R_alloc | apply Kd.R_drewN | apply Kd.R_drew)); exact HO_14.out) (Kd.R_base ho0) hb); have n4_ := Aside0.mk (Kd.R_elder' (by (with_reducible repeat (first | apply Kd.R_alloc | apply Kd.R_drewN | apply Kd.R_drew)); exact HO_15.out) (Kd.R_base ho0) hb); have n5_ := Aside0.mk (Kd.R_elder' (by (with_reducible repeat (first | apply Kd.R_alloc | apply Kd.R_drewN | apply Kd.R_drew)); exact HO_16.out) (Kd.R_base ho0) hb); have n6_ := Aside0.mk (Kd.R_lower (Kd.R_new' (Kd.R_new' (Kd.R_new' (Kd.R_new' (Kd.R_new' (Kd.R_new' ho0 (Kd.R_lt (by (with_reducible repeat (first | apply Kd.R_alloc | apply Kd.R_drewN | apply Kd.R_drew)); exact HO_10.out))) (Kd.R_lt (by (with_reducible repeat (first | apply Kd.R_alloc | apply Kd.R_drewN | apply Kd.R_drew)); exact HO_11.out))) (Kd.R_lt (by (with_reducible repeat (first | apply Kd.R_alloc | apply Kd.R_drewN | apply Kd.R_drew)); exact HO_13.out))) (Kd.R_lt (by (with_reducible repeat (first | apply Kd.R_alloc | apply Kd.R_drewN | apply Kd.R_drew)); exact HO_14.out))) (Kd.R_lt (by (with_reducible repeat (first | apply Kd.R_alloc | apply Kd.R_drewN | apply Kd.R_drew)); exact HO_15.out))) (Kd.R_lt (by (with_reducible repeat (first | apply Kd.R_alloc | apply Kd.R_drewN | apply Kd.R_drew)); exact HO_16.out))) (below_size (by repeat (first | (with_reducible first | exact HB.out | apply below_alloc | apply pw_below_drewN | apply below_drew1) | exact HB.out)))); have n7_ := Aside0.mk (below_step (by repeat (first | (with_reducible first | exact HB.out | apply below_alloc | apply pw_below_drewN | apply below_drew1) | exact HB.out)) hb); clear HO_10; clear HO_11; clear HO_13; clear HO_14; clear HO_15; clear HO_16; clear HB; have HO_10 := n0_; have HO_11 := n1_; have HO_13 := n2_; have HO_14 := n3_; have HO_15 := n4_; have HO_16 := n5_; have HO277 := n6_; have HB := n7_; clear n0_ n1_ n2_ n3_ n4_ n5_ n6_ n7_; (try clear hb); (try clear hb2); (try clear hk); (try clear hi); (try clear ho0); obtain ⟨Ao47, co47, eo47⟩ := Kd.R_slice HO277.out; subst eo47) | ((with_reducible refine gate_callee (f := 23) rfl ?_); refine goesL_ (some 76) rfl rfl Try.func23 (by kernel_rfl) rfl #[.slice Ao25 t260.length co25, .slice Ao47 t275.length co47] rfl (by (try simp only [List.map_toArray, List.map_cons, List.map_nil]); first | done | rfl | (simp only [List.length_drop, List.length_take]; rfl)) ?_; (with_reducible refine (laws_eqStringS.calls kj16 _ _ t260 _ _ t275 t278 _ ?side1 ?side2 ?side3 ?side4 A44.out).mono ?_); (case side1 => repeat (first | exact (Kd.R_reads' HO_13.out).2.2 | (with_reducible refine Kd.C_alloc ?_ _) | (with_reducible refine Kd.C_drewN ?_ _) | (with_reducible refine Kd.C_drew ?_))); (case side2 => exact (Kd.R_reads' HO_13.out).2.1); (case side3 => repeat (first | exact (Kd.R_reads' HO277.out).2.2 | (with_reducible refine Kd.C_alloc ?_ _) | (with_reducible refine Kd.C_drewN ?_ _) | (with_reducible refine Kd.C_drew ?_))); (case side4 => exact (Kd.R_reads' HO277.out).2.1); rintro e w' ⟨rfl, ⟨nd, rfl⟩⟩; refine ⟨_, rfl, ?_⟩))
      have H := HC45.out
      clear HC45
      by_cases c48 : t278 = true
      ·subst c48
       have H1 : ((laws_toStringS.f kj16 l1).bind fun t279 => ((laws_eqStringS.f kj16 t263 t279).bind fun t282 => (if t282 = true then ((laws_markStringS.f kj16 t260 1).bind fun bt283 => ((laws_markStringS.f kj16 t263 bt283.1).bind fun bt285 => (if bt285.1 < 0 then (laws_FnExactListMove.j1 kj16 l0 l1 a2 a3 t253 t254 t255 t266 t267 true) else ((laws_eqStringS.f kj16 t266 t253).bind fun t287 => (if t287 = true then ((laws_eqStringS.f kj16 t267 t254).bind fun t288 => (if t288 = true then (laws_FnExactListMove.j1 kj16 l0 l1 a2 a3 t253 t254 t255 t266 t267 (t268 != t255)) else (laws_FnExactListMove.j1 kj16 l0 l1 a2 a3 t253 t254 t255 t266 t267 true))) else (laws_FnExactListMove.j1 kj16 l0 l1 a2 a3 t253 t254 t255 t266 t267 true)))))) else (some false)))) = some r := by rw [if_pos rfl] at H; exact H
       clear H
       have H := H1
       clear H1
       replace H := Option.bind_eq_some_iff.mp H
       obtain ⟨t279, A490, H⟩ := H
       replace H : ((laws_eqStringS.f kj16 t263 t279).bind fun t282 => (if t282 = true then ((laws_markStringS.f kj16 t260 1).bind fun bt283 => ((laws_markStringS.f kj16 t263 bt283.1).bind fun bt285 => (if bt285.1 < 0 then (laws_FnExactListMove.j1 kj16 l0 l1 a2 a3 t253 t254 t255 t266 t267 true) else ((laws_eqStringS.f kj16 t266 t253).bind fun t287 => (if t287 = true then ((laws_eqStringS.f kj16 t267 t254).bind fun t288 => (if t288 = true then (laws_FnExactListMove.j1 kj16 l0 l1 a2 a3 t253 t254 t255 t266 t267 (t268 != t255)) else (laws_FnExactListMove.j1 kj16 l0 l1 a2 a3 t253 t254 t255 t266 t267 true))) else (laws_FnExactListMove.j1 kj16 l0 l1 a2 a3 t253 t254 t255 t266 t267 true)))))) else (some false))) = some r := H
       have A49 := Aside0.mk A490
       clear A490
       replace H := Option.bind_eq_some_iff.mp H
       obtain ⟨t282, A500, H⟩ := H
       replace H : (if t282 = true then ((laws_markStringS.f kj16 t260 1).bind fun bt283 => ((laws_markStringS.f kj16 t263 bt283.1).bind fun bt285 => (if bt285.1 < 0 then (laws_FnExactListMove.j1 kj16 l0 l1 a2 a3 t253 t254 t255 t266 t267 true) else ((laws_eqStringS.f kj16 t266 t253).bind fun t287 => (if t287 = true then ((laws_eqStringS.f kj16 t267 t254).bind fun t288 => (if t288 = true then (laws_FnExactListMove.j1 kj16 l0 l1 a2 a3 t253 t254 t255 t266 t267 (t268 != t255)) else (laws_FnExactListMove.j1 kj16 l0 l1 a2 a3 t253 t254 t255 t266 t267 true))) else (laws_FnExactListMove.j1 kj16 l0 l1 a2 a3 t253 t254 t255 t266 t267 true)))))) else (some false)) = some r := H
       have A50 := Aside0.mk A500
       clear A500
       have HC51 := Aside0.mk H
       clear H
       go_upto_if 82 with (first | ((with_reducible refine gate_callee (f := 21) rfl ?_); refine goesL_ (some 80) rfl rfl Try.func21 (by kernel_rfl) rfl #[.slice A1 l1.length c1] rfl (by (try simp only [List.map_toArray, List.map_cons, List.map_nil]); first | done | rfl | (simp only [List.length_drop, List.length_take]; rfl)) ?_; (with_reducible refine (laws_toStringS.calls kj16 _ _ l1 t279 _ ?side1 ?side2 A49.out).mono ?_); (case side1 => repeat (first | exact (Kd.C_below HR1.out HB.out) | (with_reducible refine Kd.C_alloc ?_ _) | (with_reducible refine Kd.C_drewN ?_ _) | (with_reducible refine Kd.C_drew ?_))); (case side2 => exact HC1.out); rintro e w52 ⟨v280, rfl, ho0, hb⟩; refine ⟨_, rfl, ?_⟩; (try have hone_ := (Kd.R_val ho0).2); have n0_ := Aside0.mk (Kd.R_elder' (by (with_reducible repeat (first | apply Kd.R_alloc | apply Kd.R_drewN | apply Kd.R_drew)); exact HO_10.out) (Kd.R_base ho0) hb); have n1_ := Aside0.mk (Kd.R_elder' (by (with_reducible repeat (first | apply Kd.R_alloc | apply Kd.R_drewN | apply Kd.R_drew)); exact HO_11.out) (Kd.R_base ho0) hb); have n2_ := Aside0.mk (Kd.R_elder' (by (with_reducible repeat (first | apply Kd.R_alloc | apply Kd.R_drewN | apply Kd.R_drew)); exact HO_13.out) (Kd.R_base ho0) hb); have n3_ := Aside0.mk (Kd.R_elder' (by (with_reducible repeat (first | apply Kd.R_alloc | apply Kd.R_drewN | apply Kd.R_drew)); exact HO_14.out) (Kd.R_base ho0) hb); have n4_ := Aside0.mk (Kd.R_elder' (by (with_reducible repeat (first | apply Kd.R_alloc | apply Kd.R_drewN | apply Kd.R_drew)); exact HO_15.out) (Kd.R_base ho0) hb); have n5_ := Aside0.mk (Kd.R_elder' (by (with_reducible repeat (first | apply Kd.R_alloc | apply Kd.R_drewN | apply Kd.R_drew)); exact HO_16.out) (Kd.R_base ho0) hb); have n6_ := Aside0.mk (Kd.R_elder' (by (with_reducible repeat (first | apply Kd.R_alloc | apply Kd.R_drewN | apply Kd.R_drew)); exact HO277.out) (Kd.R_base ho0) hb); have n7_ := Aside0.mk (Kd.R_lower (Kd.R_new' (Kd.R_new' (Kd.R_new' (Kd.R_new' (Kd.R_new' (Kd.R_new' (Kd.R_new' ho0 (Kd.R_lt (by (with_reducible repeat (first | apply Kd.R_alloc | apply Kd.R_drewN | apply Kd.R_drew)); exact HO_10.out))) (Kd.R_lt (by (with_reducible repeat (first | apply Kd.R_alloc | apply Kd.R_drewN | apply Kd.R_drew)); exact HO_11.out))) (Kd.R_lt (by (with_reducible repeat (first | apply Kd.R_alloc | apply Kd.R_drewN | apply Kd.R_drew)); exact HO_13.out))) (Kd.R_lt (by (with_reducible repeat (first | apply Kd.R_alloc | apply Kd.R_drewN | apply Kd.R_drew)); exact HO_14.out))) (Kd.R_lt (by (with_reducible repeat (first | apply Kd.R_alloc | apply Kd.R_drewN | apply Kd.R_drew)); exact HO_15.out))) (Kd.R_lt (by (with_reducible repeat (first | apply Kd.R_alloc | apply Kd.R_drewN | apply Kd.R_drew)); exact HO_16.out))) (Kd.R_lt (by (with_reducible repeat (first | apply Kd.R_alloc | apply Kd.R_drewN | apply Kd.R_drew)); exact HO277.out))) (below_size (by repeat (first | (with_reducible first | exact HB.out | apply below_alloc | apply pw_below_drewN | apply below_drew1) | exact HB.out)))); have n8_ := Aside0.mk (below_step (by repeat (first | (with_reducible first | exact HB.out | apply below_alloc | apply pw_below_drewN | apply below_drew1) | exact HB.out)) hb); clear HO_10; clear HO_11; clear HO_13; clear HO_14; clear HO_15; clear HO_16; clear HO277; clear HB; have HO_10 := n0_; have HO_11 := n1_; have HO_13 := n2_; have HO_14 := n3_; have HO_15 := n4_; have HO_16 := n5_; have HO277 := n6_; have HO281 := n7_; have HB := n8_; clear n0_ n1_ n2_ n3_ n4_ n5_ n6_ n7_ n8_; (try clear hb); (try clear hb2); (try clear hk); (try clear hi); (try clear ho0); obtain ⟨Ao53, co53, eo53⟩ := Kd.R_slice HO281.out; subst eo53) | ((with_reducible refine gate_callee (f := 23) rfl ?_); refine goesL_ (some 81) rfl rfl Try.func23 (by kernel_rfl) rfl #[.slice Ao26 t263.length co26, .slice Ao53 t279.length co53] rfl (by (try simp only [List.map_toArray, List.map_cons, List.map_nil]); first | done | rfl | (simp only [List.length_drop, List.length_take]; rfl)) ?_; (with_reducible refine (laws_eqStringS.calls kj16 _ _ t263 _ _ t279 t282 _ ?side1 ?side2 ?side3 ?side4 A50.out).mono ?_); (case side1 => repeat (first | exact (Kd.R_reads' HO_14.out).2.2 | (with_reducible refine Kd.C_alloc ?_ _) | (with_reducible refine Kd.C_drewN ?_ _) | (with_reducible refine Kd.C_drew ?_))); (case side2 => exact (Kd.R_reads' HO_14.out).2.1); (case side3 => repeat (first | exact (Kd.R_reads' HO281.out).2.2 | (with_reducible refine Kd.C_alloc ?_ _) | (with_reducible refine Kd.C_drewN ?_ _) | (with_reducible refine Kd.C_drew ?_))); (case side4 => exact (Kd.R_reads' HO281.out).2.1); rintro e w' ⟨rfl, ⟨nd, rfl⟩⟩; refine ⟨_, rfl, ?_⟩))
       have H := HC51.out
       clear HC51
       by_cases c54 : t282 = true
       ·subst c54
        have H1 : ((laws_markStringS.f kj16 t260 1).bind fun bt283 => ((laws_markStringS.f kj16 t263 bt283.1).bind fun bt285 => (if bt285.1 < 0 then (laws_FnExactListMove.j1 kj16 l0 l1 a2 a3 t253 t254 t255 t266 t267 true) else ((laws_eqStringS.f kj16 t266 t253).bind fun t287 => (if t287 = true then ((laws_eqStringS.f kj16 t267 t254).bind fun t288 => (if t288 = true then (laws_FnExactListMove.j1 kj16 l0 l1 a2 a3 t253 t254 t255 t266 t267 (t268 != t255)) else (laws_FnExactListMove.j1 kj16 l0 l1 a2 a3 t253 t254 t255 t266 t267 true))) else (laws_FnExactListMove.j1 kj16 l0 l1 a2 a3 t253 t254 t255 t266 t267 true)))))) = some r := by rw [if_pos rfl] at H; exact H
        clear H
        have H := H1
        clear H1
        replace H := Option.bind_eq_some_iff.mp H
        obtain ⟨⟨t283, t284⟩, A550, H⟩ := H
        replace H : ((laws_markStringS.f kj16 t263 t283).bind fun bt285 => (if bt285.1 < 0 then (laws_FnExactListMove.j1 kj16 l0 l1 a2 a3 t253 t254 t255 t266 t267 true) else ((laws_eqStringS.f kj16 t266 t253).bind fun t287 => (if t287 = true then ((laws_eqStringS.f kj16 t267 t254).bind fun t288 => (if t288 = true then (laws_FnExactListMove.j1 kj16 l0 l1 a2 a3 t253 t254 t255 t266 t267 (t268 != t255)) else (laws_FnExactListMove.j1 kj16 l0 l1 a2 a3 t253 t254 t255 t266 t267 true))) else (laws_FnExactListMove.j1 kj16 l0 l1 a2 a3 t253 t254 t255 t266 t267 true))))) = some r := H
        have A55 := Aside0.mk A550
        clear A550
        replace H := Option.bind_eq_some_iff.mp H
        obtain ⟨⟨t285, t286⟩, A560, H⟩ := H
        replace H : (if t285 < 0 then (laws_FnExactListMove.j1 kj16 l0 l1 a2 a3 t253 t254 t255 t266 t267 true) else ((laws_eqStringS.f kj16 t266 t253).bind fun t287 => (if t287 = true then ((laws_eqStringS.f kj16 t267 t254).bind fun t288 => (if t288 = true then (laws_FnExactListMove.j1 kj16 l0 l1 a2 a3 t253 t254 t255 t266 t267 (t268 != t255)) else (laws_FnExactListMove.j1 kj16 l0 l1 a2 a3 t253 t254 t255 t266 t267 true))) else (laws_FnExactListMove.j1 kj16 l0 l1 a2 a3 t253 t254 t255 t266 t267 true)))) = some r := H
        have A56 := Aside0.mk A560
        clear A560
        have HC57 := Aside0.mk H
        clear H
        go_upto_region 21 with (first | ((with_reducible refine gate_callee (f := 24) rfl ?_); refine goesL_ (some 85) rfl rfl Try.func24 (by kernel_rfl) rfl #[.slice Ao25 t260.length co25, .int .i64 1] rfl (by (try simp only [List.map_toArray, List.map_cons, List.map_nil]); first | done | rfl | (simp only [List.length_drop, List.length_take]; rfl)) ?_; (with_reducible refine (laws_markStringS.calls kj16 (fun k_ => some k_ = (.slice Ao25 t260.length co25 : Value).ownBlock) (.slice Ao25 t260.length co25) t260 1 t283 t284 w _ ?side1 ?side2 A55.out).mono ?_); (case side1 => repeat (first | (with_reducible first | exact HB.out | apply below_alloc | apply pw_below_drewN | apply below_drew1) | exact HB.out)); (case side2 => exact Kd.R_tight rfl HO_13.out); rintro e w58 ⟨rfl, hy0, hb, hkp⟩; refine ⟨_, rfl, ?_⟩; have n0_ := Aside0.mk (Kd.R_mono (ok' := fun k_ => some k_ ≠ (v258 : Value).ownBlock ∧ some k_ ≠ (.slice Ao25 t260.length co25 : Value).ownBlock ∧ some k_ ≠ (.slice Ao26 t263.length co26 : Value).ownBlock ∧ some k_ ≠ (v269 : Value).ownBlock ∧ some k_ ≠ (v271 : Value).ownBlock ∧ some k_ ≠ (.slice Ao47 t275.length co47 : Value).ownBlock ∧ some k_ ≠ (.slice Ao53 t279.length co53 : Value).ownBlock) (Kd.R_keptB (HO_10.out) hkp (fun k_ hk_ hs_ => (hk_.1.1.2.1) hs_)) (fun k_ hk_ => ⟨hk_.1.1.1.1, hk_.1.1.1.2.1, hk_.1.1.1.2.2.1, hk_.1.1.1.2.2.2.1, hk_.1.1.1.2.2.2.2, hk_.1.1.2, hk_.1.2⟩)); have n1_ := Aside0.mk (Kd.R_mono (ok' := fun k_ => some k_ ≠ (v256 : Value).ownBlock ∧ some k_ ≠ (.slice Ao25 t260.length co25 : Value).ownBlock ∧ some k_ ≠ (.slice Ao26 t263.length co26 : Value).ownBlock ∧ some k_ ≠ (v269 : Value).ownBlock ∧ some k_ ≠ (v271 : Value).ownBlock ∧ some k_ ≠ (.slice Ao47 t275.length co47 : Value).ownBlock ∧ some k_ ≠ (.slice Ao53 t279.length co53 : Value).ownBlock) (Kd.R_keptB (HO_11.out) hkp (fun k_ hk_ hs_ => (hk_.1.1.2.1) hs_)) (fun k_ hk_ => ⟨hk_.1.1.1.1, hk_.1.1.1.2.1, hk_.1.1.1.2.2.1, hk_.1.1.1.2.2.2.1, hk_.1.1.1.2.2.2.2, hk_.1.1.2, hk_.1.2⟩)); have n2_ := Aside0.mk (Kd.R_reok rfl hy0 (fun k_ e_ => HO_13.out.1 k_ e_)); have n3_ := Aside0.mk (Kd.R_mono (ok' := fun k_ => some k_ ≠ (v256 : Value).ownBlock ∧ some k_ ≠ (v258 : Value).ownBlock ∧ some k_ ≠ (.slice Ao25 t260.length co25 : Value).ownBlock ∧ some k_ ≠ (v269 : Value).ownBlock ∧ some k_ ≠ (v271 : Value).ownBlock ∧ some k_ ≠ (.slice Ao47 t275.length co47 : Value).ownBlock ∧ some k_ ≠ (.slice Ao53 t279.length co53 : Value).ownBlock) (Kd.R_keptB (HO_14.out) hkp (fun k_ hk_ hs_ => (hk_.1.1.2.2.1) hs_)) (fun k_ hk_ => ⟨hk_.1.1.1.1, hk_.1.1.1.2.1, hk_.1.1.1.2.2.1, hk_.1.1.1.2.2.2.1, hk_.1.1.1.2.2.2.2, hk_.1.1.2, hk_.1.2⟩)); have n4_ := Aside0.mk (Kd.R_mono (ok' := fun k_ => some k_ ≠ (v256 : Value).ownBlock ∧ some k_ ≠ (v258 : Value).ownBlock ∧ some k_ ≠ (.slice Ao25 t260.length co25 : Value).ownBlock ∧ some k_ ≠ (.slice Ao26 t263.length co26 : Value).ownBlock ∧ some k_ ≠ (v271 : Value).ownBlock ∧ some k_ ≠ (.slice Ao47 t275.length co47 : Value).ownBlock ∧ some k_ ≠ (.slice Ao53 t279.length co53 : Value).ownBlock) (Kd.R_keptB (HO_15.out) hkp (fun k_ hk_ hs_ => (hk_.1.1.2.2.1) hs_)) (fun k_ hk_ => ⟨hk_.1.1.1.1, hk_.1.1.1.2.1, hk_.1.1.1.2.2.1, hk_.1.1.1.2.2.2.1, hk_.1.1.1.2.2.2.2, hk_.1.1.2, hk_.1.2⟩)); have n5_ := Aside0.mk (Kd.R_mono (ok' := fun k_ => some k_ ≠ (v256 : Value).ownBlock ∧ some k_ ≠ (v258 : Value).ownBlock ∧ some k_ ≠ (.slice Ao25 t260.length co25 : Value).ownBlock ∧ some k_ ≠ (.slice Ao26 t263.length co26 : Value).ownBlock ∧ some k_ ≠ (v269 : Value).ownBlock ∧ some k_ ≠ (.slice Ao47 t275.length co47 : Value).ownBlock ∧ some k_ ≠ (.slice Ao53 t279.length co53 : Value).ownBlock) (Kd.R_keptB (HO_16.out) hkp (fun k_ hk_ hs_ => (hk_.1.1.2.2.1) hs_)) (fun k_ hk_ => ⟨hk_.1.1.1.1, hk_.1.1.1.2.1, hk_.1.1.1.2.2.1, hk_.1.1.1.2.2.2.1, hk_.1.1.1.2.2.2.2, hk_.1.1.2, hk_.1.2⟩)); have n6_ := Aside0.mk (Kd.R_mono (ok' := fun k_ => some k_ ≠ (v256 : Value).ownBlock ∧ some k_ ≠ (v258 : Value).ownBlock ∧ some k_ ≠ (.slice Ao25 t260.length co25 : Value).ownBlock ∧ some k_ ≠ (.slice Ao26 t263.length co26 : Value).ownBlock ∧ some k_ ≠ (v269 : Value).ownBlock ∧ some k_ ≠ (v271 : Value).ownBlock ∧ some k_ ≠ (.slice Ao53 t279.length co53 : Value).ownBlock) (Kd.R_keptB (HO277.out) hkp (fun k_ hk_ hs_ => (hk_.1.1.1.1.2) hs_)) (fun k_ hk_ => ⟨hk_.1.1.1.1.1.1.1.2, hk_.1.1.1.1.1.1.2, hk_.1.1.1.1.1.2, hk_.1.1.1.1.2, hk_.1.1.1.2, hk_.1.1.2, hk_.1.2⟩)); have n7_ := Aside0.mk (Kd.R_mono (ok' := fun k_ => some k_ ≠ (v256 : Value).ownBlock ∧ some k_ ≠ (v258 : Value).ownBlock ∧ some k_ ≠ (.slice Ao25 t260.length co25 : Value).ownBlock ∧ some k_ ≠ (.slice Ao26 t263.length co26 : Value).ownBlock ∧ some k_ ≠ (v269 : Value).ownBlock ∧ some k_ ≠ (v271 : Value).ownBlock ∧ some k_ ≠ (.slice Ao47 t275.length co47 : Value).ownBlock) (Kd.R_keptB (HO281.out) hkp (fun k_ hk_ hs_ => (hk_.1.1.1.1.2) hs_)) (fun k_ hk_ => ⟨hk_.1.1.1.1.1.1.1.2, hk_.1.1.1.1.1.1.2, hk_.1.1.1.1.1.2, hk_.1.1.1.1.2, hk_.1.1.1.2, hk_.1.1.2, hk_.1.2⟩)); have n8_ := Aside0.mk (hb); clear HO_10; clear HO_11; clear HO_13; clear HO_14; clear HO_15; clear HO_16; clear HO277; clear HO281; clear HB; have HO_10 := n0_; have HO_11 := n1_; have HO_13 := n2_; have HO_14 := n3_; have HO_15 := n4_; have HO_16 := n5_; have HO277 := n6_; have HO281 := n7_; have HB := n8_; clear n0_ n1_ n2_ n3_ n4_ n5_ n6_ n7_ n8_; (try clear hb); (try clear hkp); (try clear hy0)) | ((with_reducible refine gate_callee (f := 24) rfl ?_); refine goesL_ (some 88) rfl rfl Try.func24 (by kernel_rfl) rfl #[.slice Ao26 t263.length co26, .int .i64 t283] rfl (by (try simp only [List.map_toArray, List.map_cons, List.map_nil]); first | done | rfl | (simp only [List.length_drop, List.length_take]; rfl)) ?_; (with_reducible refine (laws_markStringS.calls kj16 (fun k_ => some k_ = (.slice Ao26 t263.length co26 : Value).ownBlock) (.slice Ao26 t263.length co26) t263 t283 t285 t286 w _ ?side1 ?side2 A56.out).mono ?_); (case side1 => repeat (first | (with_reducible first | exact HB.out | apply below_alloc | apply pw_below_drewN | apply below_drew1) | exact HB.out)); (case side2 => exact Kd.R_tight rfl HO_14.out); rintro e w59 ⟨rfl, hy0, hb, hkp⟩; refine ⟨_, rfl, ?_⟩; have n0_ := Aside0.mk (Kd.R_mono (ok' := fun k_ => some k_ ≠ (v258 : Value).ownBlock ∧ some k_ ≠ (.slice Ao25 t260.length co25 : Value).ownBlock ∧ some k_ ≠ (.slice Ao26 t263.length co26 : Value).ownBlock ∧ some k_ ≠ (v269 : Value).ownBlock ∧ some k_ ≠ (v271 : Value).ownBlock ∧ some k_ ≠ (.slice Ao47 t275.length co47 : Value).ownBlock ∧ some k_ ≠ (.slice Ao53 t279.length co53 : Value).ownBlock) (Kd.R_keptB (HO_10.out) hkp (fun k_ hk_ hs_ => (hk_.2.2.1) hs_)) (fun k_ hk_ => ⟨hk_.1.1, hk_.1.2.1, hk_.1.2.2.1, hk_.1.2.2.2.1, hk_.1.2.2.2.2.1, hk_.1.2.2.2.2.2.1, hk_.1.2.2.2.2.2.2⟩)); have n1_ := Aside0.mk (Kd.R_mono (ok' := fun k_ => some k_ ≠ (v256 : Value).ownBlock ∧ some k_ ≠ (.slice Ao25 t260.length co25 : Value).ownBlock ∧ some k_ ≠ (.slice Ao26 t263.length co26 : Value).ownBlock ∧ some k_ ≠ (v269 : Value).ownBlock ∧ some k_ ≠ (v271 : Value).ownBlock ∧ some k_ ≠ (.slice Ao47 t275.length co47 : Value).ownBlock ∧ some k_ ≠ (.slice Ao53 t279.length co53 : Value).ownBlock) (Kd.R_keptB (HO_11.out) hkp (fun k_ hk_ hs_ => (hk_.2.2.1) hs_)) (fun k_ hk_ => ⟨hk_.1.1, hk_.1.2.1, hk_.1.2.2.1, hk_.1.2.2.2.1, hk_.1.2.2.2.2.1, hk_.1.2.2.2.2.2.1, hk_.1.2.2.2.2.2.2⟩)); have n2_ := Aside0.mk (Kd.R_mono (ok' := fun k_ => some k_ ≠ (v256 : Value).ownBlock ∧ some k_ ≠ (v258 : Value).ownBlock ∧ some k_ ≠ (.slice Ao26 t263.length co26 : Value).ownBlock ∧ some k_ ≠ (v269 : Value).ownBlock ∧ some k_ ≠ (v271 : Value).ownBlock ∧ some k_ ≠ (.slice Ao47 t275.length co47 : Value).ownBlock ∧ some k_ ≠ (.slice Ao53 t279.length co53 : Value).ownBlock) (Kd.R_keptB (HO_13.out) hkp (fun k_ hk_ hs_ => (hk_.1.1.2.2.1) hs_)) (fun k_ hk_ => ⟨hk_.1.1.1.1, hk_.1.1.1.2.1, hk_.1.1.1.2.2.1, hk_.1.1.1.2.2.2.1, hk_.1.1.1.2.2.2.2, hk_.1.1.2, hk_.1.2⟩)); have n3_ := Aside0.mk (Kd.R_reok rfl hy0 (fun k_ e_ => HO_14.out.1 k_ e_)); have n4_ := Aside0.mk (Kd.R_mono (ok' := fun k_ => some k_ ≠ (v256 : Value).ownBlock ∧ some k_ ≠ (v258 : Value).ownBlock ∧ some k_ ≠ (.slice Ao25 t260.length co25 : Value).ownBlock ∧ some k_ ≠ (.slice Ao26 t263.length co26 : Value).ownBlock ∧ some k_ ≠ (v271 : Value).ownBlock ∧ some k_ ≠ (.slice Ao47 t275.length co47 : Value).ownBlock ∧ some k_ ≠ (.slice Ao53 t279.length co53 : Value).ownBlock) (Kd.R_keptB (HO_15.out) hkp (fun k_ hk_ hs_ => (hk_.2.2.2.1) hs_)) (fun k_ hk_ => ⟨hk_.1.1, hk_.1.2.1, hk_.1.2.2.1, hk_.1.2.2.2.1, hk_.1.2.2.2.2.1, hk_.1.2.2.2.2.2.1, hk_.1.2.2.2.2.2.2⟩)); have n5_ := Aside0.mk (Kd.R_mono (ok' := fun k_ => some k_ ≠ (v256 : Value).ownBlock ∧ some k_ ≠ (v258 : Value).ownBlock ∧ some k_ ≠ (.slice Ao25 t260.length co25 : Value).ownBlock ∧ some k_ ≠ (.slice Ao26 t263.length co26 : Value).ownBlock ∧ some k_ ≠ (v269 : Value).ownBlock ∧ some k_ ≠ (.slice Ao47 t275.length co47 : Value).ownBlock ∧ some k_ ≠ (.slice Ao53 t279.length co53 : Value).ownBlock) (Kd.R_keptB (HO_16.out) hkp (fun k_ hk_ hs_ => (hk_.2.2.2.1) hs_)) (fun k_ hk_ => ⟨hk_.1.1, hk_.1.2.1, hk_.1.2.2.1, hk_.1.2.2.2.1, hk_.1.2.2.2.2.1, hk_.1.2.2.2.2.2.1, hk_.1.2.2.2.2.2.2⟩)); have n6_ := Aside0.mk (Kd.R_mono (ok' := fun k_ => some k_ ≠ (v256 : Value).ownBlock ∧ some k_ ≠ (v258 : Value).ownBlock ∧ some k_ ≠ (.slice Ao25 t260.length co25 : Value).ownBlock ∧ some k_ ≠ (.slice Ao26 t263.length co26 : Value).ownBlock ∧ some k_ ≠ (v269 : Value).ownBlock ∧ some k_ ≠ (v271 : Value).ownBlock ∧ some k_ ≠ (.slice Ao53 t279.length co53 : Value).ownBlock) (Kd.R_keptB (HO277.out) hkp (fun k_ hk_ hs_ => (hk_.2.2.2.1) hs_)) (fun k_ hk_ => ⟨hk_.1.1, hk_.1.2.1, hk_.1.2.2.1, hk_.1.2.2.2.1, hk_.1.2.2.2.2.1, hk_.1.2.2.2.2.2.1, hk_.1.2.2.2.2.2.2⟩)); have n7_ := Aside0.mk (Kd.R_mono (ok' := fun k_ => some k_ ≠ (v256 : Value).ownBlock ∧ some k_ ≠ (v258 : Value).ownBlock ∧ some k_ ≠ (.slice Ao25 t260.length co25 : Value).ownBlock ∧ some k_ ≠ (.slice Ao26 t263.length co26 : Value).ownBlock ∧ some k_ ≠ (v269 : Value).ownBlock ∧ some k_ ≠ (v271 : Value).ownBlock ∧ some k_ ≠ (.slice Ao47 t275.length co47 : Value).ownBlock) (Kd.R_keptB (HO281.out) hkp (fun k_ hk_ hs_ => (hk_.2.2.2.1) hs_)) (fun k_ hk_ => ⟨hk_.1.1, hk_.1.2.1, hk_.1.2.2.1, hk_.1.2.2.2.1, hk_.1.2.2.2.2.1, hk_.1.2.2.2.2.2.1, hk_.1.2.2.2.2.2.2⟩)); have n8_ := Aside0.mk (hb); clear HO_10; clear HO_11; clear HO_13; clear HO_14; clear HO_15; clear HO_16; clear HO277; clear HO281; clear HB; have HO_10 := n0_; have HO_11 := n1_; have HO_13 := n2_; have HO_14 := n3_; have HO_15 := n4_; have HO_16 := n5_; have HO277 := n6_; have HO281 := n7_; have HB := n8_; clear n0_ n1_ n2_ n3_ n4_ n5_ n6_ n7_ n8_; (try clear hb); (try clear hkp); (try clear hy0)))
        (try simp only [Act.put, List.setIfInBounds_toArray, List.set_cons_zero, List.set_cons_succ])
        go_cut [107] (fun v107 wc => ∃ (kq : Nat) (x107_56 : Bool), v107 = .bool x107_56 ∧ Aside0 (laws_FnExactListMove.j1 kq l0 l1 a2 a3 t253 t254 t255 t266 t267 x107_56 = some r) ∧ Aside0 (kq ≤ kj16) ∧ Aside0 (Kd.R Kd.string 9 wc w.heap.size (fun k_ => some k_ ≠ (v258 : Value).ownBlock ∧ some k_ ≠ (v269 : Value).ownBlock ∧ some k_ ≠ (v271 : Value).ownBlock) v256 t253) ∧ Aside0 (Kd.R Kd.string 9 wc w.heap.size (fun k_ => some k_ ≠ (v256 : Value).ownBlock ∧ some k_ ≠ (v269 : Value).ownBlock ∧ some k_ ≠ (v271 : Value).ownBlock) v258 t254) ∧ Aside0 (Kd.R Kd.string 9 wc w.heap.size (fun k_ => some k_ ≠ (v256 : Value).ownBlock ∧ some k_ ≠ (v258 : Value).ownBlock ∧ some k_ ≠ (v271 : Value).ownBlock) v269 t266) ∧ Aside0 (Kd.R Kd.string 9 wc w.heap.size (fun k_ => some k_ ≠ (v256 : Value).ownBlock ∧ some k_ ≠ (v258 : Value).ownBlock ∧ some k_ ≠ (v269 : Value).ownBlock) v271 t267) ∧ Aside0 (Below w.heap.size w wc))
        case first =>
         have H := HC57.out
         clear HC57
         by_cases c60 : t285 < 0
         ·rw [if_pos c60] at H
          have c60b0 : decide (t285 < 0) = true := decide_eq_true c60
          clear c60
          (first | rw [c60b0] | rw [c60b1] | (simp only [i64_w, i32_w]; rw [c60b0]) | rw [c60b2] | skip)
          have H' := Aside0.mk H
          clear H
          go_wp2
          go_meet
          case rel => exact ⟨_, (true), (by first | rfl | (simp; done) | (simp [*]; done)), H', ⟨by have := HJ16.out; first | omega | exact Nat.le_refl _⟩, ⟨by (with_reducible repeat (first | apply Kd.R_alloc | apply Kd.R_drewN | apply Kd.R_drew)); exact Kd.R_mono HO_10.out (fun _ hk => ⟨hk.1, ⟨hk.2.2.2.1, hk.2.2.2.2.1⟩⟩)⟩, ⟨by (with_reducible repeat (first | apply Kd.R_alloc | apply Kd.R_drewN | apply Kd.R_drew)); exact Kd.R_mono HO_11.out (fun _ hk => ⟨hk.1, ⟨hk.2.2.2.1, hk.2.2.2.2.1⟩⟩)⟩, ⟨by (with_reducible repeat (first | apply Kd.R_alloc | apply Kd.R_drewN | apply Kd.R_drew)); exact Kd.R_mono HO_15.out (fun _ hk => ⟨hk.1, ⟨hk.2.1, hk.2.2.2.2.1⟩⟩)⟩, ⟨by (with_reducible repeat (first | apply Kd.R_alloc | apply Kd.R_drewN | apply Kd.R_drew)); exact Kd.R_mono HO_16.out (fun _ hk => ⟨hk.1, ⟨hk.2.1, hk.2.2.2.2.1⟩⟩)⟩, ⟨by repeat (first | (with_reducible first | exact HB.out | apply below_alloc | apply pw_below_drewN | apply below_drew1) | exact HB.out)⟩⟩
         ·rw [if_neg c60] at H
          have c60b0 : decide (t285 < 0) = false := decide_eq_false c60
          clear c60
          (first | rw [c60b0] | rw [c60b1] | (simp only [i64_w, i32_w]; rw [c60b0]) | rw [c60b2] | skip)
          replace H := Option.bind_eq_some_iff.mp H
          obtain ⟨t287, A610, H⟩ := H
          replace H : (if t287 = true then ((laws_eqStringS.f kj16 t267 t254).bind fun t288 => (if t288 = true then (laws_FnExactListMove.j1 kj16 l0 l1 a2 a3 t253 t254 t255 t266 t267 (t268 != t255)) else (laws_FnExactListMove.j1 kj16 l0 l1 a2 a3 t253 t254 t255 t266 t267 true))) else (laws_FnExactListMove.j1 kj16 l0 l1 a2 a3 t253 t254 t255 t266 t267 true)) = some r := H
          have A61 := Aside0.mk A610
          clear A610
          by_cases c62 : t287 = true
          ·subst c62
           have H1 : ((laws_eqStringS.f kj16 t267 t254).bind fun t288 => (if t288 = true then (laws_FnExactListMove.j1 kj16 l0 l1 a2 a3 t253 t254 t255 t266 t267 (t268 != t255)) else (laws_FnExactListMove.j1 kj16 l0 l1 a2 a3 t253 t254 t255 t266 t267 true))) = some r := by rw [if_pos rfl] at H; exact H
           clear H
           have H := H1
           clear H1
           replace H := Option.bind_eq_some_iff.mp H
           obtain ⟨t288, A630, H⟩ := H
           replace H : (if t288 = true then (laws_FnExactListMove.j1 kj16 l0 l1 a2 a3 t253 t254 t255 t266 t267 (t268 != t255)) else (laws_FnExactListMove.j1 kj16 l0 l1 a2 a3 t253 t254 t255 t266 t267 true)) = some r := H
           have A63 := Aside0.mk A630
           clear A630
           by_cases c64 : t288 = true
           ·subst c64
            have H1 : (laws_FnExactListMove.j1 kj16 l0 l1 a2 a3 t253 t254 t255 t266 t267 (t268 != t255)) = some r := by rw [if_pos rfl] at H; exact H
            clear H
            have H := H1
            clear H1
            have H' := Aside0.mk H
            clear H
            obtain ⟨Ao65, co65, eo65⟩ := Kd.R_slice HO_15.out
            subst eo65
            obtain ⟨Ao66, co66, eo66⟩ := Kd.R_slice HO_10.out
            subst eo66
            go_wp2_with (first | (go_at_call 23; (with_reducible refine (laws_eqStringS.calls kj16 _ _ t266 _ _ t253 true _ ?side1 ?side2 ?side3 ?side4 A61.out).mono ?_); (case side1 => repeat (first | exact (Kd.R_reads' HO_15.out).2.2 | (with_reducible refine Kd.C_alloc ?_ _) | (with_reducible refine Kd.C_drewN ?_ _) | (with_reducible refine Kd.C_drew ?_))); (case side2 => exact (Kd.R_reads' HO_15.out).2.1); (case side3 => repeat (first | exact (Kd.R_reads' HO_10.out).2.2 | (with_reducible refine Kd.C_alloc ?_ _) | (with_reducible refine Kd.C_drewN ?_ _) | (with_reducible refine Kd.C_drew ?_))); (case side4 => exact (Kd.R_reads' HO_10.out).2.1); rintro e w' ⟨rfl, ⟨nd, rfl⟩⟩; obtain ⟨Ao67, co67, eo67⟩ := Kd.R_slice HO_16.out; subst eo67; obtain ⟨Ao68, co68, eo68⟩ := Kd.R_slice HO_11.out; subst eo68) | (go_at_call 23; (with_reducible refine (laws_eqStringS.calls kj16 _ _ t267 _ _ t254 true _ ?side1 ?side2 ?side3 ?side4 A63.out).mono ?_); (case side1 => repeat (first | exact (Kd.R_reads' HO_16.out).2.2 | (with_reducible refine Kd.C_alloc ?_ _) | (with_reducible refine Kd.C_drewN ?_ _) | (with_reducible refine Kd.C_drew ?_))); (case side2 => exact (Kd.R_reads' HO_16.out).2.1); (case side3 => repeat (first | exact (Kd.R_reads' HO_11.out).2.2 | (with_reducible refine Kd.C_alloc ?_ _) | (with_reducible refine Kd.C_drewN ?_ _) | (with_reducible refine Kd.C_drew ?_))); (case side4 => exact (Kd.R_reads' HO_11.out).2.1); rintro e w' ⟨rfl, ⟨nd, rfl⟩⟩))
            go_meet
            case rel => exact ⟨_, ((t268 != t255)), (by first | rfl | (simp; done) | (simp [*]; done)), H', ⟨by have := HJ16.out; first | omega | exact Nat.le_refl _⟩, ⟨by (with_reducible repeat (first | apply Kd.R_alloc | apply Kd.R_drewN | apply Kd.R_drew)); exact Kd.R_mono HO_10.out (fun _ hk => ⟨hk.1, ⟨hk.2.2.2.1, hk.2.2.2.2.1⟩⟩)⟩, ⟨by (with_reducible repeat (first | apply Kd.R_alloc | apply Kd.R_drewN | apply Kd.R_drew)); exact Kd.R_mono HO_11.out (fun _ hk => ⟨hk.1, ⟨hk.2.2.2.1, hk.2.2.2.2.1⟩⟩)⟩, ⟨by (with_reducible repeat (first | apply Kd.R_alloc | apply Kd.R_drewN | apply Kd.R_drew)); exact Kd.R_mono HO_15.out (fun _ hk => ⟨hk.1, ⟨hk.2.1, hk.2.2.2.2.1⟩⟩)⟩, ⟨by (with_reducible repeat (first | apply Kd.R_alloc | apply Kd.R_drewN | apply Kd.R_drew)); exact Kd.R_mono HO_16.out (fun _ hk => ⟨hk.1, ⟨hk.2.1, hk.2.2.2.2.1⟩⟩)⟩, ⟨by repeat (first | (with_reducible first | exact HB.out | apply below_alloc | apply pw_below_drewN | apply below_drew1) | exact HB.out)⟩⟩
           ·replace c64 := Bool.eq_false_iff.mpr c64
            subst c64
            have H1 : (laws_FnExactListMove.j1 kj16 l0 l1 a2 a3 t253 t254 t255 t266 t267 true) = some r := by rw [if_neg (show ¬ (false = true) by decide)] at H; exact H
            clear H
            have H := H1
            clear H1
            have H' := Aside0.mk H
            clear H
            obtain ⟨Ao69, co69, eo69⟩ := Kd.R_slice HO_15.out
            subst eo69
            obtain ⟨Ao70, co70, eo70⟩ := Kd.R_slice HO_10.out
            subst eo70
            go_wp2_with (first | (go_at_call 23; (with_reducible refine (laws_eqStringS.calls kj16 _ _ t266 _ _ t253 true _ ?side1 ?side2 ?side3 ?side4 A61.out).mono ?_); (case side1 => repeat (first | exact (Kd.R_reads' HO_15.out).2.2 | (with_reducible refine Kd.C_alloc ?_ _) | (with_reducible refine Kd.C_drewN ?_ _) | (with_reducible refine Kd.C_drew ?_))); (case side2 => exact (Kd.R_reads' HO_15.out).2.1); (case side3 => repeat (first | exact (Kd.R_reads' HO_10.out).2.2 | (with_reducible refine Kd.C_alloc ?_ _) | (with_reducible refine Kd.C_drewN ?_ _) | (with_reducible refine Kd.C_drew ?_))); (case side4 => exact (Kd.R_reads' HO_10.out).2.1); rintro e w' ⟨rfl, ⟨nd, rfl⟩⟩; obtain ⟨Ao71, co71, eo71⟩ := Kd.R_slice HO_16.out; subst eo71; obtain ⟨Ao72, co72, eo72⟩ := Kd.R_slice HO_11.out; subst eo72) | (go_at_call 23; (with_reducible refine (laws_eqStringS.calls kj16 _ _ t267 _ _ t254 false _ ?side1 ?side2 ?side3 ?side4 A63.out).mono ?_); (case side1 => repeat (first | exact (Kd.R_reads' HO_16.out).2.2 | (with_reducible refine Kd.C_alloc ?_ _) | (with_reducible refine Kd.C_drewN ?_ _) | (with_reducible refine Kd.C_drew ?_))); (case side2 => exact (Kd.R_reads' HO_16.out).2.1); (case side3 => repeat (first | exact (Kd.R_reads' HO_11.out).2.2 | (with_reducible refine Kd.C_alloc ?_ _) | (with_reducible refine Kd.C_drewN ?_ _) | (with_reducible refine Kd.C_drew ?_))); (case side4 => exact (Kd.R_reads' HO_11.out).2.1); rintro e w' ⟨rfl, ⟨nd, rfl⟩⟩))
            go_meet
            case rel => exact ⟨_, (true), (by first | rfl | (simp; done) | (simp [*]; done)), H', ⟨by have := HJ16.out; first | omega | exact Nat.le_refl _⟩, ⟨by (with_reducible repeat (first | apply Kd.R_alloc | apply Kd.R_drewN | apply Kd.R_drew)); exact Kd.R_mono HO_10.out (fun _ hk => ⟨hk.1, ⟨hk.2.2.2.1, hk.2.2.2.2.1⟩⟩)⟩, ⟨by (with_reducible repeat (first | apply Kd.R_alloc | apply Kd.R_drewN | apply Kd.R_drew)); exact Kd.R_mono HO_11.out (fun _ hk => ⟨hk.1, ⟨hk.2.2.2.1, hk.2.2.2.2.1⟩⟩)⟩, ⟨by (with_reducible repeat (first | apply Kd.R_alloc | apply Kd.R_drewN | apply Kd.R_drew)); exact Kd.R_mono HO_15.out (fun _ hk => ⟨hk.1, ⟨hk.2.1, hk.2.2.2.2.1⟩⟩)⟩, ⟨by (with_reducible repeat (first | apply Kd.R_alloc | apply Kd.R_drewN | apply Kd.R_drew)); exact Kd.R_mono HO_16.out (fun _ hk => ⟨hk.1, ⟨hk.2.1, hk.2.2.2.2.1⟩⟩)⟩, ⟨by repeat (first | (with_reducible first | exact HB.out | apply below_alloc | apply pw_below_drewN | apply below_drew1) | exact HB.out)⟩⟩
          ·replace c62 := Bool.eq_false_iff.mpr c62
           subst c62
           have H1 : (laws_FnExactListMove.j1 kj16 l0 l1 a2 a3 t253 t254 t255 t266 t267 true) = some r := by rw [if_neg (show ¬ (false = true) by decide)] at H; exact H
           clear H
           have H := H1
           clear H1
           have H' := Aside0.mk H
           clear H
           obtain ⟨Ao73, co73, eo73⟩ := Kd.R_slice HO_15.out
           subst eo73
           obtain ⟨Ao74, co74, eo74⟩ := Kd.R_slice HO_10.out
           subst eo74
           go_wp2_with (first | (go_at_call 23; (with_reducible refine (laws_eqStringS.calls kj16 _ _ t266 _ _ t253 false _ ?side1 ?side2 ?side3 ?side4 A61.out).mono ?_); (case side1 => repeat (first | exact (Kd.R_reads' HO_15.out).2.2 | (with_reducible refine Kd.C_alloc ?_ _) | (with_reducible refine Kd.C_drewN ?_ _) | (with_reducible refine Kd.C_drew ?_))); (case side2 => exact (Kd.R_reads' HO_15.out).2.1); (case side3 => repeat (first | exact (Kd.R_reads' HO_10.out).2.2 | (with_reducible refine Kd.C_alloc ?_ _) | (with_reducible refine Kd.C_drewN ?_ _) | (with_reducible refine Kd.C_drew ?_))); (case side4 => exact (Kd.R_reads' HO_10.out).2.1); rintro e w' ⟨rfl, ⟨nd, rfl⟩⟩))
           go_meet
           case rel => exact ⟨_, (true), (by first | rfl | (simp; done) | (simp [*]; done)), H', ⟨by have := HJ16.out; first | omega | exact Nat.le_refl _⟩, ⟨by (with_reducible repeat (first | apply Kd.R_alloc | apply Kd.R_drewN | apply Kd.R_drew)); exact Kd.R_mono HO_10.out (fun _ hk => ⟨hk.1, ⟨hk.2.2.2.1, hk.2.2.2.2.1⟩⟩)⟩, ⟨by (with_reducible repeat (first | apply Kd.R_alloc | apply Kd.R_drewN | apply Kd.R_drew)); exact Kd.R_mono HO_11.out (fun _ hk => ⟨hk.1, ⟨hk.2.2.2.1, hk.2.2.2.2.1⟩⟩)⟩, ⟨by (with_reducible repeat (first | apply Kd.R_alloc | apply Kd.R_drewN | apply Kd.R_drew)); exact Kd.R_mono HO_15.out (fun _ hk => ⟨hk.1, ⟨hk.2.1, hk.2.2.2.2.1⟩⟩)⟩, ⟨by (with_reducible repeat (first | apply Kd.R_alloc | apply Kd.R_drewN | apply Kd.R_drew)); exact Kd.R_mono HO_16.out (fun _ hk => ⟨hk.1, ⟨hk.2.1, hk.2.2.2.2.1⟩⟩)⟩, ⟨by repeat (first | (with_reducible first | exact HB.out | apply below_alloc | apply pw_below_drewN | apply below_drew1) | exact HB.out)⟩⟩
        case rest =>
         clear HC57
         try clear c1
         try clear c2
         try clear p2
         try clear c3
         try clear c4
         try clear c5
         try clear c6
         try clear c7
         try clear c7b0
         try clear c7b1
         try clear c7b2
         try clear c10
         try clear c10b0
         try clear c10b1
         try clear c10b2
         try clear c19
         try clear c20
         try clear c21
         try clear c22
         try clear c23
         try clear c24
         try clear c29
         try clear c31
         try clear c42
         try clear c48
         try clear c54
         try clear c60
         try clear c60b0
         try clear c60b1
         try clear c60b2
         try clear c62
         try clear c64
         try clear p2
         obtain ⟨kq, x107_56, rfl, HA, HJ56, HO_10, HO_11, HO_15, HO_16, HB⟩ := hcut
         cases kq with
         | zero => exact absurd HA.out (by simp [laws_FnExactListMove.j1])
         | succ kj56 =>
          have H := HA.out
          clear HA
          simp only [laws_FnExactListMove.j1] at H
          by_cases c75 : x107_56 = true
          ·subst c75
           have H1 : (some false) = some r := by rw [if_pos rfl] at H; exact H
           clear H
           have H := H1
           clear H1
           obtain rfl := Option.some.inj H
           go_wp2
           go_ret
           exact ⟨by first | rfl | (simp [errW_none, errW_some] <;> rfl) | (simp [*, errW_none, errW_some] <;> rfl), by repeat (first | (with_reducible first | exact HB.out | apply below_alloc | apply pw_below_drewN | apply below_drew1) | exact HB.out)⟩
          ·replace c75 := Bool.eq_false_iff.mpr c75
           subst c75
           have H1 : ((laws_markStringS.f kj56 t266 1).bind fun bt289 => ((laws_markStringS.f kj56 t267 bt289.1).bind fun bt291 => ((laws_heldStringS.f kj56 bt289.2 1).bind fun t293 => (if t293 < 0 then (some false) else ((laws_heldStringS.f kj56 bt291.2 t293).bind fun t294 => (if t294 < 0 then (some false) else (if t294 = bt291.1 then ((laws_toStringS.f kj56 l0).bind fun t295 => ((laws_toStringS.f kj56 l1).bind fun t298 => ((impl_ListMove.f kj56 t295 t298 a2 a3).bind fun bt301 => ((laws_eqStringS.f kj56 bt301.1 t253).bind fun t308 => (if t308 = true then ((laws_eqStringS.f kj56 bt301.2.1 t254).bind fun t309 => (if t309 = true then (laws_FnExactListMove.j2 kj56 bt289.2 bt291.2 bt291.1 (bt301.2.2 != t255)) else (laws_FnExactListMove.j2 kj56 bt289.2 bt291.2 bt291.1 true))) else (laws_FnExactListMove.j2 kj56 bt289.2 bt291.2 bt291.1 true)))))) else (some false)))))))) = some r := by rw [if_neg (show ¬ (false = true) by decide)] at H; exact H
           clear H
           have H := H1
           clear H1
           replace H := Option.bind_eq_some_iff.mp H
           obtain ⟨⟨t289, t290⟩, A760, H⟩ := H
           replace H : ((laws_markStringS.f kj56 t267 t289).bind fun bt291 => ((laws_heldStringS.f kj56 t290 1).bind fun t293 => (if t293 < 0 then (some false) else ((laws_heldStringS.f kj56 bt291.2 t293).bind fun t294 => (if t294 < 0 then (some false) else (if t294 = bt291.1 then ((laws_toStringS.f kj56 l0).bind fun t295 => ((laws_toStringS.f kj56 l1).bind fun t298 => ((impl_ListMove.f kj56 t295 t298 a2 a3).bind fun bt301 => ((laws_eqStringS.f kj56 bt301.1 t253).bind fun t308 => (if t308 = true then ((laws_eqStringS.f kj56 bt301.2.1 t254).bind fun t309 => (if t309 = true then (laws_FnExactListMove.j2 kj56 t290 bt291.2 bt291.1 (bt301.2.2 != t255)) else (laws_FnExactListMove.j2 kj56 t290 bt291.2 bt291.1 true))) else (laws_FnExactListMove.j2 kj56 t290 bt291.2 bt291.1 true)))))) else (some false))))))) = some r := H
           have A76 := Aside0.mk A760
           clear A760
           replace H := Option.bind_eq_some_iff.mp H
           obtain ⟨⟨t291, t292⟩, A770, H⟩ := H
           replace H : ((laws_heldStringS.f kj56 t290 1).bind fun t293 => (if t293 < 0 then (some false) else ((laws_heldStringS.f kj56 t292 t293).bind fun t294 => (if t294 < 0 then (some false) else (if t294 = t291 then ((laws_toStringS.f kj56 l0).bind fun t295 => ((laws_toStringS.f kj56 l1).bind fun t298 => ((impl_ListMove.f kj56 t295 t298 a2 a3).bind fun bt301 => ((laws_eqStringS.f kj56 bt301.1 t253).bind fun t308 => (if t308 = true then ((laws_eqStringS.f kj56 bt301.2.1 t254).bind fun t309 => (if t309 = true then (laws_FnExactListMove.j2 kj56 t290 t292 t291 (bt301.2.2 != t255)) else (laws_FnExactListMove.j2 kj56 t290 t292 t291 true))) else (laws_FnExactListMove.j2 kj56 t290 t292 t291 true)))))) else (some false)))))) = some r := H
           have A77 := Aside0.mk A770
           clear A770
           replace H := Option.bind_eq_some_iff.mp H
           obtain ⟨t293, A780, H⟩ := H
           replace H : (if t293 < 0 then (some false) else ((laws_heldStringS.f kj56 t292 t293).bind fun t294 => (if t294 < 0 then (some false) else (if t294 = t291 then ((laws_toStringS.f kj56 l0).bind fun t295 => ((laws_toStringS.f kj56 l1).bind fun t298 => ((impl_ListMove.f kj56 t295 t298 a2 a3).bind fun bt301 => ((laws_eqStringS.f kj56 bt301.1 t253).bind fun t308 => (if t308 = true then ((laws_eqStringS.f kj56 bt301.2.1 t254).bind fun t309 => (if t309 = true then (laws_FnExactListMove.j2 kj56 t290 t292 t291 (bt301.2.2 != t255)) else (laws_FnExactListMove.j2 kj56 t290 t292 t291 true))) else (laws_FnExactListMove.j2 kj56 t290 t292 t291 true)))))) else (some false))))) = some r := H
           have A78 := Aside0.mk A780
           clear A780
           have HC79 := Aside0.mk H
           clear H
           obtain ⟨Ao80, co80, eo80⟩ := Kd.R_slice HO_15.out
           subst eo80
           go_upto_if 118 with (first | ((with_reducible refine gate_callee (f := 24) rfl ?_); refine goesL_ (some 110) rfl rfl Try.func24 (by kernel_rfl) rfl #[.slice Ao80 t266.length co80, .int .i64 1] rfl (by (try simp only [List.map_toArray, List.map_cons, List.map_nil]); first | done | rfl | (simp only [List.length_drop, List.length_take]; rfl)) ?_; (with_reducible refine (laws_markStringS.calls kj56 (fun k_ => some k_ = (.slice Ao80 t266.length co80 : Value).ownBlock) (.slice Ao80 t266.length co80) t266 1 t289 t290 w _ ?side1 ?side2 A76.out).mono ?_); (case side1 => repeat (first | (with_reducible first | exact HB.out | apply below_alloc | apply pw_below_drewN | apply below_drew1) | exact HB.out)); (case side2 => exact Kd.R_tight rfl HO_15.out); rintro e w81 ⟨rfl, hy0, hb, hkp⟩; refine ⟨_, rfl, ?_⟩; have n0_ := Aside0.mk (Kd.R_mono (ok' := fun k_ => some k_ ≠ (v258 : Value).ownBlock ∧ some k_ ≠ (.slice Ao80 t266.length co80 : Value).ownBlock ∧ some k_ ≠ (v271 : Value).ownBlock) (Kd.R_keptB (HO_10.out) hkp (fun k_ hk_ hs_ => (hk_.2.1) hs_)) (fun k_ hk_ => ⟨hk_.1.1, hk_.1.2.1, hk_.1.2.2⟩)); have n1_ := Aside0.mk (Kd.R_mono (ok' := fun k_ => some k_ ≠ (v256 : Value).ownBlock ∧ some k_ ≠ (.slice Ao80 t266.length co80 : Value).ownBlock ∧ some k_ ≠ (v271 : Value).ownBlock) (Kd.R_keptB (HO_11.out) hkp (fun k_ hk_ hs_ => (hk_.2.1) hs_)) (fun k_ hk_ => ⟨hk_.1.1, hk_.1.2.1, hk_.1.2.2⟩)); have n2_ := Aside0.mk (Kd.R_reok rfl hy0 (fun k_ e_ => HO_15.out.1 k_ e_)); have n3_ := Aside0.mk (Kd.R_mono (ok' := fun k_ => some k_ ≠ (v256 : Value).ownBlock ∧ some k_ ≠ (v258 : Value).ownBlock ∧ some k_ ≠ (.slice Ao80 t266.length co80 : Value).ownBlock) (Kd.R_keptB (HO_16.out) hkp (fun k_ hk_ hs_ => (hk_.2.2) hs_)) (fun k_ hk_ => ⟨hk_.1.1, hk_.1.2.1, hk_.1.2.2⟩)); have n4_ := Aside0.mk (hb); clear HO_10; clear HO_11; clear HO_15; clear HO_16; clear HB; have HO_10 := n0_; have HO_11 := n1_; have HO_15 := n2_; have HO_16 := n3_; have HB := n4_; clear n0_ n1_ n2_ n3_ n4_; (try clear hb); (try clear hkp); (try clear hy0); obtain ⟨Ao82, co82, eo82⟩ := Kd.R_slice HO_16.out; subst eo82) | ((with_reducible refine gate_callee (f := 24) rfl ?_); refine goesL_ (some 113) rfl rfl Try.func24 (by kernel_rfl) rfl #[.slice Ao82 t267.length co82, .int .i64 t289] rfl (by (try simp only [List.map_toArray, List.map_cons, List.map_nil]); first | done | rfl | (simp only [List.length_drop, List.length_take]; rfl)) ?_; (with_reducible refine (laws_markStringS.calls kj56 (fun k_ => some k_ = (.slice Ao82 t267.length co82 : Value).ownBlock) (.slice Ao82 t267.length co82) t267 t289 t291 t292 w _ ?side1 ?side2 A77.out).mono ?_); (case side1 => repeat (first | (with_reducible first | exact HB.out | apply below_alloc | apply pw_below_drewN | apply below_drew1) | exact HB.out)); (case side2 => exact Kd.R_tight rfl HO_16.out); rintro e w83 ⟨rfl, hy0, hb, hkp⟩; refine ⟨_, rfl, ?_⟩; have n0_ := Aside0.mk (Kd.R_mono (ok' := fun k_ => some k_ ≠ (v258 : Value).ownBlock ∧ some k_ ≠ (.slice Ao80 t266.length co80 : Value).ownBlock ∧ some k_ ≠ (.slice Ao82 t267.length co82 : Value).ownBlock) (Kd.R_keptB (HO_10.out) hkp (fun k_ hk_ hs_ => (hk_.2.2) hs_)) (fun k_ hk_ => ⟨hk_.1.1, hk_.1.2.1, hk_.1.2.2⟩)); have n1_ := Aside0.mk (Kd.R_mono (ok' := fun k_ => some k_ ≠ (v256 : Value).ownBlock ∧ some k_ ≠ (.slice Ao80 t266.length co80 : Value).ownBlock ∧ some k_ ≠ (.slice Ao82 t267.length co82 : Value).ownBlock) (Kd.R_keptB (HO_11.out) hkp (fun k_ hk_ hs_ => (hk_.2.2) hs_)) (fun k_ hk_ => ⟨hk_.1.1, hk_.1.2.1, hk_.1.2.2⟩)); have n2_ := Aside0.mk (Kd.R_mono (ok' := fun k_ => some k_ ≠ (v256 : Value).ownBlock ∧ some k_ ≠ (v258 : Value).ownBlock ∧ some k_ ≠ (.slice Ao82 t267.length co82 : Value).ownBlock) (Kd.R_keptB (HO_15.out) hkp (fun k_ hk_ hs_ => (hk_.2.2) hs_)) (fun k_ hk_ => ⟨hk_.1.1, hk_.1.2.1, hk_.1.2.2⟩)); have n3_ := Aside0.mk (Kd.R_reok rfl hy0 (fun k_ e_ => HO_16.out.1 k_ e_)); have n4_ := Aside0.mk (hb); clear HO_10; clear HO_11; clear HO_15; clear HO_16; clear HB; have HO_10 := n0_; have HO_11 := n1_; have HO_15 := n2_; have HO_16 := n3_; have HB := n4_; clear n0_ n1_ n2_ n3_ n4_; (try clear hb); (try clear hkp); (try clear hy0)) | ((with_reducible refine gate_callee (f := 25) rfl ?_); refine goesL_ (some 116) rfl rfl Try.func25 (by kernel_rfl) rfl #[.slice Ao80 t290.length co80, .int .i64 1] rfl (by (try simp only [List.map_toArray, List.map_cons, List.map_nil]); first | done | (rw [show t290.length = t266.length from (Kd.R_reads' HO_15.out).1.symm] <;> rfl) | rfl | (simp only [List.length_drop, List.length_take]; rfl)) ?_; (with_reducible refine (laws_heldStringS.calls kj56 _ _ t290 1 t293 _ ?side1 ?side2 A78.out).mono ?_); (case side1 => repeat (first | exact (Kd.R_reads' HO_15.out).2.2 | (with_reducible refine Kd.C_alloc ?_ _) | (with_reducible refine Kd.C_drewN ?_ _) | (with_reducible refine Kd.C_drew ?_))); (case side2 => rw [show t290.length = t266.length from (Kd.R_reads' HO_15.out).1.symm]; exact (Kd.R_reads' HO_15.out).2.1); rintro e w84 ⟨rfl, hb⟩; refine ⟨_, rfl, ?_⟩; have n0_ := Aside0.mk (Kd.R_below (by (with_reducible repeat (first | apply Kd.R_alloc | apply Kd.R_drewN | apply Kd.R_drew)); exact HO_10.out) hb); have n1_ := Aside0.mk (Kd.R_below (by (with_reducible repeat (first | apply Kd.R_alloc | apply Kd.R_drewN | apply Kd.R_drew)); exact HO_11.out) hb); have n2_ := Aside0.mk (Kd.R_below (by (with_reducible repeat (first | apply Kd.R_alloc | apply Kd.R_drewN | apply Kd.R_drew)); exact HO_15.out) hb); have n3_ := Aside0.mk (Kd.R_below (by (with_reducible repeat (first | apply Kd.R_alloc | apply Kd.R_drewN | apply Kd.R_drew)); exact HO_16.out) hb); have n4_ := Aside0.mk (below_step (by repeat (first | (with_reducible first | exact HB.out | apply below_alloc | apply pw_below_drewN | apply below_drew1) | exact HB.out)) hb); clear HO_10; clear HO_11; clear HO_15; clear HO_16; clear HB; have HO_10 := n0_; have HO_11 := n1_; have HO_15 := n2_; have HO_16 := n3_; have HB := n4_; clear n0_ n1_ n2_ n3_ n4_; (try clear hb); (try clear hb2); (try clear hk); (try clear hi)))
           have H := HC79.out
           clear HC79
           by_cases c85 : t293 < 0
           ·rw [if_pos c85] at H
            have c85b0 : decide (t293 < 0) = true := decide_eq_true c85
            clear c85
            (first | rw [c85b0] | rw [c85b1] | (simp only [i64_w, i32_w]; rw [c85b0]) | rw [c85b2] | skip)
            obtain rfl := Option.some.inj H
            go_wp2
            go_ret
            exact ⟨by first | rfl | (simp [errW_none, errW_some] <;> rfl) | (simp [*, errW_none, errW_some] <;> rfl), by repeat (first | (with_reducible first | exact HB.out | apply below_alloc | apply pw_below_drewN | apply below_drew1) | exact HB.out)⟩
           ·rw [if_neg c85] at H
            have c85b0 : decide (t293 < 0) = false := decide_eq_false c85
            clear c85
            (first | rw [c85b0] | rw [c85b1] | (simp only [i64_w, i32_w]; rw [c85b0]) | rw [c85b2] | skip)
            replace H := Option.bind_eq_some_iff.mp H
            obtain ⟨t294, A860, H⟩ := H
            replace H : (if t294 < 0 then (some false) else (if t294 = t291 then ((laws_toStringS.f kj56 l0).bind fun t295 => ((laws_toStringS.f kj56 l1).bind fun t298 => ((impl_ListMove.f kj56 t295 t298 a2 a3).bind fun bt301 => ((laws_eqStringS.f kj56 bt301.1 t253).bind fun t308 => (if t308 = true then ((laws_eqStringS.f kj56 bt301.2.1 t254).bind fun t309 => (if t309 = true then (laws_FnExactListMove.j2 kj56 t290 t292 t291 (bt301.2.2 != t255)) else (laws_FnExactListMove.j2 kj56 t290 t292 t291 true))) else (laws_FnExactListMove.j2 kj56 t290 t292 t291 true)))))) else (some false))) = some r := H
            have A86 := Aside0.mk A860
            clear A860
            have HC87 := Aside0.mk H
            clear H
            go_upto_if 123 with (first | ((with_reducible refine gate_callee (f := 25) rfl ?_); refine goesL_ (some 121) rfl rfl Try.func25 (by kernel_rfl) rfl #[.slice Ao82 t292.length co82, .int .i64 t293] rfl (by (try simp only [List.map_toArray, List.map_cons, List.map_nil]); first | done | (rw [show t292.length = t267.length from (Kd.R_reads' HO_16.out).1.symm] <;> rfl) | rfl | (simp only [List.length_drop, List.length_take]; rfl)) ?_; (with_reducible refine (laws_heldStringS.calls kj56 _ _ t292 t293 t294 _ ?side1 ?side2 A86.out).mono ?_); (case side1 => repeat (first | exact (Kd.R_reads' HO_16.out).2.2 | (with_reducible refine Kd.C_alloc ?_ _) | (with_reducible refine Kd.C_drewN ?_ _) | (with_reducible refine Kd.C_drew ?_))); (case side2 => rw [show t292.length = t267.length from (Kd.R_reads' HO_16.out).1.symm]; exact (Kd.R_reads' HO_16.out).2.1); rintro e w88 ⟨rfl, hb⟩; refine ⟨_, rfl, ?_⟩; have n0_ := Aside0.mk (Kd.R_below (by (with_reducible repeat (first | apply Kd.R_alloc | apply Kd.R_drewN | apply Kd.R_drew)); exact HO_10.out) hb); have n1_ := Aside0.mk (Kd.R_below (by (with_reducible repeat (first | apply Kd.R_alloc | apply Kd.R_drewN | apply Kd.R_drew)); exact HO_11.out) hb); have n2_ := Aside0.mk (Kd.R_below (by (with_reducible repeat (first | apply Kd.R_alloc | apply Kd.R_drewN | apply Kd.R_drew)); exact HO_15.out) hb); have n3_ := Aside0.mk (Kd.R_below (by (with_reducible repeat (first | apply Kd.R_alloc | apply Kd.R_drewN | apply Kd.R_drew)); exact HO_16.out) hb); have n4_ := Aside0.mk (below_step (by repeat (first | (with_reducible first | exact HB.out | apply below_alloc | apply pw_below_drewN | apply below_drew1) | exact HB.out)) hb); clear HO_10; clear HO_11; clear HO_15; clear HO_16; clear HB; have HO_10 := n0_; have HO_11 := n1_; have HO_15 := n2_; have HO_16 := n3_; have HB := n4_; clear n0_ n1_ n2_ n3_ n4_; (try clear hb); (try clear hb2); (try clear hk); (try clear hi)))
            have H := HC87.out
            clear HC87
            by_cases c89 : t294 < 0
            ·rw [if_pos c89] at H
             have c89b0 : decide (t294 < 0) = true := decide_eq_true c89
             clear c89
             (first | rw [c89b0] | rw [c89b1] | (simp only [i64_w, i32_w]; rw [c89b0]) | rw [c89b2] | skip)
             obtain rfl := Option.some.inj H
             go_wp2
             go_ret
             exact ⟨by first | rfl | (simp [errW_none, errW_some] <;> rfl) | (simp [*, errW_none, errW_some] <;> rfl), by repeat (first | (with_reducible first | exact HB.out | apply below_alloc | apply pw_below_drewN | apply below_drew1) | exact HB.out)⟩
            ·rw [if_neg c89] at H
             have c89b0 : decide (t294 < 0) = false := decide_eq_false c89
             clear c89
             (first | rw [c89b0] | rw [c89b1] | (simp only [i64_w, i32_w]; rw [c89b0]) | rw [c89b2] | skip)
             by_cases c90 : t294 = t291
             ·rw [if_pos c90] at H
              have c90b0 : (t294 == t291) = true := beq_iff_eq.mpr c90
              have c90b1 : (t294 != t291) = false := bne_eq_false_iff_eq.mpr c90
              clear c90
              replace H := Option.bind_eq_some_iff.mp H
              obtain ⟨t295, A910, H⟩ := H
              replace H : ((laws_toStringS.f kj56 l1).bind fun t298 => ((impl_ListMove.f kj56 t295 t298 a2 a3).bind fun bt301 => ((laws_eqStringS.f kj56 bt301.1 t253).bind fun t308 => (if t308 = true then ((laws_eqStringS.f kj56 bt301.2.1 t254).bind fun t309 => (if t309 = true then (laws_FnExactListMove.j2 kj56 t290 t292 t291 (bt301.2.2 != t255)) else (laws_FnExactListMove.j2 kj56 t290 t292 t291 true))) else (laws_FnExactListMove.j2 kj56 t290 t292 t291 true))))) = some r := H
              have A91 := Aside0.mk A910
              clear A910
              replace H := Option.bind_eq_some_iff.mp H
              obtain ⟨t298, A920, H⟩ := H
              replace H : ((impl_ListMove.f kj56 t295 t298 a2 a3).bind fun bt301 => ((laws_eqStringS.f kj56 bt301.1 t253).bind fun t308 => (if t308 = true then ((laws_eqStringS.f kj56 bt301.2.1 t254).bind fun t309 => (if t309 = true then (laws_FnExactListMove.j2 kj56 t290 t292 t291 (bt301.2.2 != t255)) else (laws_FnExactListMove.j2 kj56 t290 t292 t291 true))) else (laws_FnExactListMove.j2 kj56 t290 t292 t291 true)))) = some r := H
              have A92 := Aside0.mk A920
              clear A920
              replace H := Option.bind_eq_some_iff.mp H
              obtain ⟨⟨t301, t302, t303⟩, A930, H⟩ := H
              replace H : ((laws_eqStringS.f kj56 t301 t253).bind fun t308 => (if t308 = true then ((laws_eqStringS.f kj56 t302 t254).bind fun t309 => (if t309 = true then (laws_FnExactListMove.j2 kj56 t290 t292 t291 (t303 != t255)) else (laws_FnExactListMove.j2 kj56 t290 t292 t291 true))) else (laws_FnExactListMove.j2 kj56 t290 t292 t291 true))) = some r := H
              have A93 := Aside0.mk A930
              clear A930
              have HC94 := Aside0.mk H
              clear H
              go_upto_region 36 with (first | ((with_reducible refine gate_callee (f := 21) rfl ?_); refine goesL_ (some 129) rfl rfl Try.func21 (by kernel_rfl) rfl #[.slice A0 l0.length c0] rfl (by (try simp only [List.map_toArray, List.map_cons, List.map_nil]); first | done | rfl | (simp only [List.length_drop, List.length_take]; rfl)) ?_; (with_reducible refine (laws_toStringS.calls kj56 _ _ l0 t295 _ ?side1 ?side2 A91.out).mono ?_); (case side1 => repeat (first | exact (Kd.C_below HR0.out HB.out) | (with_reducible refine Kd.C_alloc ?_ _) | (with_reducible refine Kd.C_drewN ?_ _) | (with_reducible refine Kd.C_drew ?_))); (case side2 => exact HC0.out); rintro e w95 ⟨v296, rfl, ho0, hb⟩; refine ⟨_, rfl, ?_⟩; (try have hone_ := (Kd.R_val ho0).2); have n0_ := Aside0.mk (Kd.R_elder' (by (with_reducible repeat (first | apply Kd.R_alloc | apply Kd.R_drewN | apply Kd.R_drew)); exact HO_10.out) (Kd.R_base ho0) hb); have n1_ := Aside0.mk (Kd.R_elder' (by (with_reducible repeat (first | apply Kd.R_alloc | apply Kd.R_drewN | apply Kd.R_drew)); exact HO_11.out) (Kd.R_base ho0) hb); have n2_ := Aside0.mk (Kd.R_elder' (by (with_reducible repeat (first | apply Kd.R_alloc | apply Kd.R_drewN | apply Kd.R_drew)); exact HO_15.out) (Kd.R_base ho0) hb); have n3_ := Aside0.mk (Kd.R_elder' (by (with_reducible repeat (first | apply Kd.R_alloc | apply Kd.R_drewN | apply Kd.R_drew)); exact HO_16.out) (Kd.R_base ho0) hb); have n4_ := Aside0.mk (Kd.R_lower (Kd.R_new' (Kd.R_new' (Kd.R_new' (Kd.R_new' ho0 (Kd.R_lt (by (with_reducible repeat (first | apply Kd.R_alloc | apply Kd.R_drewN | apply Kd.R_drew)); exact HO_10.out))) (Kd.R_lt (by (with_reducible repeat (first | apply Kd.R_alloc | apply Kd.R_drewN | apply Kd.R_drew)); exact HO_11.out))) (Kd.R_lt (by (with_reducible repeat (first | apply Kd.R_alloc | apply Kd.R_drewN | apply Kd.R_drew)); exact HO_15.out))) (Kd.R_lt (by (with_reducible repeat (first | apply Kd.R_alloc | apply Kd.R_drewN | apply Kd.R_drew)); exact HO_16.out))) (below_size (by repeat (first | (with_reducible first | exact HB.out | apply below_alloc | apply pw_below_drewN | apply below_drew1) | exact HB.out)))); have n5_ := Aside0.mk (below_step (by repeat (first | (with_reducible first | exact HB.out | apply below_alloc | apply pw_below_drewN | apply below_drew1) | exact HB.out)) hb); clear HO_10; clear HO_11; clear HO_15; clear HO_16; clear HB; have HO_10 := n0_; have HO_11 := n1_; have HO_15 := n2_; have HO_16 := n3_; have HO297 := n4_; have HB := n5_; clear n0_ n1_ n2_ n3_ n4_ n5_; (try clear hb); (try clear hb2); (try clear hk); (try clear hi); (try clear ho0)) | ((with_reducible refine gate_callee (f := 21) rfl ?_); refine goesL_ (some 131) rfl rfl Try.func21 (by kernel_rfl) rfl #[.slice A1 l1.length c1] rfl (by (try simp only [List.map_toArray, List.map_cons, List.map_nil]); first | done | rfl | (simp only [List.length_drop, List.length_take]; rfl)) ?_; (with_reducible refine (laws_toStringS.calls kj56 _ _ l1 t298 _ ?side1 ?side2 A92.out).mono ?_); (case side1 => repeat (first | exact (Kd.C_below HR1.out HB.out) | (with_reducible refine Kd.C_alloc ?_ _) | (with_reducible refine Kd.C_drewN ?_ _) | (with_reducible refine Kd.C_drew ?_))); (case side2 => exact HC1.out); rintro e w96 ⟨v299, rfl, ho0, hb⟩; refine ⟨_, rfl, ?_⟩; (try have hone_ := (Kd.R_val ho0).2); have n0_ := Aside0.mk (Kd.R_elder' (by (with_reducible repeat (first | apply Kd.R_alloc | apply Kd.R_drewN | apply Kd.R_drew)); exact HO_10.out) (Kd.R_base ho0) hb); have n1_ := Aside0.mk (Kd.R_elder' (by (with_reducible repeat (first | apply Kd.R_alloc | apply Kd.R_drewN | apply Kd.R_drew)); exact HO_11.out) (Kd.R_base ho0) hb); have n2_ := Aside0.mk (Kd.R_elder' (by (with_reducible repeat (first | apply Kd.R_alloc | apply Kd.R_drewN | apply Kd.R_drew)); exact HO_15.out) (Kd.R_base ho0) hb); have n3_ := Aside0.mk (Kd.R_elder' (by (with_reducible repeat (first | apply Kd.R_alloc | apply Kd.R_drewN | apply Kd.R_drew)); exact HO_16.out) (Kd.R_base ho0) hb); have n4_ := Aside0.mk (Kd.R_elder' (by (with_reducible repeat (first | apply Kd.R_alloc | apply Kd.R_drewN | apply Kd.R_drew)); exact HO297.out) (Kd.R_base ho0) hb); have n5_ := Aside0.mk (Kd.R_lower (Kd.R_new' (Kd.R_new' (Kd.R_new' (Kd.R_new' (Kd.R_new' ho0 (Kd.R_lt (by (with_reducible repeat (first | apply Kd.R_alloc | apply Kd.R_drewN | apply Kd.R_drew)); exact HO_10.out))) (Kd.R_lt (by (with_reducible repeat (first | apply Kd.R_alloc | apply Kd.R_drewN | apply Kd.R_drew)); exact HO_11.out))) (Kd.R_lt (by (with_reducible repeat (first | apply Kd.R_alloc | apply Kd.R_drewN | apply Kd.R_drew)); exact HO_15.out))) (Kd.R_lt (by (with_reducible repeat (first | apply Kd.R_alloc | apply Kd.R_drewN | apply Kd.R_drew)); exact HO_16.out))) (Kd.R_lt (by (with_reducible repeat (first | apply Kd.R_alloc | apply Kd.R_drewN | apply Kd.R_drew)); exact HO297.out))) (below_size (by repeat (first | (with_reducible first | exact HB.out | apply below_alloc | apply pw_below_drewN | apply below_drew1) | exact HB.out)))); have n6_ := Aside0.mk (below_step (by repeat (first | (with_reducible first | exact HB.out | apply below_alloc | apply pw_below_drewN | apply below_drew1) | exact HB.out)) hb); clear HO_10; clear HO_11; clear HO_15; clear HO_16; clear HO297; clear HB; have HO_10 := n0_; have HO_11 := n1_; have HO_15 := n2_; have HO_16 := n3_; have HO297 := n4_; have HO300 := n5_; have HB := n6_; clear n0_ n1_ n2_ n3_ n4_ n5_ n6_; (try clear hb); (try clear hb2); (try clear hk); (try clear hi); (try clear ho0); obtain ⟨Ao97, co97, eo97⟩ := Kd.R_slice HO297.out; subst eo97; obtain ⟨Ao98, co98, eo98⟩ := Kd.R_slice HO300.out; subst eo98) | ((with_reducible refine gate_callee (f := 22) rfl ?_); refine goesL_ (some 134) rfl rfl Try.func22 (by kernel_rfl) rfl #[.slice Ao97 t295.length co97, .slice Ao98 t298.length co98, .bool a2, .bool a3] rfl (by (try simp only [List.map_toArray, List.map_cons, List.map_nil]); first | done | rfl | (simp only [List.length_drop, List.length_take]; rfl)) ?_; (with_reducible refine (impl_ListMove.calls kj56 _ _ t295 _ _ t298 a2 a3 t301 t302 t303 _ ?side1 ?side2 ?side3 ?side4 A93.out).mono ?_); (case side1 => repeat (first | exact (Kd.R_reads' HO297.out).2.2 | (with_reducible refine Kd.C_alloc ?_ _) | (with_reducible refine Kd.C_drewN ?_ _) | (with_reducible refine Kd.C_drew ?_))); (case side2 => exact (Kd.R_reads' HO297.out).2.1); (case side3 => repeat (first | exact (Kd.R_reads' HO300.out).2.2 | (with_reducible refine Kd.C_alloc ?_ _) | (with_reducible refine Kd.C_drewN ?_ _) | (with_reducible refine Kd.C_drew ?_))); (case side4 => exact (Kd.R_reads' HO300.out).2.1); rintro e w99 ⟨v304, v306, rfl, ho0, ho1, hb⟩; refine ⟨_, rfl, ?_⟩; (try have hone_ := (Kd.R_val ho0).2); have n0_ := Aside0.mk (Kd.R_mono (Kd.R_told (Kd.R_told (Kd.R_old (by (with_reducible repeat (first | apply Kd.R_alloc | apply Kd.R_drewN | apply Kd.R_drew)); exact HO_10.out) hb) (Kd.R_base ho0)) (Kd.R_base ho1)) (fun _ h_ => h_.1)); have n1_ := Aside0.mk (Kd.R_mono (Kd.R_told (Kd.R_told (Kd.R_old (by (with_reducible repeat (first | apply Kd.R_alloc | apply Kd.R_drewN | apply Kd.R_drew)); exact HO_11.out) hb) (Kd.R_base ho0)) (Kd.R_base ho1)) (fun _ h_ => h_.1)); have n2_ := Aside0.mk (Kd.R_mono (Kd.R_told (Kd.R_told (Kd.R_old (by (with_reducible repeat (first | apply Kd.R_alloc | apply Kd.R_drewN | apply Kd.R_drew)); exact HO_15.out) hb) (Kd.R_base ho0)) (Kd.R_base ho1)) (fun _ h_ => h_.1)); have n3_ := Aside0.mk (Kd.R_mono (Kd.R_told (Kd.R_told (Kd.R_old (by (with_reducible repeat (first | apply Kd.R_alloc | apply Kd.R_drewN | apply Kd.R_drew)); exact HO_16.out) hb) (Kd.R_base ho0)) (Kd.R_base ho1)) (fun _ h_ => h_.1)); have n4_ := Aside0.mk (Kd.R_mono (Kd.R_told (Kd.R_told (Kd.R_old (by (with_reducible repeat (first | apply Kd.R_alloc | apply Kd.R_drewN | apply Kd.R_drew)); exact HO297.out) hb) (Kd.R_base ho0)) (Kd.R_base ho1)) (fun _ h_ => h_.1)); have n5_ := Aside0.mk (Kd.R_mono (Kd.R_told (Kd.R_told (Kd.R_old (by (with_reducible repeat (first | apply Kd.R_alloc | apply Kd.R_drewN | apply Kd.R_drew)); exact HO300.out) hb) (Kd.R_base ho0)) (Kd.R_base ho1)) (fun _ h_ => h_.1)); have n6_ := Aside0.mk (Kd.R_lower (Kd.R_new' (Kd.R_new' (Kd.R_new' (Kd.R_new' (Kd.R_new' (Kd.R_new' ho0 (Kd.R_lt (by (with_reducible repeat (first | apply Kd.R_alloc | apply Kd.R_drewN | apply Kd.R_drew)); exact HO_10.out))) (Kd.R_lt (by (with_reducible repeat (first | apply Kd.R_alloc | apply Kd.R_drewN | apply Kd.R_drew)); exact HO_11.out))) (Kd.R_lt (by (with_reducible repeat (first | apply Kd.R_alloc | apply Kd.R_drewN | apply Kd.R_drew)); exact HO_15.out))) (Kd.R_lt (by (with_reducible repeat (first | apply Kd.R_alloc | apply Kd.R_drewN | apply Kd.R_drew)); exact HO_16.out))) (Kd.R_lt (by (with_reducible repeat (first | apply Kd.R_alloc | apply Kd.R_drewN | apply Kd.R_drew)); exact HO297.out))) (Kd.R_lt (by (with_reducible repeat (first | apply Kd.R_alloc | apply Kd.R_drewN | apply Kd.R_drew)); exact HO300.out))) (below_size (by repeat (first | (with_reducible first | exact HB.out | apply below_alloc | apply pw_below_drewN | apply below_drew1) | exact HB.out)))); have n7_ := Aside0.mk (Kd.R_lower (Kd.R_new' (Kd.R_new' (Kd.R_new' (Kd.R_new' (Kd.R_new' (Kd.R_new' ho1 (Kd.R_lt (by (with_reducible repeat (first | apply Kd.R_alloc | apply Kd.R_drewN | apply Kd.R_drew)); exact HO_10.out))) (Kd.R_lt (by (with_reducible repeat (first | apply Kd.R_alloc | apply Kd.R_drewN | apply Kd.R_drew)); exact HO_11.out))) (Kd.R_lt (by (with_reducible repeat (first | apply Kd.R_alloc | apply Kd.R_drewN | apply Kd.R_drew)); exact HO_15.out))) (Kd.R_lt (by (with_reducible repeat (first | apply Kd.R_alloc | apply Kd.R_drewN | apply Kd.R_drew)); exact HO_16.out))) (Kd.R_lt (by (with_reducible repeat (first | apply Kd.R_alloc | apply Kd.R_drewN | apply Kd.R_drew)); exact HO297.out))) (Kd.R_lt (by (with_reducible repeat (first | apply Kd.R_alloc | apply Kd.R_drewN | apply Kd.R_drew)); exact HO300.out))) (below_size (by repeat (first | (with_reducible first | exact HB.out | apply below_alloc | apply pw_below_drewN | apply below_drew1) | exact HB.out)))); have n8_ := Aside0.mk (below_step (by repeat (first | (with_reducible first | exact HB.out | apply below_alloc | apply pw_below_drewN | apply below_drew1) | exact HB.out)) hb); clear HO_10; clear HO_11; clear HO_15; clear HO_16; clear HO297; clear HO300; clear HB; have HO_10 := n0_; have HO_11 := n1_; have HO_15 := n2_; have HO_16 := n3_; have HO297 := n4_; have HO300 := n5_; have HO305 := n6_; have HO307 := n7_; have HB := n8_; clear n0_ n1_ n2_ n3_ n4_ n5_ n6_ n7_ n8_; (try clear hb); (try clear hb2); (try clear hk); (try clear hi); (try clear ho0); (try clear ho1)))
              (try simp only [Act.put, List.setIfInBounds_toArray, List.set_cons_zero, List.set_cons_succ])
              go_cut [152] (fun v152 wc => ∃ (kq : Nat) (x152_93 : Bool), v152 = .bool x152_93 ∧ Aside0 (laws_FnExactListMove.j2 kq t290 t292 t291 x152_93 = some r) ∧ Aside0 (kq ≤ kj56) ∧ Aside0 (Kd.R Kd.string 9 wc w.heap.size (fun k_ => some k_ ≠ ((.slice Ao82 t267.length co82) : Value).ownBlock) (.slice Ao80 t266.length co80) t290) ∧ Aside0 (Kd.R Kd.string 9 wc w.heap.size (fun k_ => some k_ ≠ ((.slice Ao80 t266.length co80) : Value).ownBlock) (.slice Ao82 t267.length co82) t292) ∧ Aside0 (Below w.heap.size w wc))
              case first =>
               have H := HC94.out
               clear HC94
               replace H := Option.bind_eq_some_iff.mp H
               obtain ⟨t308, A1000, H⟩ := H
               replace H : (if t308 = true then ((laws_eqStringS.f kj56 t302 t254).bind fun t309 => (if t309 = true then (laws_FnExactListMove.j2 kj56 t290 t292 t291 (t303 != t255)) else (laws_FnExactListMove.j2 kj56 t290 t292 t291 true))) else (laws_FnExactListMove.j2 kj56 t290 t292 t291 true)) = some r := H
               have A100 := Aside0.mk A1000
               clear A1000
               by_cases c101 : t308 = true
               ·subst c101
                have H1 : ((laws_eqStringS.f kj56 t302 t254).bind fun t309 => (if t309 = true then (laws_FnExactListMove.j2 kj56 t290 t292 t291 (t303 != t255)) else (laws_FnExactListMove.j2 kj56 t290 t292 t291 true))) = some r := by rw [if_pos rfl] at H; exact H
                clear H
                have H := H1
                clear H1
                replace H := Option.bind_eq_some_iff.mp H
                obtain ⟨t309, A1020, H⟩ := H
                replace H : (if t309 = true then (laws_FnExactListMove.j2 kj56 t290 t292 t291 (t303 != t255)) else (laws_FnExactListMove.j2 kj56 t290 t292 t291 true)) = some r := H
                have A102 := Aside0.mk A1020
                clear A1020
                by_cases c103 : t309 = true
                ·subst c103
                 have H1 : (laws_FnExactListMove.j2 kj56 t290 t292 t291 (t303 != t255)) = some r := by rw [if_pos rfl] at H; exact H
                 clear H
                 have H := H1
                 clear H1
                 have H' := Aside0.mk H
                 clear H
                 obtain ⟨Ao104, co104, eo104⟩ := Kd.R_slice HO305.out
                 subst eo104
                 obtain ⟨Ao105, co105, eo105⟩ := Kd.R_slice HO_10.out
                 subst eo105
                 go_wp2_with (first | ((with_reducible refine gate_callee (f := 23) rfl ?_); refine goesL_ (some 140) rfl rfl Try.func23 (by kernel_rfl) rfl #[.slice Ao104 t301.length co104, .slice Ao105 t253.length co105] rfl (by (try simp only [List.map_toArray, List.map_cons, List.map_nil]); first | done | rfl | (simp only [List.length_drop, List.length_take]; rfl)) ?_; (with_reducible refine (laws_eqStringS.calls kj56 _ _ t301 _ _ t253 true _ ?side1 ?side2 ?side3 ?side4 A100.out).mono ?_); (case side1 => repeat (first | exact (Kd.R_reads' HO305.out).2.2 | (with_reducible refine Kd.C_alloc ?_ _) | (with_reducible refine Kd.C_drewN ?_ _) | (with_reducible refine Kd.C_drew ?_))); (case side2 => exact (Kd.R_reads' HO305.out).2.1); (case side3 => repeat (first | exact (Kd.R_reads' HO_10.out).2.2 | (with_reducible refine Kd.C_alloc ?_ _) | (with_reducible refine Kd.C_drewN ?_ _) | (with_reducible refine Kd.C_drew ?_))); (case side4 => exact (Kd.R_reads' HO_10.out).2.1); rintro e w' ⟨rfl, ⟨nd, rfl⟩⟩; refine ⟨_, rfl, ?_⟩; obtain ⟨Ao106, co106, eo106⟩ := Kd.R_slice HO307.out; subst eo106; obtain ⟨Ao107, co107, eo107⟩ := Kd.R_slice HO_11.out; subst eo107) | (go_at_call 23; (with_reducible refine (laws_eqStringS.calls kj56 _ _ t302 _ _ t254 true _ ?side1 ?side2 ?side3 ?side4 A102.out).mono ?_); (case side1 => repeat (first | exact (Kd.R_reads' HO307.out).2.2 | (with_reducible refine Kd.C_alloc ?_ _) | (with_reducible refine Kd.C_drewN ?_ _) | (with_reducible refine Kd.C_drew ?_))); (case side2 => exact (Kd.R_reads' HO307.out).2.1); (case side3 => repeat (first | exact (Kd.R_reads' HO_11.out).2.2 | (with_reducible refine Kd.C_alloc ?_ _) | (with_reducible refine Kd.C_drewN ?_ _) | (with_reducible refine Kd.C_drew ?_))); (case side4 => exact (Kd.R_reads' HO_11.out).2.1); rintro e w' ⟨rfl, ⟨nd, rfl⟩⟩))
                 go_meet
                 case rel => exact ⟨_, ((t303 != t255)), (by first | rfl | (simp; done) | (simp [*]; done)), H', ⟨by have := HJ16.out; have := HJ56.out; first | omega | exact Nat.le_refl _⟩, ⟨by (with_reducible repeat (first | apply Kd.R_alloc | apply Kd.R_drewN | apply Kd.R_drew)); exact Kd.R_mono HO_15.out (fun _ hk => hk.1.1.1.1.2.2)⟩, ⟨by (with_reducible repeat (first | apply Kd.R_alloc | apply Kd.R_drewN | apply Kd.R_drew)); exact Kd.R_mono HO_16.out (fun _ hk => hk.1.1.1.1.2.2)⟩, ⟨by repeat (first | (with_reducible first | exact HB.out | apply below_alloc | apply pw_below_drewN | apply below_drew1) | exact HB.out)⟩⟩
                ·replace c103 := Bool.eq_false_iff.mpr c103
                 subst c103
                 have H1 : (laws_FnExactListMove.j2 kj56 t290 t292 t291 true) = some r := by rw [if_neg (show ¬ (false = true) by decide)] at H; exact H
                 clear H
                 have H := H1
                 clear H1
                 have H' := Aside0.mk H
                 clear H
                 obtain ⟨Ao108, co108, eo108⟩ := Kd.R_slice HO305.out
                 subst eo108
                 obtain ⟨Ao109, co109, eo109⟩ := Kd.R_slice HO_10.out
                 subst eo109
                 go_wp2_with (first | ((with_reducible refine gate_callee (f := 23) rfl ?_); refine goesL_ (some 140) rfl rfl Try.func23 (by kernel_rfl) rfl #[.slice Ao108 t301.length co108, .slice Ao109 t253.length co109] rfl (by (try simp only [List.map_toArray, List.map_cons, List.map_nil]); first | done | rfl | (simp only [List.length_drop, List.length_take]; rfl)) ?_; (with_reducible refine (laws_eqStringS.calls kj56 _ _ t301 _ _ t253 true _ ?side1 ?side2 ?side3 ?side4 A100.out).mono ?_); (case side1 => repeat (first | exact (Kd.R_reads' HO305.out).2.2 | (with_reducible refine Kd.C_alloc ?_ _) | (with_reducible refine Kd.C_drewN ?_ _) | (with_reducible refine Kd.C_drew ?_))); (case side2 => exact (Kd.R_reads' HO305.out).2.1); (case side3 => repeat (first | exact (Kd.R_reads' HO_10.out).2.2 | (with_reducible refine Kd.C_alloc ?_ _) | (with_reducible refine Kd.C_drewN ?_ _) | (with_reducible refine Kd.C_drew ?_))); (case side4 => exact (Kd.R_reads' HO_10.out).2.1); rintro e w' ⟨rfl, ⟨nd, rfl⟩⟩; refine ⟨_, rfl, ?_⟩; obtain ⟨Ao110, co110, eo110⟩ := Kd.R_slice HO307.out; subst eo110; obtain ⟨Ao111, co111, eo111⟩ := Kd.R_slice HO_11.out; subst eo111) | (go_at_call 23; (with_reducible refine (laws_eqStringS.calls kj56 _ _ t302 _ _ t254 false _ ?side1 ?side2 ?side3 ?side4 A102.out).mono ?_); (case side1 => repeat (first | exact (Kd.R_reads' HO307.out).2.2 | (with_reducible refine Kd.C_alloc ?_ _) | (with_reducible refine Kd.C_drewN ?_ _) | (with_reducible refine Kd.C_drew ?_))); (case side2 => exact (Kd.R_reads' HO307.out).2.1); (case side3 => repeat (first | exact (Kd.R_reads' HO_11.out).2.2 | (with_reducible refine Kd.C_alloc ?_ _) | (with_reducible refine Kd.C_drewN ?_ _) | (with_reducible refine Kd.C_drew ?_))); (case side4 => exact (Kd.R_reads' HO_11.out).2.1); rintro e w' ⟨rfl, ⟨nd, rfl⟩⟩))
                 go_meet
                 case rel => exact ⟨_, (true), (by first | rfl | (simp; done) | (simp [*]; done)), H', ⟨by have := HJ16.out; have := HJ56.out; first | omega | exact Nat.le_refl _⟩, ⟨by (with_reducible repeat (first | apply Kd.R_alloc | apply Kd.R_drewN | apply Kd.R_drew)); exact Kd.R_mono HO_15.out (fun _ hk => hk.1.1.1.1.2.2)⟩, ⟨by (with_reducible repeat (first | apply Kd.R_alloc | apply Kd.R_drewN | apply Kd.R_drew)); exact Kd.R_mono HO_16.out (fun _ hk => hk.1.1.1.1.2.2)⟩, ⟨by repeat (first | (with_reducible first | exact HB.out | apply below_alloc | apply pw_below_drewN | apply below_drew1) | exact HB.out)⟩⟩
               ·replace c101 := Bool.eq_false_iff.mpr c101
                subst c101
                have H1 : (laws_FnExactListMove.j2 kj56 t290 t292 t291 true) = some r := by rw [if_neg (show ¬ (false = true) by decide)] at H; exact H
                clear H
                have H := H1
                clear H1
                have H' := Aside0.mk H
                clear H
                obtain ⟨Ao112, co112, eo112⟩ := Kd.R_slice HO305.out
                subst eo112
                obtain ⟨Ao113, co113, eo113⟩ := Kd.R_slice HO_10.out
                subst eo113
                go_wp2_with (first | ((with_reducible refine gate_callee (f := 23) rfl ?_); refine goesL_ (some 140) rfl rfl Try.func23 (by kernel_rfl) rfl #[.slice Ao112 t301.length co112, .slice Ao113 t253.length co113] rfl (by (try simp only [List.map_toArray, List.map_cons, List.map_nil]); first | done | rfl | (simp only [List.length_drop, List.length_take]; rfl)) ?_; (with_reducible refine (laws_eqStringS.calls kj56 _ _ t301 _ _ t253 false _ ?side1 ?side2 ?side3 ?side4 A100.out).mono ?_); (case side1 => repeat (first | exact (Kd.R_reads' HO305.out).2.2 | (with_reducible refine Kd.C_alloc ?_ _) | (with_reducible refine Kd.C_drewN ?_ _) | (with_reducible refine Kd.C_drew ?_))); (case side2 => exact (Kd.R_reads' HO305.out).2.1); (case side3 => repeat (first | exact (Kd.R_reads' HO_10.out).2.2 | (with_reducible refine Kd.C_alloc ?_ _) | (with_reducible refine Kd.C_drewN ?_ _) | (with_reducible refine Kd.C_drew ?_))); (case side4 => exact (Kd.R_reads' HO_10.out).2.1); rintro e w' ⟨rfl, ⟨nd, rfl⟩⟩; refine ⟨_, rfl, ?_⟩))
                go_meet
                case rel => exact ⟨_, (true), (by first | rfl | (simp; done) | (simp [*]; done)), H', ⟨by have := HJ16.out; have := HJ56.out; first | omega | exact Nat.le_refl _⟩, ⟨by (with_reducible repeat (first | apply Kd.R_alloc | apply Kd.R_drewN | apply Kd.R_drew)); exact Kd.R_mono HO_15.out (fun _ hk => hk.1.1.1.1.2.2)⟩, ⟨by (with_reducible repeat (first | apply Kd.R_alloc | apply Kd.R_drewN | apply Kd.R_drew)); exact Kd.R_mono HO_16.out (fun _ hk => hk.1.1.1.1.2.2)⟩, ⟨by repeat (first | (with_reducible first | exact HB.out | apply below_alloc | apply pw_below_drewN | apply below_drew1) | exact HB.out)⟩⟩
              case rest =>
               clear HC94
               try clear c1
               try clear c2
               try clear p2
               try clear c3
               try clear c4
               try clear c5
               try clear c6
               try clear c7
               try clear c7b0
               try clear c7b1
               try clear c7b2
               try clear c8
               try clear c9
               try clear c10
               try clear c10b0
               try clear c10b1
               try clear c10b2
               try clear c19
               try clear c20
               try clear c21
               try clear c22
               try clear c23
               try clear c24
               try clear c25
               try clear c29
               try clear c31
               try clear c42
               try clear c48
               try clear c54
               try clear c60
               try clear c60b0
               try clear c60b1
               try clear c60b2
               try clear c62
               try clear c64
               try clear c75
               try clear c85
               try clear c85b0
               try clear c85b1
               try clear c85b2
               try clear c89
               try clear c89b0
               try clear c89b1
               try clear c89b2
               try clear c90
               try clear c90b0
               try clear c90b1
               try clear c101
               try clear c103
               try clear p2
               obtain ⟨kq, x152_93, rfl, HA, HJ93, HO_15, HO_16, HB⟩ := hcut
               have hl15_93 := (Kd.R_reads' HO_15.out).1
               rw [hl15_93] at HO_15
               (try simp only [hl15_93])
               (try simp only [hl15_93] at HO_16)
               have hl16_93 := (Kd.R_reads' HO_16.out).1
               rw [hl16_93] at HO_16
               (try simp only [hl16_93])
               (try simp only [hl16_93] at HO_15)
               cases kq with
               | zero => exact absurd HA.out (by simp [laws_FnExactListMove.j2])
               | succ kj93 =>
                have H := HA.out
                clear HA
                simp only [laws_FnExactListMove.j2] at H
                by_cases c114 : x152_93 = true
                ·subst c114
                 have H1 : (some false) = some r := by rw [if_pos rfl] at H; exact H
                 clear H
                 have H := H1
                 clear H1
                 obtain rfl := Option.some.inj H
                 go_wp2
                 go_ret
                 exact ⟨by first | rfl | (simp [errW_none, errW_some] <;> rfl) | (simp [*, errW_none, errW_some] <;> rfl), by repeat (first | (with_reducible first | exact HB.out | apply below_alloc | apply pw_below_drewN | apply below_drew1) | exact HB.out)⟩
                ·replace c114 := Bool.eq_false_iff.mpr c114
                 subst c114
                 have H1 : ((laws_heldStringS.f kj93 t290 1).bind fun t310 => (if t310 < 0 then (some false) else ((laws_heldStringS.f kj93 t292 t310).bind fun t311 => (if t311 < 0 then (some false) else (if t311 = t291 then (some true) else (some false)))))) = some r := by rw [if_neg (show ¬ (false = true) by decide)] at H; exact H
                 clear H
                 have H := H1
                 clear H1
                 replace H := Option.bind_eq_some_iff.mp H
                 obtain ⟨t310, A1150, H⟩ := H
                 replace H : (if t310 < 0 then (some false) else ((laws_heldStringS.f kj93 t292 t310).bind fun t311 => (if t311 < 0 then (some false) else (if t311 = t291 then (some true) else (some false))))) = some r := H
                 have A115 := Aside0.mk A1150
                 clear A1150
                 have HC116 := Aside0.mk H
                 clear H
                 go_upto_if 157 with (first | ((with_reducible refine gate_callee (f := 25) rfl ?_); refine goesL_ (some 155) rfl rfl Try.func25 (by kernel_rfl) rfl #[.slice Ao80 t290.length co80, .int .i64 1] rfl (by (try simp only [List.map_toArray, List.map_cons, List.map_nil]); first | done | rfl | (simp only [List.length_drop, List.length_take]; rfl)) ?_; (with_reducible refine (laws_heldStringS.calls kj93 _ _ t290 1 t310 _ ?side1 ?side2 A115.out).mono ?_); (case side1 => repeat (first | exact (Kd.R_reads' HO_15.out).2.2 | (with_reducible refine Kd.C_alloc ?_ _) | (with_reducible refine Kd.C_drewN ?_ _) | (with_reducible refine Kd.C_drew ?_))); (case side2 => exact (Kd.R_reads' HO_15.out).2.1); rintro e w117 ⟨rfl, hb⟩; refine ⟨_, rfl, ?_⟩; have n0_ := Aside0.mk (Kd.R_below (by (with_reducible repeat (first | apply Kd.R_alloc | apply Kd.R_drewN | apply Kd.R_drew)); exact HO_15.out) hb); have n1_ := Aside0.mk (Kd.R_below (by (with_reducible repeat (first | apply Kd.R_alloc | apply Kd.R_drewN | apply Kd.R_drew)); exact HO_16.out) hb); have n2_ := Aside0.mk (below_step (by repeat (first | (with_reducible first | exact HB.out | apply below_alloc | apply pw_below_drewN | apply below_drew1) | exact HB.out)) hb); clear HO_15; clear HO_16; clear HB; have HO_15 := n0_; have HO_16 := n1_; have HB := n2_; clear n0_ n1_ n2_; (try clear hb); (try clear hb2); (try clear hk); (try clear hi)))
                 have H := HC116.out
                 clear HC116
                 by_cases c118 : t310 < 0
                 ·rw [if_pos c118] at H
                  have c118b0 : decide (t310 < 0) = true := decide_eq_true c118
                  clear c118
                  (first | rw [c118b0] | rw [c118b1] | (simp only [i64_w, i32_w]; rw [c118b0]) | rw [c118b2] | skip)
                  obtain rfl := Option.some.inj H
                  go_wp2
                  go_ret
                  exact ⟨by first | rfl | (simp [errW_none, errW_some] <;> rfl) | (simp [*, errW_none, errW_some] <;> rfl), by repeat (first | (with_reducible first | exact HB.out | apply below_alloc | apply pw_below_drewN | apply below_drew1) | exact HB.out)⟩
                 ·rw [if_neg c118] at H
                  have c118b0 : decide (t310 < 0) = false := decide_eq_false c118
                  clear c118
                  (first | rw [c118b0] | rw [c118b1] | (simp only [i64_w, i32_w]; rw [c118b0]) | rw [c118b2] | skip)
                  replace H := Option.bind_eq_some_iff.mp H
                  obtain ⟨t311, A1190, H⟩ := H
                  replace H : (if t311 < 0 then (some false) else (if t311 = t291 then (some true) else (some false))) = some r := H
                  have A119 := Aside0.mk A1190
                  clear A1190
                  have HC120 := Aside0.mk H
                  clear H
                  go_upto_if 162 with (first | ((with_reducible refine gate_callee (f := 25) rfl ?_); refine goesL_ (some 160) rfl rfl Try.func25 (by kernel_rfl) rfl #[.slice Ao82 t292.length co82, .int .i64 t310] rfl (by (try simp only [List.map_toArray, List.map_cons, List.map_nil]); first | done | rfl | (simp only [List.length_drop, List.length_take]; rfl)) ?_; (with_reducible refine (laws_heldStringS.calls kj93 _ _ t292 t310 t311 _ ?side1 ?side2 A119.out).mono ?_); (case side1 => repeat (first | exact (Kd.R_reads' HO_16.out).2.2 | (with_reducible refine Kd.C_alloc ?_ _) | (with_reducible refine Kd.C_drewN ?_ _) | (with_reducible refine Kd.C_drew ?_))); (case side2 => exact (Kd.R_reads' HO_16.out).2.1); rintro e w121 ⟨rfl, hb⟩; refine ⟨_, rfl, ?_⟩; have n0_ := Aside0.mk (Kd.R_below (by (with_reducible repeat (first | apply Kd.R_alloc | apply Kd.R_drewN | apply Kd.R_drew)); exact HO_15.out) hb); have n1_ := Aside0.mk (Kd.R_below (by (with_reducible repeat (first | apply Kd.R_alloc | apply Kd.R_drewN | apply Kd.R_drew)); exact HO_16.out) hb); have n2_ := Aside0.mk (below_step (by repeat (first | (with_reducible first | exact HB.out | apply below_alloc | apply pw_below_drewN | apply below_drew1) | exact HB.out)) hb); clear HO_15; clear HO_16; clear HB; have HO_15 := n0_; have HO_16 := n1_; have HB := n2_; clear n0_ n1_ n2_; (try clear hb); (try clear hb2); (try clear hk); (try clear hi)))
                  have H := HC120.out
                  clear HC120
                  by_cases c122 : t311 < 0
                  ·rw [if_pos c122] at H
                   have c122b0 : decide (t311 < 0) = true := decide_eq_true c122
                   clear c122
                   (first | rw [c122b0] | rw [c122b1] | (simp only [i64_w, i32_w]; rw [c122b0]) | rw [c122b2] | skip)
                   obtain rfl := Option.some.inj H
                   go_wp2
                   go_ret
                   exact ⟨by first | rfl | (simp [errW_none, errW_some] <;> rfl) | (simp [*, errW_none, errW_some] <;> rfl), by repeat (first | (with_reducible first | exact HB.out | apply below_alloc | apply pw_below_drewN | apply below_drew1) | exact HB.out)⟩
                  ·rw [if_neg c122] at H
                   have c122b0 : decide (t311 < 0) = false := decide_eq_false c122
                   clear c122
                   (first | rw [c122b0] | rw [c122b1] | (simp only [i64_w, i32_w]; rw [c122b0]) | rw [c122b2] | skip)
                   by_cases c123 : t311 = t291
                   ·rw [if_pos c123] at H
                    have c123b0 : (t311 == t291) = true := beq_iff_eq.mpr c123
                    have c123b1 : (t311 != t291) = false := bne_eq_false_iff_eq.mpr c123
                    clear c123
                    obtain rfl := Option.some.inj H
                    go_wp2
                    go_ret
                    exact ⟨by first | rfl | (simp [errW_none, errW_some] <;> rfl) | (simp [*, errW_none, errW_some] <;> rfl), by repeat (first | (with_reducible first | exact HB.out | apply below_alloc | apply pw_below_drewN | apply below_drew1) | exact HB.out)⟩
                   ·rw [if_neg c123] at H
                    have c123b0 : (t311 == t291) = false := beq_eq_false_iff_ne.mpr c123
                    have c123b1 : (t311 != t291) = true := bne_iff_ne.mpr c123
                    obtain rfl := Option.some.inj H
                    go_wp2
                    go_ret
                    exact ⟨by first | rfl | (simp [errW_none, errW_some] <;> rfl) | (simp [*, errW_none, errW_some] <;> rfl), by repeat (first | (with_reducible first | exact HB.out | apply below_alloc | apply pw_below_drewN | apply below_drew1) | exact HB.out)⟩
             ·rw [if_neg c90] at H
              have c90b0 : (t294 == t291) = false := beq_eq_false_iff_ne.mpr c90
              have c90b1 : (t294 != t291) = true := bne_iff_ne.mpr c90
              obtain rfl := Option.some.inj H
              go_wp2
              go_ret
              exact ⟨by first | rfl | (simp [errW_none, errW_some] <;> rfl) | (simp [*, errW_none, errW_some] <;> rfl), by repeat (first | (with_reducible first | exact HB.out | apply below_alloc | apply pw_below_drewN | apply below_drew1) | exact HB.out)⟩
       ·replace c54 := Bool.eq_false_iff.mpr c54
        subst c54
        have H1 : (some false) = some r := by rw [if_neg (show ¬ (false = true) by decide)] at H; exact H
        clear H
        have H := H1
        clear H1
        obtain rfl := Option.some.inj H
        go_wp2
        go_ret
        exact ⟨by first | rfl | (simp [errW_none, errW_some] <;> rfl) | (simp [*, errW_none, errW_some] <;> rfl), by repeat (first | (with_reducible first | exact HB.out | apply below_alloc | apply pw_below_drewN | apply below_drew1) | exact HB.out)⟩
      ·replace c48 := Bool.eq_false_iff.mpr c48
       subst c48
       have H1 : (some false) = some r := by rw [if_neg (show ¬ (false = true) by decide)] at H; exact H
       clear H
       have H := H1
       clear H1
       obtain rfl := Option.some.inj H
       go_wp2
       go_ret
       exact ⟨by first | rfl | (simp [errW_none, errW_some] <;> rfl) | (simp [*, errW_none, errW_some] <;> rfl), by repeat (first | (with_reducible first | exact HB.out | apply below_alloc | apply pw_below_drewN | apply below_drew1) | exact HB.out)⟩
end Go.Proofs.Ytpokafkkfdponaa.PFnExactListMove
namespace Go.Proofs.Ytpokafkkfdponaa.Opens
open Go.ChangeShapes Go.WideShapes Go.RowKit Go.Proofs.YtpokafkkfdponaaW.PrintWords
structure Opn (P : Program) (t : TypeId) {α : Type} (d : Kd α) (G : α → Prop) : Prop where
  op : ∀ {H : Type} {enc : TypeId × Value → H} {W : World} {fuel : Nat} {cs : List Value} {D : DataW H} {ps : List MemPlace},
    DataW.trod enc P W 0 (fun _ => true) true fuel t cs = some (D, ps) → (∀ n ∈ DataW.weights P t D, n ≤ reachBytes) → ∃ x, d.K W x cs ∧ G x
section
variable {P : Program} {t : TypeId}
theorem Opn.int {k : IntKind} (hu : P.underlying t = some (.int k)) : Opn P t (Kd.int k) (fun x => (Lit.int k x).wf = true) where
  op := fun h _ => by
    obtain ⟨m, rfl, _, hw⟩ := DataW.trod_int hu h
    exact ⟨m, rfl, hw⟩
theorem Opn.bool (hu : P.underlying t = some .bool) : Opn P t Kd.bool (fun _ => True) where
  op := fun h _ => by
    obtain ⟨m, rfl, _⟩ := DataW.trod_bool hu h
    exact ⟨m, rfl, trivial⟩
theorem Opn.string (hu : P.underlying t = some .string) : Opn P t Kd.string (fun x => x.size ≤ 140737488351232) where
  op := fun h hz => by
    obtain ⟨m, rfl, e, _⟩ := DataW.trod_string hu h
    obtain ⟨rfl, _⟩ := Prod.mk.inj e
    refine ⟨m, rfl, ?_⟩
    have := hz m.data.toList.length (by simp [DataW.weights])
    simpa [reachBytes] using this
theorem Opn.slice {e : TypeId} {α : Type} {d : Kd α} {G : α → Prop} (he : Opn P e d G) (hu : P.underlying t = some (.slice e)) (hc : P.cellsOf e = d.sz) {B : Nat} (hB : P.bytesOf e = B) :
    Opn P t (Kd.slice e d) (fun xs => xs.length * B ≤ 140737488351232 ∧ ∀ x ∈ xs, G x) where
  op := fun {H enc W fuel cs D ps} h hz => by
    rcases DataW.trod_slice hu h with ⟨rfl, _⟩ | ⟨a, len, cap, elems, rest, n, _, rfl, hx, _, hl, hm, hlen, hel, hsp, _⟩
    · exact ⟨[], ⟨none, 0, rfl, Nat.le_refl _, rfl, by simp, fun hn => absurd hn (by simp)⟩, by simp, by simp⟩
    · obtain ⟨rfl, _⟩ := Prod.mk.inj hx
      have hw0 := hz ((elems.map (·.1)).length + (rest.map (·.1)).length |>.mul (P.bytesOf e)) (by simp [DataW.weights, hu])
      have each : ∀ i, i < len → ∃ x c, d.K W x c ∧ G x ∧ c.length = d.sz ∧ ∀ j u, c[j]? = some u → W.cell? (a.add (i * d.sz + j)) = some u := by
        intro i hi
        have h1 := hel i hi
        have hil : i < elems.length := by omega
        rw [List.getElem?_eq_getElem hil] at h1
        rw [Option.bind_eq_some_iff] at h1
        obtain ⟨c, hcs, hy⟩ := h1
        have hD : ∀ m ∈ DataW.weights P e (elems[i]).1, m ≤ reachBytes := by
          intro m hmem
          refine hz m ?_
          simp only [DataW.weights, hu]
          refine List.mem_cons_of_mem _ (List.mem_append_left _ ?_)
          have : ∀ (l : List (DataW H)) (y : DataW H), y ∈ l → m ∈ DataW.weights P e y → m ∈ DataW.weightsAll P e l := by
            intro l
            induction l with
            | nil => intro y hy; cases hy
            | cons z l ih =>
              intro y hy hm2
              simp only [DataW.weightsAll, List.mem_append]
              rcases List.mem_cons.1 hy with rfl | hy
              · exact Or.inl hm2
              · exact Or.inr (ih y hy hm2)
          exact this _ _ (List.mem_map.2 ⟨elems[i], List.getElem_mem hil, rfl⟩) hmem
        obtain ⟨x, hK, hG⟩ := he.op (show DataW.trod enc P W 0 (fun _ => true) true n e c = some ((elems[i]).1, (elems[i]).2) from hy) hD
        obtain ⟨hb1, hb2, hb3⟩ := World.cells?_some hcs
        refine ⟨x, c, hK, hG, d.K_len hK, fun j u hu2 => ?_⟩
        have hj := (List.getElem?_eq_some_iff.1 hu2).1
        have h3 := hb3 j (by have := d.K_len hK; rw [hc]; omega)
        rw [hu2] at h3
        rw [← h3, hc, Addr.add_add]
      have pick : ∀ l, l ≤ len → ∃ xs : List α, xs.length = l ∧ (∀ x ∈ xs, G x) ∧ ∀ j p, xs[j]? = some p → ∃ c, c.length = d.sz ∧ d.K W p c ∧ ∀ i u, c[i]? = some u → W.cell? (a.add (j * d.sz + i)) = some u := by
        intro l
        induction l with
        | zero => exact fun _ => ⟨[], rfl, by simp, fun j p h => by simp at h⟩
        | succ l ih =>
          intro hll
          obtain ⟨xs, h1, h2, h3⟩ := ih (by omega)
          obtain ⟨x, c, q1, q2, q3, q4⟩ := each l (by omega)
          refine ⟨xs ++ [x], by simp [h1], ?_, ?_⟩
          · intro y hy
            rcases List.mem_append.1 hy with hy | hy
            · exact h2 y hy
            · obtain rfl := List.mem_singleton.1 hy
              exact q2
          · intro j p hj
            by_cases hjl : j < xs.length
            · exact h3 j p (by rwa [List.getElem?_append_left hjl] at hj)
            · rw [List.getElem?_append_right (by omega)] at hj
              have : j - xs.length = 0 := by
                have := (List.getElem?_eq_some_iff.1 hj).1
                simpa using this
              rw [this] at hj
              have hjl2 : j = l := by omega
              subst hjl2
              obtain rfl : x = p := by simpa using hj
              exact ⟨c, q3, q1, q4⟩
      obtain ⟨xs, h1, h2, h3⟩ := pick len (Nat.le_refl _)
      subst h1
      refine ⟨xs, ⟨some a, cap, rfl, hl, rfl, by simp only [maxLen] at hm; omega, fun _ => ⟨a, rfl, h3⟩⟩, ?_, h2⟩
      have hw1 : (elems.length + rest.length) * P.bytesOf e ≤ reachBytes := by simpa using hw0
      rw [hB] at hw1
      rw [← hlen]
      exact Nat.le_trans (Nat.mul_le_mul_right _ (Nat.le_add_right _ _)) hw1
structure OpnF (P : Program) (fs : List Field) (o : Nat) {α : Type} (d : Kd α) (G : α → Prop) : Prop where
  op : ∀ {H : Type} {enc : TypeId × Value → H} {W : World} {fuel : Nat} {cs : List Value} {xs : List (DataW H × List MemPlace)},
    xs.length = fs.length → (∀ (i : Nat) (f : Field), fs[i]? = some f → DataW.trod enc P W 0 (fun _ => true) true fuel f.type ((cs.drop f.offset).take (P.cellsOf f.type)) = xs[i]?) →
    (∀ n ∈ DataW.weightsEach P (fs.map (·.type)) (xs.map (·.1)), n ≤ reachBytes) → cs.length = o + d.sz → ∃ x, d.K W x (cs.drop o) ∧ G x
theorem OpnF.one {f : Field} {o : Nat} {α : Type} {d : Kd α} {G : α → Prop} (he : Opn P f.type d G) (ho : f.offset = o) (hc : P.cellsOf f.type = d.sz) : OpnF P [f] o d G where
  op := fun {H enc W fuel cs xs} hx h hz hl => by
    match xs, hx with
    | [y], _ =>
      have hy := h 0 f rfl
      rw [ho, hc, List.take_of_length_le (by simp; omega)] at hy
      exact he.op (show _ = some (y.1, y.2) from hy) (fun n hn => hz n (by simp only [List.map_cons, List.map_nil, DataW.weightsEach]; exact List.mem_append_left _ hn))
theorem OpnF.cons {f : Field} {r : List Field} {o : Nat} {α β : Type} {d : Kd α} {d2 : Kd β} {G : α → Prop} {G2 : β → Prop} (he : Opn P f.type d G) (ho : f.offset = o) (hc : P.cellsOf f.type = d.sz) (hr : OpnF P r (o + d.sz) d2 G2) :
    OpnF P (f :: r) o (Kd.pair d d2) (fun x => G x.1 ∧ G2 x.2) where
  op := fun {H enc W fuel cs xs} hx h hz hl => by
    match xs, hx with
    | y :: ys, hx =>
      have hl2 : cs.length = o + d.sz + d2.sz := by rw [hl]; show o + (d.sz + d2.sz) = _; omega
      have hy := h 0 f rfl
      rw [ho, hc] at hy
      obtain ⟨x, hK, hG⟩ := he.op (show _ = some (y.1, y.2) from hy) (fun n hn => hz n (by simp only [List.map_cons, DataW.weightsEach]; exact List.mem_append_left _ hn))
      obtain ⟨x2, hK2, hG2⟩ := hr.op (xs := ys) (by simpa using hx) (fun i g hg => h (i + 1) g hg) (fun n hn => hz n (by simp only [List.map_cons, DataW.weightsEach]; exact List.mem_append_right _ hn)) hl2
      refine ⟨(x, x2), ⟨_, _, ?_, hK, hK2⟩, hG, hG2⟩
      rw [← List.drop_drop, List.take_append_drop]
end
theorem each_of {H : Type} {P : Program} {ts : List TypeId} {ds : List (DataW H)} (h : (DataW.weightsEach P ts ds).all (· ≤ reachBytes) = true) {j : Nat} {t : TypeId} {D : DataW H} (ht : ts[j]? = some t) (hd : ds[j]? = some D) : ∀ n ∈ DataW.weights P t D, n ≤ reachBytes := by
  intro n hn
  have := List.all_eq_true.1 h _ (DataW.weights_mem_each ht hd n hn)
  simpa using this
end Go.Proofs.Ytpokafkkfdponaa.Opens
namespace Go.Proofs.Ytpokafkkfdponaa.PFnExactListMove
open Go.RowKit Go.Proofs.YtpokafkkfdponaaW.PrintWords Go.Proofs.YtpokafkkfdponaaW.PrintLast Go.Proofs.YtpokafkkfdponaaW.PrintMore
open Go.Proofs.Ytpokafkkfdponaa.Opens
attribute [local go_sem] max2_int min2_int max_two min_two max_three min_three max_four min_four
set_option linter.unusedVariables false
set_option linter.unusedSimpArgs false
def laws_FnExactListMove.Pure : Prop := ∀ (l0 : List ByteArray) (l1 : List ByteArray) (a2 : Bool) (a3 : Bool), (l0.length * 16 ≤ 140737488351232 ∧ ∀ x ∈ l0, (x.size ≤ 140737488351232)) → (l1.length * 16 ≤ 140737488351232 ∧ ∀ x ∈ l1, (x.size ≤ 140737488351232)) → ∃ k, laws_FnExactListMove.f k l0 l1 a2 a3 = some true
end Go.Proofs.Ytpokafkkfdponaa.PFnExactListMove
namespace Go.Proofs.Ytpokafkkfdponaa.Base
open Go.RowKit Go.Proofs.YtpokafkkfdponaaW.PrintWords Go.Proofs.YtpokafkkfdponaaW.PrintLast Go.Proofs.YtpokafkkfdponaaW.PrintMore
theorem w64 {n : Int} (h0 : -9223372036854775808 ≤ n) (h1 : n ≤ 9223372036854775807) : wrap64 n = n := by unfold wrap64; omega
theorem Ev.all {α : Type} {g : Nat → Option α} {r : α} (h : ∀ k, g k = some r) : Ev g r := ⟨0, fun k _ => h k⟩
theorem Ev.one {α : Type} {g : Nat → Option α} {r : α} (h : ∀ k, g (k + 1) = some r) : Ev g r := ⟨1, fun k hk => by obtain ⟨m, rfl⟩ : ∃ m, k = m + 1 := ⟨k - 1, by omega⟩; exact h m⟩
theorem Ev.pure {α β : Type} {x : Option α} {a : α} {f : Nat → α → Option β} {r : β} (h : x = some a) (k : Ev (fun n => f n a) r) : Ev (fun n => x.bind (f n)) r := by
  subst h
  exact k
end Go.Proofs.Ytpokafkkfdponaa.Base
namespace Go.Proofs.Ytpokafkkfdponaa.Base
open Go.RowKit Go.Proofs.YtpokafkkfdponaaW.PrintWords Go.Proofs.YtpokafkkfdponaaW.PrintLast Go.Proofs.YtpokafkkfdponaaW.PrintMore
theorem Ev.ite {α : Type} {c : Prop} [Decidable c] {A B : Nat → Option α} {r : α} (h1 : c → Ev A r) (h2 : ¬ c → Ev B r) : Ev (fun k => if c then A k else B k) r := by
  by_cases h : c
  · obtain ⟨K, hK⟩ := h1 h
    exact ⟨K, fun k hk => (if_pos h).trans (hK k hk)⟩
  · obtain ⟨K, hK⟩ := h2 h
    exact ⟨K, fun k hk => (if_neg h).trans (hK k hk)⟩
theorem Ev.pos {α : Type} {c : Prop} [Decidable c] {A B : Nat → Option α} {r : α} (h : c) (h1 : Ev A r) : Ev (fun k => if c then A k else B k) r := Ev.ite (fun _ => h1) (fun x => absurd h x)
theorem Ev.neg {α : Type} {c : Prop} [Decidable c] {A B : Nat → Option α} {r : α} (h : ¬ c) (h1 : Ev B r) : Ev (fun k => if c then A k else B k) r := Ev.ite (fun x => absurd x h) (fun _ => h1)
theorem Ev.eq {α : Type} {g : Nat → Option α} {r r' : α} (h : Ev g r) (e : r = r') : Ev g r' := e ▸ h
theorem Ev.loopInv {σ β : Type} {g : Nat → σ → Int → Option β} {I : Nat → σ → Prop} {R : β → Prop} (n : Nat) (hend : ∀ s, I n s → ∃ r, R r ∧ Ev (fun k => g k s (n : Int)) r)
    (hstep : ∀ i : Nat, i < n → ∀ s, I i s → (∀ s', I (i + 1) s' → ∃ r, R r ∧ Ev (fun k => g k s' ((i : Int) + 1)) r) → ∃ r, R r ∧ Ev (fun k => g k s (i : Int)) r) : ∀ s, I 0 s → ∃ r, R r ∧ Ev (fun k => g k s 0) r := by
  have key : ∀ m, m ≤ n → ∀ s, I (n - m) s → ∃ r, R r ∧ Ev (fun k => g k s ((n - m : Nat) : Int)) r := by
    intro m
    induction m with
    | zero => intro _ s hs; exact hend s hs
    | succ m ih =>
      intro hm s hs
      refine hstep (n - (m + 1)) (by omega) s hs (fun s' hs' => ?_)
      have e : n - (m + 1) + 1 = n - m := by omega
      rw [e] at hs'
      have := ih (by omega) s' hs'
      have e2 : ((n - (m + 1) : Nat) : Int) + 1 = ((n - m : Nat) : Int) := by omega
      rw [e2]
      exact this
  intro s hs
  have := key n (Nat.le_refl _) s (by rw [Nat.sub_self]; exact hs)
  rw [Nat.sub_self] at this
  exact this
def allI (n : Nat) (p : Nat → Bool) : Bool := (List.range n).all p
theorem Ev.loopAll {g : Nat → Int → Option Bool} {p : Nat → Bool} {r : Bool} (n : Nat) (hend : Ev (fun k => g k (n : Int)) r)
    (hstep : ∀ i : Nat, i < n → ∀ b, Ev (fun k => g k ((i : Int) + 1)) b → Ev (fun k => g k (i : Int)) (p i && b)) : Ev (fun k => g k 0) (allI n p && r) := by
  have key : ∀ m, m ≤ n → Ev (fun k => g k ((n - m : Nat) : Int)) ((List.range' (n - m) m).all p && r) := by
    intro m
    induction m with
    | zero => intro _; simpa using hend
    | succ m ih =>
      intro hm
      have e : n - (m + 1) + 1 = n - m := by omega
      have e2 : ((n - (m + 1) : Nat) : Int) + 1 = ((n - m : Nat) : Int) := by omega
      have := hstep (n - (m + 1)) (by omega) ((List.range' (n - m) m).all p && r) (by rw [e2]; exact ih (by omega))
      rw [List.range'_succ, List.all_cons, e, Bool.and_assoc]
      exact this
  have := key n (Nat.le_refl _)
  rw [Nat.sub_self] at this
  unfold allI
  rw [List.range_eq_range']
  exact this
theorem getD_eq {α : Type} {d : α} {l : List α} {i : Nat} (h : i < l.length) : l.getD i d = l[i] := by
  rw [List.getD_eq_getElem?_getD, List.getElem?_eq_getElem h]; rfl
theorem fill_set {α β : Type} (c : α → β) (l : List α) (z : β) (d : α) {i : Nat} (hi : i < l.length) : ((l.take i).map c ++ List.replicate (l.length - i) z).set i (c (l.getD i d)) = (l.take (i + 1)).map c ++ List.replicate (l.length - (i + 1)) z := by
  have e : l.length - i = (l.length - (i + 1)) + 1 := by omega
  rw [e, List.replicate_succ, List.set_append_right _ _ (by rw [List.length_map, List.length_take]; omega), getD_eq hi]
  have e2 : i - ((l.take i).map c).length = 0 := by rw [List.length_map, List.length_take]; omega
  rw [e2, List.set_cons_zero, List.take_succ_eq_append_getElem hi, List.map_append, List.append_assoc]
  rfl
theorem fill_length {α β : Type} (c : α → β) (l : List α) (z : β) {i : Nat} (hi : i ≤ l.length) : ((l.take i).map c ++ List.replicate (l.length - i) z).length = l.length := by
  rw [List.length_append, List.length_map, List.length_take, List.length_replicate]; omega
theorem Ev.loopFill {α β : Type} {g : Nat → List β → Int → Option (List β)} (c : α → β) (l : List α) (z : β) (d : α) (hend : ∀ s : List β, s.length = l.length → Ev (fun k => g k s (l.length : Int)) s)
    (hstep : ∀ i : Nat, i < l.length → ∀ s : List β, s.length = l.length → ∀ r, Ev (fun k => g k (s.set i (c (l.getD i d))) ((i : Int) + 1)) r → Ev (fun k => g k s (i : Int)) r) : Ev (fun k => g k (List.replicate l.length z) 0) (l.map c) := by
  obtain ⟨r, hr, hE⟩ := Ev.loopInv (g := g) (I := fun i s => s = (l.take i).map c ++ List.replicate (l.length - i) z) (R := fun r => r = l.map c) l.length
    (fun s hs => ⟨s, by subst hs; simp, hend s (by subst hs; exact fill_length c l z (Nat.le_refl _))⟩)
    (fun i hi s hs ih => by
      obtain ⟨r, hr, hE⟩ := ih _ rfl
      refine ⟨r, hr, hstep i hi s (by subst hs; exact fill_length c l z (by omega)) r ?_⟩
      subst hs
      rw [fill_set c l z d hi]
      exact hE) (List.replicate l.length z) (by simp)
  subst hr
  exact hE
end Go.Proofs.Ytpokafkkfdponaa.Base
namespace Go.Proofs.Ytpokafkkfdponaa.UFnExactListMove
open Go.RowKit Go.Proofs.Ytpokafkkfdponaa.PFnExactListMove Go.Proofs.Ytpokafkkfdponaa.Base Go.Proofs.YtpokafkkfdponaaW.PrintWords Go.Proofs.YtpokafkkfdponaaW.PrintLast Go.Proofs.YtpokafkkfdponaaW.PrintMore
def textsB (l : List ByteArray) : Bool := allI l.length (fun i => decide ((rdOf ByteArray.empty l i).size ≤ 40)) && decide (l.length ≤ 16)
theorem spec_texts (l : List ByteArray) (h : l.length < 2 ^ 43) : Ev (fun k => spec_l2Texts.f k l) (textsB l) := by
  unfold spec_l2Texts.f textsB
  refine Ev.loopAll (g := fun k i => spec_l2Texts.l0 k l i) l.length (Ev.one fun k => ?_) (fun i hi b hb => ?_)
  · rw [spec_l2Texts.l0, if_neg (by omega)]
    congr 2
    exact propext (by omega)
  refine Ev.step (fun k => by rw [spec_l2Texts.l0, if_pos (by omega : (i : Int) < (l.length : Int)), if_pos (by omega : (0 : Int) ≤ (i : Int))]) ?_
  refine Ev.ite (fun q => ?_) (fun q => ?_)
  · rw [decide_eq_false (by omega)]
    exact Ev.now _
  · rw [decide_eq_true (by omega), w64 (by omega) (by omega)]
    exact Ev.eq hb (by simp)
theorem impl_texts (l : List ByteArray) (h : l.length < 2 ^ 43) : Ev (fun k => impl_listOk.f k l) (textsB l) := by
  unfold impl_listOk.f impl_textsOk.f textsB
  refine Ev.bind (a := allI l.length (fun i => decide ((rdOf ByteArray.empty l i).size ≤ 40)) && decide (l.length ≤ 16)) ?_ (Ev.now _)
  refine Ev.loopAll (g := fun k i => impl_textsOk.l0 k l 16 l (l.length : Int) i) l.length (Ev.one fun k => ?_) (fun i hi b hb => ?_)
  · rw [impl_textsOk.l0, if_neg (by omega)]
    congr 2
    exact propext (by omega)
  refine Ev.step (fun k => by rw [impl_textsOk.l0, if_pos (by omega : (i : Int) < (l.length : Int)), if_pos (by omega : (0 : Int) ≤ (i : Int)), if_pos (by omega : (i : Int) < (l.length : Int))]) ?_
  refine Ev.ite (fun q => ?_) (fun q => ?_)
  · rw [decide_eq_false (by omega)]
    exact Ev.now _
  · rw [decide_eq_true (by omega), w64 (by omega) (by omega)]
    exact Ev.eq hb (by simp)
theorem texts_short {l : List ByteArray} (h : textsB l = true) : l.length ≤ 16 := by
  unfold textsB at h
  rw [Bool.and_eq_true, decide_eq_true_eq] at h
  exact h.2
theorem impl_copy (l : List ByteArray) (h : l.length < 2 ^ 43) : impl_copied.f l = some l := by
  unfold impl_copied.f
  simp only [Option.bind_some, List.length_nil, List.nil_append]
  rw [if_pos (by omega)]
theorem spec_copy (l : List ByteArray) (h : l.length < 2 ^ 43) : spec_l2Copy.f l = some l := by
  unfold spec_l2Copy.f
  simp only [Option.bind_some, List.length_nil, List.nil_append]
  rw [if_pos (by omega)]
def pop (l : List ByteArray) (b : Bool) : List ByteArray × ByteArray × Bool :=
  if textsB l = true ∧ l.length ≠ 0 then if b = true then (l.drop 1, rdOf ByteArray.empty l 0, true) else (l.take (l.length - 1), rdOf ByteArray.empty l ((l.length : Int) - 1), true) else ([], ⟨#[]⟩, false)
theorem impl_pop (l : List ByteArray) (b : Bool) (h : l.length < 2 ^ 43) : Ev (fun k => impl_ListPop.f k l b) (pop l b) := by
  unfold impl_ListPop.f pop
  refine Ev.bind (impl_texts l h) ?_
  by_cases ht : textsB l = true
  · have hs := texts_short ht
    refine Ev.pos ht ?_
    by_cases h0 : l.length = 0
    · rw [if_neg (by simp [h0])]
      exact Ev.one fun k => by rw [impl_ListPop.j0, if_pos (by rw [beq_iff_eq]; omega)]
    · rw [if_pos ⟨ht, h0⟩]
      refine Ev.step (fun k => by rw [impl_ListPop.j0, if_neg (by rw [beq_iff_eq]; omega)]) ?_
      refine Ev.ite (fun hb => ?_) (fun hb => ?_)
      · rw [if_pos hb]
        refine Ev.pos (by omega) (Ev.pure (impl_copy _ (by rw [List.length_drop]; omega)) (Ev.pos (by omega) (Ev.now _)))
      · rw [if_neg hb, w64 (by omega) (by omega)]
        refine Ev.pos (by omega) (Ev.pos (by omega) ?_)
        have e : ((l.length : Int) - 1).toNat = l.length - 1 := by omega
        rw [e]
        exact Ev.pure (impl_copy _ (by rw [List.length_take]; omega)) (Ev.pos (by omega) (Ev.now _))
  · rw [if_neg (fun q => ht q.1)]
    refine Ev.neg ht (Ev.one fun k => by rw [impl_ListPop.j0, if_pos rfl])
theorem spec_pop (l : List ByteArray) (b : Bool) (h : l.length < 2 ^ 43) : Ev (fun k => spec_ListPop.f k l b) (pop l b) := by
  unfold spec_ListPop.f pop
  refine Ev.bind (spec_texts l h) ?_
  by_cases ht : textsB l = true
  · have hs := texts_short ht
    refine Ev.pos ht ?_
    by_cases h0 : l.length = 0
    · rw [if_neg (by simp [h0])]
      exact Ev.one fun k => by rw [spec_ListPop.j0, if_pos (by rw [beq_iff_eq]; omega)]
    · rw [if_pos ⟨ht, h0⟩]
      refine Ev.step (fun k => by rw [spec_ListPop.j0, if_neg (by rw [beq_iff_eq]; omega)]) ?_
      refine Ev.ite (fun hb => ?_) (fun hb => ?_)
      · rw [if_pos hb]
        refine Ev.pos (by omega) (Ev.pure (spec_copy _ (by rw [List.length_drop]; omega)) (Ev.pos (by omega) (Ev.now _)))
      · rw [if_neg hb, w64 (by omega) (by omega)]
        refine Ev.pos (by omega) (Ev.pos (by omega) ?_)
        have e : ((l.length : Int) - 1).toNat = l.length - 1 := by omega
        rw [e]
        exact Ev.pure (spec_copy _ (by rw [List.length_take]; omega)) (Ev.pos (by omega) (Ev.now _))
  · rw [if_neg (fun q => ht q.1)]
    refine Ev.neg ht (Ev.one fun k => by rw [spec_ListPop.j0, if_pos rfl])
def put1 (b : Bool) (s : List ByteArray) (t : ByteArray) : List ByteArray := if b = true then t :: s else s ++ [t]
def puts (b : Bool) (s ts : List ByteArray) : List ByteArray := ts.foldl (put1 b) s
theorem put1_length (b : Bool) (s : List ByteArray) (t : ByteArray) : (put1 b s t).length = s.length + 1 := by unfold put1; split <;> simp
theorem puts_length (b : Bool) : ∀ (ts s : List ByteArray), (puts b s ts).length = s.length + ts.length
  | [], s => rfl
  | t :: r, s => by
    show (puts b (put1 b s t) r).length = _
    rw [puts_length b r, put1_length, List.length_cons]
    omega
theorem puts_take (b : Bool) (s ts : List ByteArray) {i : Nat} (hi : i < ts.length) : puts b s (ts.take (i + 1)) = put1 b (puts b s (ts.take i)) (rdOf ByteArray.empty ts i) := by
  have e : rdOf ByteArray.empty ts i = ts[i] := by
    show ts.getD (i : Int).toNat ByteArray.empty = _
    rw [Int.toNat_natCast, getD_eq hi]
  rw [e, List.take_succ_eq_append_getElem hi, puts, List.foldl_append]
  rfl
def push (l : List ByteArray) (b : Bool) (ts : List ByteArray) : List ByteArray × Bool :=
  if textsB l = true then if textsB ts = true ∧ l.length + ts.length ≤ 16 then (puts b l ts, true) else (l, false) else ([], false)
theorem spec_puts (b : Bool) (l ts : List ByteArray) (h : l.length + ts.length ≤ 1000) : Ev (fun k => spec_l2Push.f k l b ts) (puts b l ts) := by
  unfold spec_l2Push.f
  refine Ev.pure (spec_copy l (by omega)) ?_
  obtain ⟨r, rfl, hr⟩ := Ev.loopInv (g := fun k s i => spec_l2Push.l0 k b ts s i) (I := fun i s => s = puts b l (ts.take i)) (R := fun r => r = puts b l ts) ts.length (fun s hs => ⟨s, by rw [hs, List.take_length], Ev.one fun k => by rw [spec_l2Push.l0, if_neg (by omega)]⟩) (fun i hi s hs ih => by
    obtain ⟨r, hR, hE⟩ := ih (put1 b s (rdOf ByteArray.empty ts i)) (by rw [hs, puts_take b l ts hi])
    have hsl : s.length = l.length + i := by rw [hs, puts_length, List.length_take]; omega
    refine ⟨r, hR, ?_⟩
    refine Ev.step (fun k => by rw [spec_l2Push.l0, if_pos (by omega : (i : Int) < (ts.length : Int))]) ?_
    unfold put1 at hE
    refine Ev.ite (fun hb => ?_) (fun hb => ?_)
    · rw [if_pos hb] at hE
      refine Ev.pos (by omega) (Ev.pure rfl (Ev.pos (by simp; omega) ?_))
      rw [w64 (by omega) (by omega)]
      exact hE
    · rw [if_neg hb] at hE
      refine Ev.pos (by omega) (Ev.pos (by omega) ?_)
      rw [w64 (by omega) (by omega)]
      exact hE) l (by simp [puts])
  exact hr
theorem spec_push (l ts : List ByteArray) (b : Bool) (h : l.length < 2 ^ 43) (h2 : ts.length < 2 ^ 43) : Ev (fun k => spec_ListPush.f k l b ts) (push l b ts) := by
  unfold spec_ListPush.f push
  refine Ev.bind (spec_texts l h) (Ev.ite (fun ht => ?_) (fun ht => ?_))
  · rw [if_pos ht]
    refine Ev.bind (spec_texts ts h2) (Ev.ite (fun h3 => ?_) (fun h3 => ?_))
    · rw [w64 (by omega) (by omega)]
      by_cases h4 : l.length + ts.length ≤ 16
      · rw [if_pos ⟨h3, h4⟩]
        refine Ev.step (fun k => by rw [spec_ListPush.j0, if_neg (by simp; omega)]) ?_
        exact Ev.bind (spec_puts b l ts (by omega)) (Ev.now _)
      · rw [if_neg (fun q => h4 q.2)]
        refine Ev.step (fun k => by rw [spec_ListPush.j0, if_pos (by simp; omega)]) ?_
        exact Ev.pure (spec_copy l h) (Ev.now _)
    · rw [if_neg (fun q => h3 q.1)]
      refine Ev.step (fun k => by rw [spec_ListPush.j0, if_pos rfl]) ?_
      exact Ev.pure (spec_copy l h) (Ev.now _)
  · rw [if_neg ht]
    exact Ev.now _
theorem impl_puts (b : Bool) (l ts : List ByteArray) (h : l.length + ts.length ≤ 1000) : Ev (fun k => impl_ListPush.l0 k b l ts (ts.length : Int) 0) (puts b l ts, true) := by
  obtain ⟨r, rfl, hr⟩ := Ev.loopInv (g := fun k s i => impl_ListPush.l0 k b s ts (ts.length : Int) i) (I := fun i s => s = puts b l (ts.take i)) (R := fun r => r = (puts b l ts, true)) ts.length (fun s hs => ⟨(puts b l ts, true), rfl, Ev.step (fun k => by rw [impl_ListPush.l0, if_neg (by omega)]) (Ev.pure (impl_copy s (by rw [hs, puts_length, List.length_take]; omega)) (Ev.eq (Ev.now _) (by rw [hs, List.take_length])))⟩) (fun i hi s hs ih => by
    obtain ⟨r, hR, hE⟩ := ih (put1 b s (rdOf ByteArray.empty ts i)) (by rw [hs, puts_take b l ts hi])
    have hsl : s.length = l.length + i := by rw [hs, puts_length, List.length_take]; omega
    refine ⟨r, hR, ?_⟩
    refine Ev.step (fun k => by rw [impl_ListPush.l0, if_pos (by omega : (i : Int) < (ts.length : Int)), if_pos (by omega : (0 : Int) ≤ (i : Int)), if_pos (by omega : (i : Int) < (ts.length : Int))]) ?_
    unfold put1 at hE
    refine Ev.ite (fun hb => ?_) (fun hb => ?_)
    · rw [if_pos hb] at hE
      refine Ev.pure (a := ([rdOf ByteArray.empty ts i] ++ s, [rdOf ByteArray.empty ts i])) (by unfold slices_Insert_string_string.f; rw [if_pos ⟨rfl, by simp, by simp; omega⟩]) ?_
      rw [w64 (by omega) (by omega)]
      exact hE
    · rw [if_neg hb] at hE
      refine Ev.pos (by omega) ?_
      rw [w64 (by omega) (by omega)]
      exact hE) l (by simp [puts])
  exact hr
theorem impl_push (l ts : List ByteArray) (b : Bool) (h : l.length < 2 ^ 43) (h2 : ts.length < 2 ^ 43) : Ev (fun k => impl_ListPush.f k l b ts) (push l b ts) := by
  unfold impl_ListPush.f push
  refine Ev.bind (impl_texts l h) (Ev.ite (fun ht => ?_) (fun ht => ?_))
  · rw [if_pos ht]
    refine Ev.bind (impl_texts ts h2) (Ev.ite (fun h3 => ?_) (fun h3 => ?_))
    · rw [w64 (by omega) (by omega)]
      by_cases h4 : l.length + ts.length ≤ 16
      · rw [if_pos ⟨h3, h4⟩]
        refine Ev.step (fun k => by rw [impl_ListPush.j0, if_neg (by simp; omega)]) ?_
        exact Ev.pure (impl_copy l h) (impl_puts b l ts (by omega))
      · rw [if_neg (fun q => h4 q.2)]
        refine Ev.step (fun k => by rw [impl_ListPush.j0, if_pos (by simp; omega)]) ?_
        exact Ev.pure (impl_copy l h) (Ev.now _)
    · rw [if_neg (fun q => h3 q.1)]
      refine Ev.step (fun k => by rw [impl_ListPush.j0, if_pos rfl]) ?_
      exact Ev.pure (impl_copy l h) (Ev.now _)
  · rw [if_neg ht]
    exact Ev.now _
def moved (l0 l1 : List ByteArray) (b c : Bool) : List ByteArray × List ByteArray × Bool :=
  if (pop l0 b).2.2 = true ∧ (push l1 c [(pop l0 b).2.1]).2 = true then ((pop l0 b).1, (push l1 c [(pop l0 b).2.1]).1, true) else (l0, l1, false)
theorem spec_move (l0 l1 : List ByteArray) (b c : Bool) (h : l0.length < 2 ^ 43) (h2 : l1.length < 2 ^ 43) : Ev (fun k => spec_ListMove.f k l0 l1 b c) (moved l0 l1 b c) := by
  unfold spec_ListMove.f moved
  have hj : ∀ x : Bool, Ev (fun k => spec_ListMove.j0 k l0 l1 (pop l0 b).1 (push l1 c [(pop l0 b).2.1]).1 (!x)) (if x = true then ((pop l0 b).1, (push l1 c [(pop l0 b).2.1]).1, true) else (l0, l1, false)) := by
    intro x
    cases x
    · refine Ev.step (fun k => by rw [spec_ListMove.j0, if_pos (by decide)]) ?_
      exact Ev.pure (spec_copy l0 h) (Ev.pure (spec_copy l1 h2) (Ev.now _))
    · exact Ev.one fun k => by rw [spec_ListMove.j0, if_neg (by decide), if_pos rfl]
  refine Ev.bind (spec_pop l0 b h) (Ev.bind (spec_push l1 _ c h2 (by simp)) (Ev.ite (fun q => ?_) (fun q => ?_)))
  · exact Ev.eq (hj _) (by simp [q])
  · exact Ev.eq (hj false) (by simp [q])
theorem impl_move (l0 l1 : List ByteArray) (b c : Bool) (h : l0.length < 2 ^ 43) (h2 : l1.length < 2 ^ 43) : Ev (fun k => impl_ListMove.f k l0 l1 b c) (moved l0 l1 b c) := by
  unfold impl_ListMove.f moved
  have hj : ∀ x : Bool, Ev (fun k => impl_ListMove.j0 k l0 l1 (pop l0 b).1 (push l1 c [(pop l0 b).2.1]).1 (!x)) (if x = true then ((pop l0 b).1, (push l1 c [(pop l0 b).2.1]).1, true) else (l0, l1, false)) := by
    intro x
    cases x
    · refine Ev.step (fun k => by rw [impl_ListMove.j0, if_pos (by decide)]) ?_
      exact Ev.pure (impl_copy l0 h) (Ev.pure (impl_copy l1 h2) (Ev.now _))
    · exact Ev.one fun k => by rw [impl_ListMove.j0, if_neg (by decide), if_pos rfl]
  refine Ev.bind (impl_pop l0 b h) (Ev.bind (impl_push l1 _ c h2 (by simp)) (Ev.ite (fun q => ?_) (fun q => ?_)))
  · exact Ev.eq (hj _) (by simp [q])
  · exact Ev.eq (hj false) (by simp [q])
end Go.Proofs.Ytpokafkkfdponaa.UFnExactListMove
namespace Go.Proofs.Ytpokafkkfdponaa.UFnExactListMove
open Go.RowKit Go.Proofs.Ytpokafkkfdponaa.PFnExactListMove Go.Proofs.Ytpokafkkfdponaa.Base Go.Proofs.YtpokafkkfdponaaW.PrintWords Go.Proofs.YtpokafkkfdponaaW.PrintLast Go.Proofs.YtpokafkkfdponaaW.PrintMore
theorem szStringS_ev (l : List ByteArray) (h : l.length < 2 ^ 60) (c : Int) : ∃ t, Ev (fun k => laws_szStringS.f k l c) t := by
  unfold laws_szStringS.f
  by_cases q : wrap64 (c - (l.length : Int)) < 0
  · exact ⟨-1, Ev.pos q (Ev.now _)⟩
  obtain ⟨r, _, hr⟩ := Ev.loopInv (g := fun k s i => laws_szStringS.l0 k l s i) (I := fun _ _ => True) (R := fun _ => True) l.length (fun s _ => ⟨s, trivial, Ev.one fun k => by rw [laws_szStringS.l0, if_neg (by omega)]⟩) (fun i hi s _ ih => by
    by_cases ht0 : wrap64 (s - ((rdOf ByteArray.empty l i).size : Int)) < 0
    · exact ⟨-1, trivial, Ev.one fun k => by rw [laws_szStringS.l0, if_pos (by omega : (i : Int) < (l.length : Int)), if_pos (by omega : (0 : Int) ≤ (i : Int)), if_pos ht0]⟩
    · obtain ⟨r, hr, hE⟩ := ih (wrap64 (s - ((rdOf ByteArray.empty l i).size : Int))) trivial
      exact ⟨r, trivial, Ev.step (fun k => by rw [laws_szStringS.l0, if_pos (by omega : (i : Int) < (l.length : Int)), if_pos (by omega : (0 : Int) ≤ (i : Int)), if_neg ht0, w64 (n := (i : Int) + 1) (by omega) (by omega)]) hE⟩) (wrap64 (c - (l.length : Int))) trivial
  exact ⟨r, Ev.neg q hr⟩
theorem toStringS_ev (l : List ByteArray) (h : l.length ≤ 17592186044416) : Ev (fun k => laws_toStringS.f k l) l := by
  unfold laws_toStringS.f
  refine Ev.pos (by omega) (Ev.pos (by rw [Int.toNat_natCast]; exact h) ?_)
  rw [Int.toNat_natCast]
  refine Ev.eq (Ev.loopFill (g := fun k s i => laws_toStringS.l0 k l s i) (fun x => x) l _ ByteArray.empty (fun s hs => Ev.one fun k => by rw [laws_toStringS.l0, if_neg (by omega)]) (fun i hi s hs r hr => ?_)) (by simp)
  refine Ev.step (fun k => by rw [laws_toStringS.l0, if_pos (by omega : (i : Int) < (l.length : Int)), if_pos (by omega : (0 : Int) ≤ (i : Int)), if_pos (by omega : (i : Int) < (s.length : Int)), w64 (n := (i : Int) + 1) (by omega) (by omega)]) ?_
  exact hr
theorem eqStringS_self (l : List ByteArray) (h : l.length < 2 ^ 60) : Ev (fun k => laws_eqStringS.f k l l) true := by
  unfold laws_eqStringS.f
  refine Ev.pos rfl (Ev.eq (Ev.loopAll (g := fun k i => laws_eqStringS.l0 k l l i) (p := fun _ => true) (r := true) l.length (Ev.one fun k => by rw [laws_eqStringS.l0, if_neg (by omega)]) (fun i hi b hb => ?_)) (by simp [allI]))
  refine Ev.step (fun k => by rw [laws_eqStringS.l0, if_pos (by omega : (i : Int) < (l.length : Int)), if_pos (by omega : (0 : Int) ≤ (i : Int)), if_pos (by omega : (i : Int) < (l.length : Int)), if_pos rfl, w64 (n := (i : Int) + 1) (by omega) (by omega)]) ?_
  exact Ev.eq hb (by simp)
theorem markText_l (n : Nat) : ∀ (s : ByteArray), s.size + n < 2 ^ 62 → ∃ t, Ev (fun k => laws_markText.l0 k (n : Int) s) t := by
  induction n using Nat.strongRecOn with
  | ind n ih =>
    intro s hs
    by_cases h0 : n = 0
    · subst h0
      exact ⟨_, Ev.one fun k => by rw [laws_markText.l0, if_neg (by omega), if_pos (by omega)]⟩
    · have e1 : Int.tdiv (n : Int) 10 = ((n / 10 : Nat) : Int) := by rw [Int.tdiv_eq_ediv_of_nonneg (by omega)]; omega
      have hz : ∀ x : Int, (strOfNums [x]).size = 1 := fun x => by simp [strOfNums, ByteArray.size]
      have hz2 : ∀ x : Int, (strOfNums [x] ++ s).size = 1 + s.size := fun x => by rw [ByteArray.size_append, hz]
      obtain ⟨t, ht⟩ := ih (n / 10) (by omega) (strOfNums [(wrap64 (48 + (Int.tmod (n : Int) 10))) % 256] ++ s) (by rw [hz2]; omega)
      refine ⟨t, Ev.step (fun k => by rw [laws_markText.l0, if_pos (by omega)]) ?_⟩
      refine Ev.pure rfl (Ev.pos (by rw [hz]; omega) ?_)
      rw [e1, w64 (by omega) (by omega)]
      exact ht
theorem markText_ev (n : Int) (h0 : 0 < n) (h1 : n < 2 ^ 61) : ∃ t, Ev (fun k => laws_markText.f k n) t := by
  obtain ⟨m, rfl⟩ := Int.eq_ofNat_of_zero_le (by omega : 0 ≤ n)
  obtain ⟨t, ht⟩ := markText_l m ⟨#[]⟩ (by show 0 + m < _; omega)
  unfold laws_markText.f
  exact ⟨t, Ev.neg (by omega) ht⟩
def Marked (n : Int) (l : List ByteArray) (c : Nat) : Prop := ∀ j : Nat, j < c → Ev (fun k => laws_markText.f k (n + j)) (rdOf ByteArray.empty l j)
theorem markStringS_ev (l : List ByteArray) (n : Int) (h : l.length < 2 ^ 45) (h0 : 0 < n) (h1 : n < 2 ^ 50) : ∃ m, m.length = l.length ∧ Marked n m m.length ∧ Ev (fun k => laws_markStringS.f k l n) (n + l.length, m) := by
  unfold laws_markStringS.f
  obtain ⟨r, ⟨hr1, hr2, hr3⟩, hE⟩ := Ev.loopInv (g := fun k (s : List ByteArray × Int) i => laws_markStringS.l0 k s.1 s.2 i) (I := fun i s => s.1.length = l.length ∧ s.2 = n + i ∧ Marked n s.1 i) (R := fun r => r.1 = n + l.length ∧ r.2.length = l.length ∧ Marked n r.2 l.length) l.length
    (fun s hs => ⟨(s.2, s.1), ⟨hs.2.1, hs.1, hs.2.2⟩, Ev.one fun k => by rw [laws_markStringS.l0, if_neg (by have := hs.1; omega)]⟩)
    (fun i hi s hs ih => by
      obtain ⟨x, c⟩ := s
      obtain ⟨h2, h3, h4⟩ := hs
      dsimp only at h2 h3 h4
      obtain ⟨t, ht⟩ := markText_ev (n + i) (by omega) (by omega)
      obtain ⟨r, hR, hE⟩ := ih (x.set i t, c + 1) ⟨by rw [List.length_set]; exact h2, by dsimp only; omega, fun j hj => by
        dsimp only
        unfold rdOf
        rw [Int.toNat_natCast, getD_eq (by rw [List.length_set]; omega), List.getElem_set]
        split
        · rename_i q
          subst q
          exact ht
        · have := h4 j (by omega)
          unfold rdOf at this
          rw [Int.toNat_natCast, getD_eq (by omega)] at this
          exact this⟩
      refine ⟨r, hR, Ev.step (fun k => by rw [laws_markStringS.l0, if_pos (by omega : (i : Int) < (x.length : Int))]) ?_⟩
      rw [h3]
      refine Ev.bind ht (Ev.pos (by omega) ?_)
      rw [w64 (n := (i : Int) + 1) (by omega) (by omega), w64 (n := n + i + 1) (by omega) (by omega), ← h3]
      exact hE) (l, n) ⟨rfl, by simp, fun j hj => by omega⟩
  obtain ⟨a, m⟩ := r
  exact ⟨m, hr2, by rw [hr2]; exact hr3, by dsimp only at hr1; rw [← hr1]; exact hE⟩
theorem heldStringS_ev (l : List ByteArray) (n : Int) (h : l.length < 2 ^ 45) (h0 : 0 < n) (h1 : n < 2 ^ 50) (hm : Marked n l l.length) : Ev (fun k => laws_heldStringS.f k l n) (n + l.length) := by
  unfold laws_heldStringS.f
  obtain ⟨r, rfl, hE⟩ := Ev.loopInv (g := fun k s i => laws_heldStringS.l0 k l s i) (I := fun i s => s = n + i) (R := fun r => r = n + l.length) l.length
    (fun s hs => ⟨s, hs, Ev.one fun k => by rw [laws_heldStringS.l0, if_neg (by omega)]⟩)
    (fun i hi s hs ih => by
      obtain ⟨r, hR, hE⟩ := ih (s + 1) (by omega)
      refine ⟨r, hR, Ev.step (fun k => by rw [laws_heldStringS.l0, if_pos (by omega : (i : Int) < (l.length : Int)), if_pos (by omega : (0 : Int) ≤ (i : Int))]) ?_⟩
      subst hs
      refine Ev.bind (hm i hi) (Ev.pos rfl ?_)
      rw [w64 (n := (i : Int) + 1) (by omega) (by omega), w64 (n := n + i + 1) (by omega) (by omega)]
      exact hE) n (by simp)
  exact hE
end Go.Proofs.Ytpokafkkfdponaa.UFnExactListMove
namespace Go.Proofs.Ytpokafkkfdponaa.Pure
open Go.RowKit Go.Proofs.Ytpokafkkfdponaa.PFnExactListMove Go.Proofs.Ytpokafkkfdponaa.UFnExactListMove Go.Proofs.Ytpokafkkfdponaa.Base Go.Proofs.YtpokafkkfdponaaW.PrintWords Go.Proofs.YtpokafkkfdponaaW.PrintLast Go.Proofs.YtpokafkkfdponaaW.PrintMore
theorem pop_length (l : List ByteArray) (b : Bool) : (pop l b).1.length ≤ l.length := by
  unfold pop
  split
  · split
    · simp
    · simp
  · simp
theorem push_length (l : List ByteArray) (b : Bool) (ts : List ByteArray) : (push l b ts).1.length ≤ l.length + ts.length := by
  unfold push
  split
  · split
    · rw [puts_length]; exact Nat.le_refl _
    · simp
  · simp
theorem move_length (l0 l1 : List ByteArray) (b c : Bool) : (moved l0 l1 b c).1.length ≤ l0.length ∧ (moved l0 l1 b c).2.1.length ≤ l1.length + 1 := by
  unfold moved
  split
  · exact ⟨pop_length _ _, by have := push_length l1 c [(pop l0 b).2.1]; simpa using this⟩
  · exact ⟨Nat.le_refl _, Nat.le_succ _⟩
theorem last (x15 x16 : List ByteArray) (h1 : x15.length < 2 ^ 45) (h2 : x16.length < 2 ^ 45) (m1 : Marked 1 x15 x15.length) (m2 : Marked (1 + x15.length) x16 x16.length) : Ev (fun k => laws_FnExactListMove.j2 k x15 x16 (1 + x15.length + x16.length) false) true := by
  refine Ev.step (fun k => by rw [laws_FnExactListMove.j2, if_neg (by decide)]) ?_
  refine Ev.bind (heldStringS_ev x15 1 h1 (by omega) (by omega) m1) (Ev.neg (by omega) (Ev.bind (heldStringS_ev x16 _ h2 (by omega) (by omega) m2) (Ev.neg (by omega) (Ev.pos rfl (Ev.now _)))))
theorem FnExactListMove : laws_FnExactListMove.Pure := by
  intro l0 l1 b c h0 h1
  have s0 : l0.length < 2 ^ 43 := by have := h0.1; omega
  have s1 : l1.length < 2 ^ 43 := by have := h1.1; omega
  refine Ev.rounds ?_
  unfold laws_FnExactListMove.f
  obtain ⟨t, ht⟩ := szStringS_ev l0 (by omega) 1048576
  refine Ev.bind ht (Ev.ite (fun _ => Ev.now _) (fun _ => ?_))
  obtain ⟨t2, ht2⟩ := szStringS_ev l1 (by omega) t
  refine Ev.bind ht2 (Ev.ite (fun _ => Ev.now _) (fun _ => ?_))
  have T0 := toStringS_ev l0 (by omega)
  have T1 := toStringS_ev l1 (by omega)
  have hS := spec_move l0 l1 b c (by omega) (by omega)
  have hI := impl_move l0 l1 b c (by omega) (by omega)
  obtain ⟨n0, n1⟩ := move_length l0 l1 b c
  generalize moved l0 l1 b c = mv at hS hI n0 n1
  obtain ⟨g, w, ok⟩ := mv
  dsimp only at n0 n1
  have E0 := eqStringS_self g (by omega)
  have E1 := eqStringS_self w (by omega)
  refine Ev.bind T0 (Ev.bind T1 (Ev.bind hS (Ev.bind T0 (Ev.bind T1 (Ev.bind hI (Ev.bind E0 (Ev.pos rfl (Ev.bind E1 (Ev.pos rfl ?_)))))))))
  obtain ⟨a0, z0, _, hm0⟩ := markStringS_ev l0 1 (by omega) (by omega) (by omega)
  obtain ⟨a1, z1, _, hm1⟩ := markStringS_ev l1 (1 + l0.length) (by omega) (by omega) (by omega)
  obtain ⟨b0, y0, k0, hn0⟩ := markStringS_ev g 1 (by omega) (by omega) (by omega)
  obtain ⟨b1, y1, k1, hn1⟩ := markStringS_ev w (1 + g.length) (by omega) (by omega) (by omega)
  have H0 := heldStringS_ev b0 1 (by omega) (by omega) (by omega) k0
  have H1 := heldStringS_ev b1 (1 + g.length) (by omega) (by omega) (by omega) k1
  have hf : ∀ x : Bool, (x != x) = false := by decide
  refine Ev.step (fun k => by rw [laws_FnExactListMove.j0, if_neg (by rw [hf]; decide)]) ?_
  refine Ev.bind T0 (Ev.bind (eqStringS_self l0 (by omega)) (Ev.pos rfl (Ev.bind T1 (Ev.bind (eqStringS_self l1 (by omega)) (Ev.pos rfl (Ev.bind hm0 (Ev.bind hm1 (Ev.neg (by dsimp only; omega) (Ev.bind E0 (Ev.pos rfl (Ev.bind E1 (Ev.pos rfl ?_))))))))))))
  refine Ev.step (fun k => by rw [laws_FnExactListMove.j1, if_neg (by rw [hf]; decide)]) ?_
  refine Ev.bind hn0 (Ev.bind hn1 (Ev.bind H0 (Ev.neg (by omega) ?_)))
  rw [y0]
  refine Ev.bind H1 (Ev.neg (by omega) (Ev.pos (by rw [y1]) (Ev.bind T0 (Ev.bind T1 (Ev.bind hI (Ev.bind E0 (Ev.pos rfl (Ev.bind E1 (Ev.pos rfl ?_)))))))))
  dsimp only
  rw [hf]
  have := last b0 b1 (by omega) (by omega) k0 (by rw [y0]; exact k1)
  rw [y0, y1] at this
  exact this
end Go.Proofs.Ytpokafkkfdponaa.Pure
