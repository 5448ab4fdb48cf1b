-- Written by gen.py (a program of this repo) over the translation. Lean checks it.
import Derived.Test.YtpokafkkfdponaaPFnTextBitx0
import Derived.Test.YtpokafkkfdponaaPFnTextBitx1
import Derived.Test.YtpokafkkfdponaaPFnTextBitx2
namespace Go.Proofs.Ytpokafkkfdponaa.PFnTextBit
open Go.RowKit Go.Proofs.YtpokafkkfdponaaW.PrintWords Go.Proofs.YtpokafkkfdponaaW.PrintLast Go.Proofs.YtpokafkkfdponaaW.PrintMore
attribute [local go_sem] max2_int min2_int max_two min_two max_three min_three max_four min_four   -- for this text's walks alone
set_option linter.unusedVariables false
set_option linter.unusedSimpArgs false

/-! ### laws_FnTextBit: function 5 -/
mutual
def laws_FnTextBit.j0 : Nat → List Int → List Int → Bool → Option (Bool)
  | 0, _, _, _ => none
  | k + 1, x0, x1, x25 => if x25 = true then (some true) else ((spec_DrawTextBitPut.f k x0).bind fun bt160 => ((impl_TextBitPut.f bt160.1 bt160.2.1 bt160.2.2).bind fun bt163 => ((spec_TextBitPut.f bt160.1 bt160.2.1 bt160.2.2).bind fun bt166 => (if bt163.1.toList = bt166.1.toList then (if bt163.2.1 = bt166.2.1 then (if (bt163.2.2 != bt166.2.2) = true then (laws_FnTextBit.j1 k x1 bt160.1 bt160.2.1 bt160.2.2 bt163.1 bt163.2.1 bt163.2.2 bt166.1 bt166.2.1 bt166.2.2 true) else ((impl_TextBitGet.f bt160.1 bt160.2.1).bind fun t169 => ((spec_TextBitGet.f bt160.1 bt160.2.1).bind fun t170 => (if t169 = t170 then (laws_FnTextBit.j1 k x1 bt160.1 bt160.2.1 bt160.2.2 bt163.1 bt163.2.1 bt163.2.2 bt166.1 bt166.2.1 bt166.2.2 (!bt163.2.2)) else (laws_FnTextBit.j1 k x1 bt160.1 bt160.2.1 bt160.2.2 bt163.1 bt163.2.1 bt163.2.2 bt166.1 bt166.2.1 bt166.2.2 true))))) else (laws_FnTextBit.j1 k x1 bt160.1 bt160.2.1 bt160.2.2 bt163.1 bt163.2.1 bt163.2.2 bt166.1 bt166.2.1 bt166.2.2 true)) else (laws_FnTextBit.j1 k x1 bt160.1 bt160.2.1 bt160.2.2 bt163.1 bt163.2.1 bt163.2.2 bt166.1 bt166.2.1 bt166.2.2 true)))))
def laws_FnTextBit.j1 : Nat → List Int → ByteArray → Int → Int → ByteArray → Int → Bool → ByteArray → Int → Bool → Bool → Option (Bool)
  | 0, _, _, _, _, _, _, _, _, _, _, _ => none
  | k + 1, x1, x5, x6, x7, x8, x9, x10, x11, x12, x13, x73 => if x73 = true then (if x8.toList = x11.toList then (if x9 = x12 then (if (x10 == x13) = true then ((impl_TextBitGet.f x5 x6).bind fun t171 => ((spec_TextBitGet.f x5 x6).bind fun t172 => (some (t171 == t172)))) else (some false)) else (some false)) else (some false)) else (if ((x1.length : Int) % 320) = x6 then (laws_FnTextBit.j2 k x5 x6 x7 x8 x9 false) else ((impl_TextBitGet.f x8 ((x1.length : Int) % 320)).bind fun t173 => ((impl_TextBitGet.f x5 ((x1.length : Int) % 320)).bind fun t174 => (laws_FnTextBit.j2 k x5 x6 x7 x8 x9 (t173 != t174)))))
def laws_FnTextBit.j2 : Nat → ByteArray → Int → Int → ByteArray → Int → Bool → Option (Bool)
  | 0, _, _, _, _, _, _ => none
  | k + 1, x5, x6, x7, x8, x9, x110 => if x110 = true then (some false) else ((impl_TextBitPut.f x8 x6 x9).bind fun bt175 => ((impl_TextBitGet.f x8 x6).bind fun t178 => (if t178 = x7 then ((impl_TextBitGet.f x5 x6).bind fun t179 => (if x9 = t179 then (if bt175.2.1 = x7 then (if bt175.2.2 = true then ((impl_TextBitCount.f k bt175.1 0 (-1)).bind fun t180 => ((impl_TextBitCount.f k x5 0 (-1)).bind fun t181 => (if t180 = t181 then (if (x8.size : Int) ≥ (x5.size : Int) then (some (decide ((wrap64 (8 * (x8.size : Int))) > x6))) else (some false)) else (some false)))) else (some false)) else (some false)) else (some false))) else (some false))))
end
def laws_FnTextBit.f (k : Nat) (l0 : List Int) (l1 : List Int) : Option (Bool) := if (l0.length : Int) > 1048576 then (laws_FnTextBit.j0 k l0 l1 true) else (laws_FnTextBit.j0 k l0 l1 (decide ((l1.length : Int) > 1048576)))
theorem laws_FnTextBit.mono_l : ∀ k, (∀ y0 y1 y2, LeO (laws_FnTextBit.j0 k y0 y1 y2) (laws_FnTextBit.j0 (k + 1) y0 y1 y2)) ∧ (∀ y0 y1 y2 y3 y4 y5 y6 y7 y8 y9 y10, LeO (laws_FnTextBit.j1 k y0 y1 y2 y3 y4 y5 y6 y7 y8 y9 y10) (laws_FnTextBit.j1 (k + 1) y0 y1 y2 y3 y4 y5 y6 y7 y8 y9 y10)) ∧ (∀ y0 y1 y2 y3 y4 y5, LeO (laws_FnTextBit.j2 k y0 y1 y2 y3 y4 y5) (laws_FnTextBit.j2 (k + 1) y0 y1 y2 y3 y4 y5))
  | 0 => ⟨fun _ _ _ r h => by simp [laws_FnTextBit.j0] at h, fun _ _ _ _ _ _ _ _ _ _ _ r h => by simp [laws_FnTextBit.j1] at h, fun _ _ _ _ _ _ r h => by simp [laws_FnTextBit.j2] at h⟩
  | k + 1 => by
    obtain ⟨ih0, ih1, ih2⟩ := laws_FnTextBit.mono_l k
    refine ⟨?_, ?_, ?_⟩
    · intro y0 y1 y2
      unfold laws_FnTextBit.j0
      repeat' first
      | (with_reducible exact ih0 _ _ _)
      | (with_reducible exact ih1 _ _ _ _ _ _ _ _ _ _ _)
      | (with_reducible exact ih2 _ _ _ _ _ _)
      | (with_reducible exact impl_TextBitCount.mono _ _ _ _)
      | (with_reducible exact spec_DrawTextBitPut.mono _ _)
      | (with_reducible exact LeO.refl _)
      | (with_reducible exact LeO.none _)
      | (with_reducible refine LeO.ite ?_ ?_)
      | (with_reducible refine LeO.bind ?_ (fun _ => ?_))
      | exact ih0 _ _ _
      | exact ih1 _ _ _ _ _ _ _ _ _ _ _
      | exact ih2 _ _ _ _ _ _
      | exact impl_TextBitCount.mono _ _ _ _
      | exact spec_DrawTextBitPut.mono _ _
      | exact LeO.none _
      | refine LeO.ite ?_ ?_
      | refine LeO.bind ?_ (fun _ => ?_)
    · intro y0 y1 y2 y3 y4 y5 y6 y7 y8 y9 y10
      unfold laws_FnTextBit.j1
      repeat' first
      | (with_reducible exact ih0 _ _ _)
      | (with_reducible exact ih1 _ _ _ _ _ _ _ _ _ _ _)
      | (with_reducible exact ih2 _ _ _ _ _ _)
      | (with_reducible exact impl_TextBitCount.mono _ _ _ _)
      | (with_reducible exact spec_DrawTextBitPut.mono _ _)
      | (with_reducible exact LeO.refl _)
      | (with_reducible exact LeO.none _)
      | (with_reducible refine LeO.ite ?_ ?_)
      | (with_reducible refine LeO.bind ?_ (fun _ => ?_))
      | exact ih0 _ _ _
      | exact ih1 _ _ _ _ _ _ _ _ _ _ _
      | exact ih2 _ _ _ _ _ _
      | exact impl_TextBitCount.mono _ _ _ _
      | exact spec_DrawTextBitPut.mono _ _
      | exact LeO.none _
      | refine LeO.ite ?_ ?_
      | refine LeO.bind ?_ (fun _ => ?_)
    · intro y0 y1 y2 y3 y4 y5
      unfold laws_FnTextBit.j2
      repeat' first
      | (with_reducible exact ih0 _ _ _)
      | (with_reducible exact ih1 _ _ _ _ _ _ _ _ _ _ _)
      | (with_reducible exact ih2 _ _ _ _ _ _)
      | (with_reducible exact impl_TextBitCount.mono _ _ _ _)
      | (with_reducible exact spec_DrawTextBitPut.mono _ _)
      | (with_reducible exact LeO.refl _)
      | (with_reducible exact LeO.none _)
      | (with_reducible refine LeO.ite ?_ ?_)
      | (with_reducible refine LeO.bind ?_ (fun _ => ?_))
      | exact ih0 _ _ _
      | exact ih1 _ _ _ _ _ _ _ _ _ _ _
      | exact ih2 _ _ _ _ _ _
      | exact impl_TextBitCount.mono _ _ _ _
      | exact spec_DrawTextBitPut.mono _ _
      | exact LeO.none _
      | refine LeO.ite ?_ ?_
      | refine LeO.bind ?_ (fun _ => ?_)
theorem laws_FnTextBit.mono : ∀ a0 a1 k, LeO (laws_FnTextBit.f k a0 a1) (laws_FnTextBit.f (k + 1) a0 a1) := by
  intro a0 a1 k
  obtain ⟨ih0, ih1, ih2⟩ := laws_FnTextBit.mono_l k
  unfold laws_FnTextBit.f
  repeat' first
      | (with_reducible exact ih0 _ _ _)
      | (with_reducible exact ih1 _ _ _ _ _ _ _ _ _ _ _)
      | (with_reducible exact ih2 _ _ _ _ _ _)
      | (with_reducible exact impl_TextBitCount.mono _ _ _ _)
      | (with_reducible exact spec_DrawTextBitPut.mono _ _)
      | (with_reducible exact LeO.refl _)
      | (with_reducible exact LeO.none _)
      | (with_reducible refine LeO.ite ?_ ?_)
      | (with_reducible refine LeO.bind ?_ (fun _ => ?_))
      | exact ih0 _ _ _
      | exact ih1 _ _ _ _ _ _ _ _ _ _ _
      | exact ih2 _ _ _ _ _ _
      | exact impl_TextBitCount.mono _ _ _ _
      | exact spec_DrawTextBitPut.mono _ _
      | exact LeO.none _
      | refine LeO.ite ?_ ?_
      | refine LeO.bind ?_ (fun _ => ?_)
set_option maxHeartbeats 8000000 in
set_option maxRecDepth 100000 in
theorem laws_FnTextBit.calls (k : Nat) (A0 : Option Addr) (c0 : Nat) (l0 : List Int) (A1 : Option Addr) (c1 : Nat) (l1 : List Int) (r : Bool) (w : World) (hr0 : Kd.C (Kd.int .u8) w A0 l0.length l0) (hc0 : l0.length ≤ c0) (hr1 : Kd.C (Kd.int .u8) w A1 l1.length l1) (hc1 : l1.length ≤ c1) (h : laws_FnTextBit.f k l0 l1 = some r) :
    Calls Try.prog 5 #[.slice A0 l0.length c0, .slice A1 l1.length c1] w fun e w' => e = .returned (.bool r) ∧ Below w.heap.size w w' := by
  have HR0 := Aside0.mk hr0
  have HC0 := Aside0.mk hc0
  clear hr0 hc0
  have HR1 := Aside0.mk hr1
  have HC1 := Aside0.mk hc1
  clear hr1 hc1
  have HB := Aside0.mk (Below.refl w.heap.size w)
  have H : (if (l0.length : Int) > 1048576 then (laws_FnTextBit.j0 k l0 l1 true) else (laws_FnTextBit.j0 k l0 l1 (decide ((l1.length : Int) > 1048576)))) = some r := h
  clear h
  have HC3 := Aside0.mk H
  clear H
  go_enter Try.func5, Try.ntmps5
  go_upto_region 1 with (fail)
  go_cut [25] (fun v25 wc => ∃ (kq : Nat) (x25_2 : Bool), v25 = .bool x25_2 ∧ Aside0 (laws_FnTextBit.j0 kq l0 l1 x25_2 = some r) ∧ Aside0 (kq ≤ k) ∧ Aside0 (Below w.heap.size w wc))
  case first =>
    have H := HC3.out
    clear HC3
    by_cases c4 : (l0.length : Int) > 1048576
    · rw [if_pos c4] at H
      have c4b0 : decide (1048576 < (l0.length : Int)) = true := decide_eq_true c4
      have c4b1 : decide (1048576 < l0.length) = true := decide_eq_true (by omega)
      clear c4
      (first | rw [c4b0] | (simp only [i64_w, i32_w]; rw [c4b0]) | skip)
      have H' := Aside0.mk H
      clear H
      go_wp2
      go_meet
      case rel => exact ⟨_, (true), (by first | rfl | (simp; done) | (simp [*]; done)), H', ⟨by first | omega | exact Nat.le_refl _⟩, ⟨by repeat (first | (with_reducible first | exact HB.out | apply below_alloc | apply pw_below_drewN | apply below_drew1) | exact HB.out)⟩⟩
    · rw [if_neg c4] at H
      have c4b0 : decide (1048576 < (l0.length : Int)) = false := decide_eq_false c4
      have c4b1 : decide (1048576 < l0.length) = false := decide_eq_false (by omega)
      clear c4
      (first | rw [c4b0] | (simp only [i64_w, i32_w]; rw [c4b0]) | skip)
      have H' := Aside0.mk H
      clear H
      go_wp2
      go_meet
      case rel => exact ⟨_, (decide ((l1.length : Int) > 1048576)), (by first | rfl | (simp; done) | (simp [*]; done)), H', ⟨by first | omega | exact Nat.le_refl _⟩, ⟨by repeat (first | (with_reducible first | exact HB.out | apply below_alloc | apply pw_below_drewN | apply below_drew1) | exact HB.out)⟩⟩
  case rest =>
    clear HC3
    try clear c1
    try clear p2
    try clear c4
    try clear c4b0
    try clear c4b1
    obtain ⟨kq, x25_2, rfl, HA, HJ2, HB⟩ := hcut
    cases kq with
    | zero => exact absurd HA.out (by simp [laws_FnTextBit.j0])
    | succ kj2 =>
      have H := HA.out
      clear HA
      simp only [laws_FnTextBit.j0] at H
      by_cases c5 : x25_2 = true
      · subst c5
        have H1 : (some true) = some r := by rw [if_pos rfl] at H; exact H
        clear H
        have H := H1
        clear H1
        obtain rfl := Option.some.inj H
        go_wp2
        go_ret
        exact ⟨by first | rfl | (simp [errW_none, errW_some] <;> rfl) | (simp [*, errW_none, errW_some] <;> rfl), by repeat (first | (with_reducible first | exact HB.out | apply below_alloc | apply pw_below_drewN | apply below_drew1) | exact HB.out)⟩
      · replace c5 := Bool.eq_false_iff.mpr c5
        subst c5
        have H1 : ((spec_DrawTextBitPut.f kj2 l0).bind fun bt160 => ((impl_TextBitPut.f bt160.1 bt160.2.1 bt160.2.2).bind fun bt163 => ((spec_TextBitPut.f bt160.1 bt160.2.1 bt160.2.2).bind fun bt166 => (if bt163.1.toList = bt166.1.toList then (if bt163.2.1 = bt166.2.1 then (if (bt163.2.2 != bt166.2.2) = true then (laws_FnTextBit.j1 kj2 l1 bt160.1 bt160.2.1 bt160.2.2 bt163.1 bt163.2.1 bt163.2.2 bt166.1 bt166.2.1 bt166.2.2 true) else ((impl_TextBitGet.f bt160.1 bt160.2.1).bind fun t169 => ((spec_TextBitGet.f bt160.1 bt160.2.1).bind fun t170 => (if t169 = t170 then (laws_FnTextBit.j1 kj2 l1 bt160.1 bt160.2.1 bt160.2.2 bt163.1 bt163.2.1 bt163.2.2 bt166.1 bt166.2.1 bt166.2.2 (!bt163.2.2)) else (laws_FnTextBit.j1 kj2 l1 bt160.1 bt160.2.1 bt160.2.2 bt163.1 bt163.2.1 bt163.2.2 bt166.1 bt166.2.1 bt166.2.2 true))))) else (laws_FnTextBit.j1 kj2 l1 bt160.1 bt160.2.1 bt160.2.2 bt163.1 bt163.2.1 bt163.2.2 bt166.1 bt166.2.1 bt166.2.2 true)) else (laws_FnTextBit.j1 kj2 l1 bt160.1 bt160.2.1 bt160.2.2 bt163.1 bt163.2.1 bt163.2.2 bt166.1 bt166.2.1 bt166.2.2 true))))) = some r := by rw [if_neg (show ¬ (false = true) by decide)] at H; exact H
        clear H
        have H := H1
        clear H1
        replace H := Option.bind_eq_some_iff.mp H
        obtain ⟨⟨t160, t161, t162⟩, A60, H⟩ := H
        replace H : ((impl_TextBitPut.f t160 t161 t162).bind fun bt163 => ((spec_TextBitPut.f t160 t161 t162).bind fun bt166 => (if bt163.1.toList = bt166.1.toList then (if bt163.2.1 = bt166.2.1 then (if (bt163.2.2 != bt166.2.2) = true then (laws_FnTextBit.j1 kj2 l1 t160 t161 t162 bt163.1 bt163.2.1 bt163.2.2 bt166.1 bt166.2.1 bt166.2.2 true) else ((impl_TextBitGet.f t160 t161).bind fun t169 => ((spec_TextBitGet.f t160 t161).bind fun t170 => (if t169 = t170 then (laws_FnTextBit.j1 kj2 l1 t160 t161 t162 bt163.1 bt163.2.1 bt163.2.2 bt166.1 bt166.2.1 bt166.2.2 (!bt163.2.2)) else (laws_FnTextBit.j1 kj2 l1 t160 t161 t162 bt163.1 bt163.2.1 bt163.2.2 bt166.1 bt166.2.1 bt166.2.2 true))))) else (laws_FnTextBit.j1 kj2 l1 t160 t161 t162 bt163.1 bt163.2.1 bt163.2.2 bt166.1 bt166.2.1 bt166.2.2 true)) else (laws_FnTextBit.j1 kj2 l1 t160 t161 t162 bt163.1 bt163.2.1 bt163.2.2 bt166.1 bt166.2.1 bt166.2.2 true)))) = some r := H
        have A6 := Aside0.mk A60
        clear A60
        replace H := Option.bind_eq_some_iff.mp H
        obtain ⟨⟨t163, t164, t165⟩, A70, H⟩ := H
        replace H : ((spec_TextBitPut.f t160 t161 t162).bind fun bt166 => (if t163.toList = bt166.1.toList then (if t164 = bt166.2.1 then (if (t165 != bt166.2.2) = true then (laws_FnTextBit.j1 kj2 l1 t160 t161 t162 t163 t164 t165 bt166.1 bt166.2.1 bt166.2.2 true) else ((impl_TextBitGet.f t160 t161).bind fun t169 => ((spec_TextBitGet.f t160 t161).bind fun t170 => (if t169 = t170 then (laws_FnTextBit.j1 kj2 l1 t160 t161 t162 t163 t164 t165 bt166.1 bt166.2.1 bt166.2.2 (!t165)) else (laws_FnTextBit.j1 kj2 l1 t160 t161 t162 t163 t164 t165 bt166.1 bt166.2.1 bt166.2.2 true))))) else (laws_FnTextBit.j1 kj2 l1 t160 t161 t162 t163 t164 t165 bt166.1 bt166.2.1 bt166.2.2 true)) else (laws_FnTextBit.j1 kj2 l1 t160 t161 t162 t163 t164 t165 bt166.1 bt166.2.1 bt166.2.2 true))) = some r := H
        have A7 := Aside0.mk A70
        clear A70
        replace H := Option.bind_eq_some_iff.mp H
        obtain ⟨⟨t166, t167, t168⟩, A80, H⟩ := H
        replace H : (if t163.toList = t166.toList then (if t164 = t167 then (if (t165 != t168) = true then (laws_FnTextBit.j1 kj2 l1 t160 t161 t162 t163 t164 t165 t166 t167 t168 true) else ((impl_TextBitGet.f t160 t161).bind fun t169 => ((spec_TextBitGet.f t160 t161).bind fun t170 => (if t169 = t170 then (laws_FnTextBit.j1 kj2 l1 t160 t161 t162 t163 t164 t165 t166 t167 t168 (!t165)) else (laws_FnTextBit.j1 kj2 l1 t160 t161 t162 t163 t164 t165 t166 t167 t168 true))))) else (laws_FnTextBit.j1 kj2 l1 t160 t161 t162 t163 t164 t165 t166 t167 t168 true)) else (laws_FnTextBit.j1 kj2 l1 t160 t161 t162 t163 t164 t165 t166 t167 t168 true)) = some r := H
        have A8 := Aside0.mk A80
        clear A80
        have HC9 := Aside0.mk H
        clear H
        go_upto_region 6 with (first | ((with_reducible refine gate_callee (f := 15) rfl ?_); refine goesL_ (some 28) rfl rfl Try.func15 (by kernel_rfl) rfl #[.slice A0 l0.length c0] rfl (by (try simp only [List.map_toArray, List.map_cons, List.map_nil]); first | done | rfl | (simp only [List.length_drop, List.length_take]; rfl)) ?_; (with_reducible refine (spec_DrawTextBitPut.calls kj2 _ _ l0 t160 t161 t162 _ ?side1 ?side2 A6.out).mono ?_); (case side1 => repeat (first | exact (Kd.C_below HR0.out HB.out) | (with_reducible refine Kd.C_alloc ?_ _) | (with_reducible refine Kd.C_drewN ?_ _) | (with_reducible refine Kd.C_drew ?_))); (case side2 => exact HC0.out); rintro e w10 ⟨rfl, hb⟩; refine ⟨_, rfl, ?_⟩; have n0_ := Aside0.mk (below_step (by repeat (first | (with_reducible first | exact HB.out | apply below_alloc | apply pw_below_drewN | apply below_drew1) | exact HB.out)) hb); clear HB; have HB := n0_; clear n0_; (try clear hb); (try clear hb2); (try clear hk); (try clear hi)) | ((with_reducible refine gate_callee (f := 16) rfl ?_); refine goesL_ (some 36) rfl rfl Try.func16 (by kernel_rfl) rfl #[.string t160, .int .i64 t161, .int .i64 t162] rfl (by (try simp only [List.map_toArray, List.map_cons, List.map_nil]); first | done | rfl | (simp only [List.length_drop, List.length_take]; rfl)) ?_; (with_reducible refine (impl_TextBitPut.calls t160 t161 t162 t163 t164 t165 _ A7.out).mono ?_); rintro e w11 ⟨rfl, hb⟩; refine ⟨_, rfl, ?_⟩; have n0_ := Aside0.mk (below_step (by repeat (first | (with_reducible first | exact HB.out | apply below_alloc | apply pw_below_drewN | apply below_drew1) | exact HB.out)) hb); clear HB; have HB := n0_; clear n0_; (try clear hb); (try clear hb2); (try clear hk); (try clear hi)) | ((with_reducible refine gate_callee (f := 17) rfl ?_); refine goesL_ (some 44) rfl rfl Try.func17 (by kernel_rfl) rfl #[.string t160, .int .i64 t161, .int .i64 t162] rfl (by (try simp only [List.map_toArray, List.map_cons, List.map_nil]); first | done | rfl | (simp only [List.length_drop, List.length_take]; rfl)) ?_; (with_reducible refine (spec_TextBitPut.calls t160 t161 t162 t166 t167 t168 _ A8.out).mono ?_); rintro e w12 ⟨rfl, hb⟩; refine ⟨_, rfl, ?_⟩; have n0_ := Aside0.mk (below_step (by repeat (first | (with_reducible first | exact HB.out | apply below_alloc | apply pw_below_drewN | apply below_drew1) | exact HB.out)) hb); clear HB; have HB := n0_; clear n0_; (try clear hb); (try clear hb2); (try clear hk); (try clear hi)))
        (try simp only [Act.put, List.setIfInBounds_toArray, List.set_cons_zero, List.set_cons_succ])
        go_cut [73] (fun v73 wc => ∃ (kq : Nat) (x73_8 : Bool), v73 = .bool x73_8 ∧ Aside0 (laws_FnTextBit.j1 kq l1 t160 t161 t162 t163 t164 t165 t166 t167 t168 x73_8 = some r) ∧ Aside0 (kq ≤ kj2) ∧ Aside0 (Below w.heap.size w wc))
        case first =>
          have H := HC9.out
          clear HC9
          by_cases c13 : t163.toList = t166.toList
          · rw [if_pos c13] at H
            have c13b0 : (t163.toList == t166.toList) = true := beq_iff_eq.mpr c13
            have c13b1 : (t163.toList != t166.toList) = false := bne_eq_false_iff_eq.mpr c13
            clear c13
            (first | rw [c13b0] | (simp only [i64_w, i32_w]; rw [c13b0]) | skip)
            by_cases c14 : t164 = t167
            · rw [if_pos c14] at H
              have c14b0 : (t164 == t167) = true := beq_iff_eq.mpr c14
              have c14b1 : (t164 != t167) = false := bne_eq_false_iff_eq.mpr c14
              clear c14
              by_cases c15 : (t165 != t168) = true
              · rw [if_pos c15] at H
                have c15b0 : (t165 != t168) = true := c15
                (try (have c15b1 : decide (t165 = t168) = false := by simpa using c15))
                (try (have c15b2 : (t165 == t168) = false := by simpa using c15))
                (try (have c15b3 : ¬ (t165 = t168) := by simpa using c15))
                clear c15
                have H' := Aside0.mk H
                clear H
                go_wp2
                go_meet
                case rel => exact ⟨_, (true), (by first | rfl | (simp; done) | (simp [*]; done)), H', ⟨by have := HJ2.out; first | omega | exact Nat.le_refl _⟩, ⟨by repeat (first | (with_reducible first | exact HB.out | apply below_alloc | apply pw_below_drewN | apply below_drew1) | exact HB.out)⟩⟩
              · rw [if_neg c15] at H
                have c15b0 : (t165 != t168) = false := by simpa using c15
                (try (have c15b1 : decide (t165 = t168) = true := by simpa using c15))
                (try (have c15b2 : (t165 == t168) = true := by simpa using c15))
                clear c15
                replace H := Option.bind_eq_some_iff.mp H
                obtain ⟨t169, A160, H⟩ := H
                replace H : ((spec_TextBitGet.f t160 t161).bind fun t170 => (if t169 = t170 then (laws_FnTextBit.j1 kj2 l1 t160 t161 t162 t163 t164 t165 t166 t167 t168 (!t165)) else (laws_FnTextBit.j1 kj2 l1 t160 t161 t162 t163 t164 t165 t166 t167 t168 true))) = some r := H
                have A16 := Aside0.mk A160
                clear A160
                replace H := Option.bind_eq_some_iff.mp H
                obtain ⟨t170, A170, H⟩ := H
                replace H : (if t169 = t170 then (laws_FnTextBit.j1 kj2 l1 t160 t161 t162 t163 t164 t165 t166 t167 t168 (!t165)) else (laws_FnTextBit.j1 kj2 l1 t160 t161 t162 t163 t164 t165 t166 t167 t168 true)) = some r := H
                have A17 := Aside0.mk A170
                clear A170
                by_cases c18 : t169 = t170
                · rw [if_pos c18] at H
                  have c18b0 : (t169 == t170) = true := beq_iff_eq.mpr c18
                  have c18b1 : (t169 != t170) = false := bne_eq_false_iff_eq.mpr c18
                  clear c18
                  have H' := Aside0.mk H
                  clear H
                  go_wp2_with (first | (go_at_call 14; (with_reducible refine (impl_TextBitGet.calls t160 t161 t169 _ A16.out).mono ?_); rintro e w' ⟨rfl, ⟨nd, rfl⟩⟩) | (go_at_call 18; (with_reducible refine (spec_TextBitGet.calls t160 t161 t170 _ A17.out).mono ?_); rintro e w' ⟨rfl, ⟨nd, rfl⟩⟩))
                  go_meet
                  case rel => exact ⟨_, (!t165), (by first | rfl | (simp; done) | (simp [*]; done)), H', ⟨by have := HJ2.out; first | omega | exact Nat.le_refl _⟩, ⟨by repeat (first | (with_reducible first | exact HB.out | apply below_alloc | apply pw_below_drewN | apply below_drew1) | exact HB.out)⟩⟩
                · rw [if_neg c18] at H
                  have c18b0 : (t169 == t170) = false := beq_eq_false_iff_ne.mpr c18
                  have c18b1 : (t169 != t170) = true := bne_iff_ne.mpr c18
                  have H' := Aside0.mk H
                  clear H
                  go_wp2_with (first | (go_at_call 14; (with_reducible refine (impl_TextBitGet.calls t160 t161 t169 _ A16.out).mono ?_); rintro e w' ⟨rfl, ⟨nd, rfl⟩⟩) | (go_at_call 18; (with_reducible refine (spec_TextBitGet.calls t160 t161 t170 _ A17.out).mono ?_); rintro e w' ⟨rfl, ⟨nd, rfl⟩⟩))
                  go_meet
                  case rel => exact ⟨_, (true), (by first | rfl | (simp; done) | (simp [*]; done)), H', ⟨by have := HJ2.out; first | omega | exact Nat.le_refl _⟩, ⟨by repeat (first | (with_reducible first | exact HB.out | apply below_alloc | apply pw_below_drewN | apply below_drew1) | exact HB.out)⟩⟩
            · rw [if_neg c14] at H
              have c14b0 : (t164 == t167) = false := beq_eq_false_iff_ne.mpr c14
              have c14b1 : (t164 != t167) = true := bne_iff_ne.mpr c14
              have H' := Aside0.mk H
              clear H
              go_wp2
              go_meet
              case rel => exact ⟨_, (true), (by first | rfl | (simp; done) | (simp [*]; done)), H', ⟨by have := HJ2.out; first | omega | exact Nat.le_refl _⟩, ⟨by repeat (first | (with_reducible first | exact HB.out | apply below_alloc | apply pw_below_drewN | apply below_drew1) | exact HB.out)⟩⟩
          · rw [if_neg c13] at H
            have c13b0 : (t163.toList == t166.toList) = false := beq_eq_false_iff_ne.mpr c13
            have c13b1 : (t163.toList != t166.toList) = true := bne_iff_ne.mpr c13
            (first | rw [c13b0] | (simp only [i64_w, i32_w]; rw [c13b0]) | skip)
            have H' := Aside0.mk H
            clear H
            go_wp2
            go_meet
            case rel => exact ⟨_, (true), (by first | rfl | (simp; done) | (simp [*]; done)), H', ⟨by have := HJ2.out; first | omega | exact Nat.le_refl _⟩, ⟨by repeat (first | (with_reducible first | exact HB.out | apply below_alloc | apply pw_below_drewN | apply below_drew1) | exact HB.out)⟩⟩
        case rest =>
          clear HC9
          try clear c1
          try clear p2
          try clear c4
          try clear c4b0
          try clear c4b1
          try clear c5
          try clear c13
          try clear c13b0
          try clear c13b1
          try clear c14
          try clear c14b0
          try clear c14b1
          try clear c15
          try clear c15b0
          try clear c15b1
          try clear c15b2
          try clear c16
          try clear c17
          try clear c18
          try clear c18b0
          try clear c18b1
          try clear p2
          obtain ⟨kq, x73_8, rfl, HA, HJ8, HB⟩ := hcut
          cases kq with
          | zero => exact absurd HA.out (by simp [laws_FnTextBit.j1])
          | succ kj8 =>
            have H := HA.out
            clear HA
            simp only [laws_FnTextBit.j1] at H
            by_cases c19 : x73_8 = true
            · subst c19
              have H1 : (if t163.toList = t166.toList then (if t164 = t167 then (if (t165 == t168) = true then ((impl_TextBitGet.f t160 t161).bind fun t171 => ((spec_TextBitGet.f t160 t161).bind fun t172 => (some (t171 == t172)))) else (some false)) else (some false)) else (some false)) = some r := by rw [if_pos rfl] at H; exact H
              clear H
              have H := H1
              clear H1
              by_cases c20 : t163.toList = t166.toList
              · rw [if_pos c20] at H
                have c20b0 : (t163.toList == t166.toList) = true := beq_iff_eq.mpr c20
                have c20b1 : (t163.toList != t166.toList) = false := bne_eq_false_iff_eq.mpr c20
                clear c20
                by_cases c21 : t164 = t167
                · rw [if_pos c21] at H
                  have c21b0 : (t164 == t167) = true := beq_iff_eq.mpr c21
                  have c21b1 : (t164 != t167) = false := bne_eq_false_iff_eq.mpr c21
                  clear c21
                  by_cases c22 : (t165 == t168) = true
                  · rw [if_pos c22] at H
                    have c22b0 : (t165 == t168) = true := c22
                    (try (have c22b1 : decide (t165 = t168) = true := by simpa using c22))
                    (try (have c22b2 : (t165 == t168) = true := by simpa using c22))
                    clear c22
                    replace H := Option.bind_eq_some_iff.mp H
                    obtain ⟨t171, A230, H⟩ := H
                    replace H : ((spec_TextBitGet.f t160 t161).bind fun t172 => (some (t171 == t172))) = some r := H
                    have A23 := Aside0.mk A230
                    clear A230
                    replace H := Option.bind_eq_some_iff.mp H
                    obtain ⟨t172, A240, H⟩ := H
                    replace H : (some (t171 == t172)) = some r := H
                    have A24 := Aside0.mk A240
                    clear A240
                    obtain rfl := Option.some.inj H
                    go_wp2_with (first | (go_at_call 14; (with_reducible refine (impl_TextBitGet.calls t160 t161 t171 _ A23.out).mono ?_); rintro e w' ⟨rfl, ⟨nd, rfl⟩⟩) | (go_at_call 18; (with_reducible refine (spec_TextBitGet.calls t160 t161 t172 _ A24.out).mono ?_); rintro e w' ⟨rfl, ⟨nd, rfl⟩⟩))
                    go_ret
                    exact ⟨by first | rfl | (simp [errW_none, errW_some] <;> rfl) | (simp [*, errW_none, errW_some] <;> rfl), by repeat (first | (with_reducible first | exact HB.out | apply below_alloc | apply pw_below_drewN | apply below_drew1) | exact HB.out)⟩
                  · rw [if_neg c22] at H
                    have c22b0 : (t165 == t168) = false := by simpa using c22
                    (try (have c22b1 : decide (t165 = t168) = false := by simpa using c22))
                    (try (have c22b2 : (t165 == t168) = false := by simpa using c22))
                    (try (have c22b3 : ¬ (t165 = t168) := by simpa using c22))
                    clear c22
                    obtain rfl := Option.some.inj H
                    go_wp2
                    go_ret
                    exact ⟨by first | rfl | (simp [errW_none, errW_some] <;> rfl) | (simp [*, errW_none, errW_some] <;> rfl), by repeat (first | (with_reducible first | exact HB.out | apply below_alloc | apply pw_below_drewN | apply below_drew1) | exact HB.out)⟩
                · rw [if_neg c21] at H
                  have c21b0 : (t164 == t167) = false := beq_eq_false_iff_ne.mpr c21
                  have c21b1 : (t164 != t167) = true := bne_iff_ne.mpr c21
                  obtain rfl := Option.some.inj H
                  go_wp2
                  go_ret
                  exact ⟨by first | rfl | (simp [errW_none, errW_some] <;> rfl) | (simp [*, errW_none, errW_some] <;> rfl), by repeat (first | (with_reducible first | exact HB.out | apply below_alloc | apply pw_below_drewN | apply below_drew1) | exact HB.out)⟩
              · rw [if_neg c20] at H
                have c20b0 : (t163.toList == t166.toList) = false := beq_eq_false_iff_ne.mpr c20
                have c20b1 : (t163.toList != t166.toList) = true := bne_iff_ne.mpr c20
                obtain rfl := Option.some.inj H
                go_wp2
                go_ret
                exact ⟨by first | rfl | (simp [errW_none, errW_some] <;> rfl) | (simp [*, errW_none, errW_some] <;> rfl), by repeat (first | (with_reducible first | exact HB.out | apply below_alloc | apply pw_below_drewN | apply below_drew1) | exact HB.out)⟩
            · replace c19 := Bool.eq_false_iff.mpr c19
              subst c19
              have H1 : (if ((l1.length : Int) % 320) = t161 then (laws_FnTextBit.j2 kj8 t160 t161 t162 t163 t164 false) else ((impl_TextBitGet.f t163 ((l1.length : Int) % 320)).bind fun t173 => ((impl_TextBitGet.f t160 ((l1.length : Int) % 320)).bind fun t174 => (laws_FnTextBit.j2 kj8 t160 t161 t162 t163 t164 (t173 != t174))))) = some r := by rw [if_neg (show ¬ (false = true) by decide)] at H; exact H
              clear H
              have H := H1
              clear H1
              have HC25 := Aside0.mk H
              clear H
              go_upto_region 9 with (fail)
              go_cut [110] (fun v110 wc => ∃ (kq : Nat) (x110_24 : Bool), v110 = .bool x110_24 ∧ Aside0 (laws_FnTextBit.j2 kq t160 t161 t162 t163 t164 x110_24 = some r) ∧ Aside0 (kq ≤ kj8) ∧ Aside0 (Below w.heap.size w wc))
              case first =>
                have H := HC25.out
                clear HC25
                by_cases c26 : ((l1.length : Int) % 320) = t161
                · rw [if_pos c26] at H
                  have c26b0 : (((l1.length : Int) % 320) == t161) = true := beq_iff_eq.mpr c26
                  have c26b1 : (((l1.length : Int) % 320) != t161) = false := bne_eq_false_iff_eq.mpr c26
                  clear c26
                  (first | rw [c26b0] | (simp only [i64_w, i32_w]; rw [c26b0]) | skip)
                  have H' := Aside0.mk H
                  clear H
                  go_wp2
                  go_meet
                  case rel => exact ⟨_, (false), (by first | rfl | (simp; done) | (simp [*]; done)), H', ⟨by have := HJ2.out; have := HJ8.out; first | omega | exact Nat.le_refl _⟩, ⟨by repeat (first | (with_reducible first | exact HB.out | apply below_alloc | apply pw_below_drewN | apply below_drew1) | exact HB.out)⟩⟩
                · rw [if_neg c26] at H
                  have c26b0 : (((l1.length : Int) % 320) == t161) = false := beq_eq_false_iff_ne.mpr c26
                  have c26b1 : (((l1.length : Int) % 320) != t161) = true := bne_iff_ne.mpr c26
                  (first | rw [c26b0] | (simp only [i64_w, i32_w]; rw [c26b0]) | skip)
                  replace H := Option.bind_eq_some_iff.mp H
                  obtain ⟨t173, A270, H⟩ := H
                  replace H : ((impl_TextBitGet.f t160 ((l1.length : Int) % 320)).bind fun t174 => (laws_FnTextBit.j2 kj8 t160 t161 t162 t163 t164 (t173 != t174))) = some r := H
                  have A27 := Aside0.mk A270
                  clear A270
                  replace H := Option.bind_eq_some_iff.mp H
                  obtain ⟨t174, A280, H⟩ := H
                  replace H : (laws_FnTextBit.j2 kj8 t160 t161 t162 t163 t164 (t173 != t174)) = some r := H
                  have A28 := Aside0.mk A280
                  clear A280
                  have H' := Aside0.mk H
                  clear H
                  go_wp2_with (first | (go_at_call 14; (with_reducible refine (impl_TextBitGet.calls t163 ((l1.length : Int) % 320) t173 _ A27.out).mono ?_); rintro e w' ⟨rfl, ⟨nd, rfl⟩⟩) | (go_at_call 14; (with_reducible refine (impl_TextBitGet.calls t160 ((l1.length : Int) % 320) t174 _ A28.out).mono ?_); rintro e w' ⟨rfl, ⟨nd, rfl⟩⟩))
                  go_meet
                  case rel => exact ⟨_, ((t173 != t174)), (by first | rfl | (simp; done) | (simp [*]; done)), H', ⟨by have := HJ2.out; have := HJ8.out; first | omega | exact Nat.le_refl _⟩, ⟨by repeat (first | (with_reducible first | exact HB.out | apply below_alloc | apply pw_below_drewN | apply below_drew1) | exact HB.out)⟩⟩
              case rest =>
                clear HC25
                try clear c1
                try clear c2
                try clear p2
                try clear c4
                try clear c4b0
                try clear c4b1
                try clear c5
                try clear c13
                try clear c13b0
                try clear c13b1
                try clear c14
                try clear c14b0
                try clear c14b1
                try clear c15
                try clear c15b0
                try clear c15b1
                try clear c15b2
                try clear c16
                try clear c17
                try clear c18
                try clear c18b0
                try clear c18b1
                try clear c19
                try clear c20
                try clear c20b0
                try clear c20b1
                try clear c21
                try clear c21b0
                try clear c21b1
                try clear c22
                try clear c22b0
                try clear c22b1
                try clear c22b2
                try clear c26
                try clear c26b0
                try clear c26b1
                try clear p2
                obtain ⟨kq, x110_24, rfl, HA, HJ24, HB⟩ := hcut
                cases kq with
                | zero => exact absurd HA.out (by simp [laws_FnTextBit.j2])
                | succ kj24 =>
                  have H := HA.out
                  clear HA
                  simp only [laws_FnTextBit.j2] at H
                  by_cases c29 : x110_24 = true
                  · subst c29
                    have H1 : (some false) = some r := by rw [if_pos rfl] at H; exact H
                    clear H
                    have H := H1
                    clear H1
                    obtain rfl := Option.some.inj H
                    go_wp2
                    go_ret
                    exact ⟨by first | rfl | (simp [errW_none, errW_some] <;> rfl) | (simp [*, errW_none, errW_some] <;> rfl), by repeat (first | (with_reducible first | exact HB.out | apply below_alloc | apply pw_below_drewN | apply below_drew1) | exact HB.out)⟩
                  · replace c29 := Bool.eq_false_iff.mpr c29
                    subst c29
                    have H1 : ((impl_TextBitPut.f t163 t161 t164).bind fun bt175 => ((impl_TextBitGet.f t163 t161).bind fun t178 => (if t178 = t162 then ((impl_TextBitGet.f t160 t161).bind fun t179 => (if t164 = t179 then (if bt175.2.1 = t162 then (if bt175.2.2 = true then ((impl_TextBitCount.f kj24 bt175.1 0 (-1)).bind fun t180 => ((impl_TextBitCount.f kj24 t160 0 (-1)).bind fun t181 => (if t180 = t181 then (if (t163.size : Int) ≥ (t160.size : Int) then (some (decide ((wrap64 (8 * (t163.size : Int))) > t161))) else (some false)) else (some false)))) else (some false)) else (some false)) else (some false))) else (some false)))) = some r := by rw [if_neg (show ¬ (false = true) by decide)] at H; exact H
                    clear H
                    have H := H1
                    clear H1
                    replace H := Option.bind_eq_some_iff.mp H
                    obtain ⟨⟨t175, t176, t177⟩, A300, H⟩ := H
                    replace H : ((impl_TextBitGet.f t163 t161).bind fun t178 => (if t178 = t162 then ((impl_TextBitGet.f t160 t161).bind fun t179 => (if t164 = t179 then (if t176 = t162 then (if t177 = true then ((impl_TextBitCount.f kj24 t175 0 (-1)).bind fun t180 => ((impl_TextBitCount.f kj24 t160 0 (-1)).bind fun t181 => (if t180 = t181 then (if (t163.size : Int) ≥ (t160.size : Int) then (some (decide ((wrap64 (8 * (t163.size : Int))) > t161))) else (some false)) else (some false)))) else (some false)) else (some false)) else (some false))) else (some false))) = some r := H
                    have A30 := Aside0.mk A300
                    clear A300
                    replace H := Option.bind_eq_some_iff.mp H
                    obtain ⟨t178, A310, H⟩ := H
                    replace H : (if t178 = t162 then ((impl_TextBitGet.f t160 t161).bind fun t179 => (if t164 = t179 then (if t176 = t162 then (if t177 = true then ((impl_TextBitCount.f kj24 t175 0 (-1)).bind fun t180 => ((impl_TextBitCount.f kj24 t160 0 (-1)).bind fun t181 => (if t180 = t181 then (if (t163.size : Int) ≥ (t160.size : Int) then (some (decide ((wrap64 (8 * (t163.size : Int))) > t161))) else (some false)) else (some false)))) else (some false)) else (some false)) else (some false))) else (some false)) = some r := H
                    have A31 := Aside0.mk A310
                    clear A310
                    by_cases c32 : t178 = t162
                    · rw [if_pos c32] at H
                      have c32b0 : (t178 == t162) = true := beq_iff_eq.mpr c32
                      have c32b1 : (t178 != t162) = false := bne_eq_false_iff_eq.mpr c32
                      clear c32
                      replace H := Option.bind_eq_some_iff.mp H
                      obtain ⟨t179, A330, H⟩ := H
                      replace H : (if t164 = t179 then (if t176 = t162 then (if t177 = true then ((impl_TextBitCount.f kj24 t175 0 (-1)).bind fun t180 => ((impl_TextBitCount.f kj24 t160 0 (-1)).bind fun t181 => (if t180 = t181 then (if (t163.size : Int) ≥ (t160.size : Int) then (some (decide ((wrap64 (8 * (t163.size : Int))) > t161))) else (some false)) else (some false)))) else (some false)) else (some false)) else (some false)) = some r := H
                      have A33 := Aside0.mk A330
                      clear A330
                      by_cases c34 : t164 = t179
                      · rw [if_pos c34] at H
                        have c34b0 : (t164 == t179) = true := beq_iff_eq.mpr c34
                        have c34b1 : (t164 != t179) = false := bne_eq_false_iff_eq.mpr c34
                        clear c34
                        by_cases c35 : t176 = t162
                        · rw [if_pos c35] at H
                          have c35b0 : (t176 == t162) = true := beq_iff_eq.mpr c35
                          have c35b1 : (t176 != t162) = false := bne_eq_false_iff_eq.mpr c35
                          clear c35
                          by_cases c36 : t177 = true
                          · subst c36
                            have H1 : ((impl_TextBitCount.f kj24 t175 0 (-1)).bind fun t180 => ((impl_TextBitCount.f kj24 t160 0 (-1)).bind fun t181 => (if t180 = t181 then (if (t163.size : Int) ≥ (t160.size : Int) then (some (decide ((wrap64 (8 * (t163.size : Int))) > t161))) else (some false)) else (some false)))) = some r := by rw [if_pos rfl] at H; exact H
                            clear H
                            have H := H1
                            clear H1
                            replace H := Option.bind_eq_some_iff.mp H
                            obtain ⟨t180, A370, H⟩ := H
                            replace H : ((impl_TextBitCount.f kj24 t160 0 (-1)).bind fun t181 => (if t180 = t181 then (if (t163.size : Int) ≥ (t160.size : Int) then (some (decide ((wrap64 (8 * (t163.size : Int))) > t161))) else (some false)) else (some false))) = some r := H
                            have A37 := Aside0.mk A370
                            clear A370
                            replace H := Option.bind_eq_some_iff.mp H
                            obtain ⟨t181, A380, H⟩ := H
                            replace H : (if t180 = t181 then (if (t163.size : Int) ≥ (t160.size : Int) then (some (decide ((wrap64 (8 * (t163.size : Int))) > t161))) else (some false)) else (some false)) = some r := H
                            have A38 := Aside0.mk A380
                            clear A380
                            by_cases c39 : t180 = t181
                            · rw [if_pos c39] at H
                              have c39b0 : (t180 == t181) = true := beq_iff_eq.mpr c39
                              have c39b1 : (t180 != t181) = false := bne_eq_false_iff_eq.mpr c39
                              clear c39
                              by_cases c40 : (t163.size : Int) ≥ (t160.size : Int)
                              · rw [if_pos c40] at H
                                have c40b0 : decide ((t160.size : Int) ≤ (t163.size : Int)) = true := decide_eq_true c40
                                have c40b1 : decide (t160.size ≤ t163.size) = true := decide_eq_true (Int.ofNat_le.mp c40)
                                clear c40
                                obtain rfl := Option.some.inj H
                                go_wp2_with (first | ((with_reducible refine gate_callee (f := 16) rfl ?_); refine goesL_ (some 115) rfl rfl Try.func16 (by kernel_rfl) rfl #[.string t163, .int .i64 t161, .int .i64 t164] rfl (by (try simp only [List.map_toArray, List.map_cons, List.map_nil]); first | done | rfl | (simp only [List.length_drop, List.length_take]; rfl)) ?_; (with_reducible refine (impl_TextBitPut.calls t163 t161 t164 t175 t176 true _ A30.out).mono ?_); rintro e w41 ⟨rfl, hb⟩; refine ⟨_, rfl, ?_⟩; have n0_ := Aside0.mk (below_step (by repeat (first | (with_reducible first | exact HB.out | apply below_alloc | apply pw_below_drewN | apply below_drew1) | exact HB.out)) hb); clear HB; have HB := n0_; clear n0_; (try clear hb); (try clear hb2); (try clear hk); (try clear hi)) | ((with_reducible refine gate_callee (f := 14) rfl ?_); refine goesL_ (some 121) rfl rfl Try.func14 (by kernel_rfl) rfl #[.string t163, .int .i64 t161] rfl (by (try simp only [List.map_toArray, List.map_cons, List.map_nil]); first | done | rfl | (simp only [List.length_drop, List.length_take]; rfl)) ?_; (with_reducible refine (impl_TextBitGet.calls t163 t161 t178 _ A31.out).mono ?_); rintro e w' ⟨rfl, ⟨nd, rfl⟩⟩; refine ⟨_, rfl, ?_⟩) | (go_at_call 14; (with_reducible refine (impl_TextBitGet.calls t160 t161 t179 _ A33.out).mono ?_); rintro e w' ⟨rfl, ⟨nd, rfl⟩⟩) | (go_at_call 12; (with_reducible refine (impl_TextBitCount.calls kj24 t175 0 (-1) t180 _ A37.out).mono ?_); rintro e w42 ⟨rfl, hb⟩; have n0_ := Aside0.mk (below_step (by repeat (first | (with_reducible first | exact HB.out | apply below_alloc | apply pw_below_drewN | apply below_drew1) | exact HB.out)) hb); clear HB; have HB := n0_; clear n0_; (try clear hb); (try clear hb2); (try clear hk); (try clear hi)) | (go_at_call 12; (with_reducible refine (impl_TextBitCount.calls kj24 t160 0 (-1) t181 _ A38.out).mono ?_); rintro e w43 ⟨rfl, hb⟩; have n0_ := Aside0.mk (below_step (by repeat (first | (with_reducible first | exact HB.out | apply below_alloc | apply pw_below_drewN | apply below_drew1) | exact HB.out)) hb); clear HB; have HB := n0_; clear n0_; (try clear hb); (try clear hb2); (try clear hk); (try clear hi)))
                                go_ret
                                exact ⟨by first | rfl | (simp [errW_none, errW_some] <;> rfl) | (simp [*, errW_none, errW_some] <;> rfl), by repeat (first | (with_reducible first | exact HB.out | apply below_alloc | apply pw_below_drewN | apply below_drew1) | exact HB.out)⟩
                              · rw [if_neg c40] at H
                                have c40b0 : decide ((t160.size : Int) ≤ (t163.size : Int)) = false := decide_eq_false c40
                                have c40b1 : decide (t160.size ≤ t163.size) = false := decide_eq_false (fun h => c40 (Int.ofNat_le.mpr h))
                                clear c40
                                obtain rfl := Option.some.inj H
                                go_wp2_with (first | ((with_reducible refine gate_callee (f := 16) rfl ?_); refine goesL_ (some 115) rfl rfl Try.func16 (by kernel_rfl) rfl #[.string t163, .int .i64 t161, .int .i64 t164] rfl (by (try simp only [List.map_toArray, List.map_cons, List.map_nil]); first | done | rfl | (simp only [List.length_drop, List.length_take]; rfl)) ?_; (with_reducible refine (impl_TextBitPut.calls t163 t161 t164 t175 t176 true _ A30.out).mono ?_); rintro e w44 ⟨rfl, hb⟩; refine ⟨_, rfl, ?_⟩; have n0_ := Aside0.mk (below_step (by repeat (first | (with_reducible first | exact HB.out | apply below_alloc | apply pw_below_drewN | apply below_drew1) | exact HB.out)) hb); clear HB; have HB := n0_; clear n0_; (try clear hb); (try clear hb2); (try clear hk); (try clear hi)) | ((with_reducible refine gate_callee (f := 14) rfl ?_); refine goesL_ (some 121) rfl rfl Try.func14 (by kernel_rfl) rfl #[.string t163, .int .i64 t161] rfl (by (try simp only [List.map_toArray, List.map_cons, List.map_nil]); first | done | rfl | (simp only [List.length_drop, List.length_take]; rfl)) ?_; (with_reducible refine (impl_TextBitGet.calls t163 t161 t178 _ A31.out).mono ?_); rintro e w' ⟨rfl, ⟨nd, rfl⟩⟩; refine ⟨_, rfl, ?_⟩) | (go_at_call 14; (with_reducible refine (impl_TextBitGet.calls t160 t161 t179 _ A33.out).mono ?_); rintro e w' ⟨rfl, ⟨nd, rfl⟩⟩) | (go_at_call 12; (with_reducible refine (impl_TextBitCount.calls kj24 t175 0 (-1) t180 _ A37.out).mono ?_); rintro e w45 ⟨rfl, hb⟩; have n0_ := Aside0.mk (below_step (by repeat (first | (with_reducible first | exact HB.out | apply below_alloc | apply pw_below_drewN | apply below_drew1) | exact HB.out)) hb); clear HB; have HB := n0_; clear n0_; (try clear hb); (try clear hb2); (try clear hk); (try clear hi)) | (go_at_call 12; (with_reducible refine (impl_TextBitCount.calls kj24 t160 0 (-1) t181 _ A38.out).mono ?_); rintro e w46 ⟨rfl, hb⟩; have n0_ := Aside0.mk (below_step (by repeat (first | (with_reducible first | exact HB.out | apply below_alloc | apply pw_below_drewN | apply below_drew1) | exact HB.out)) hb); clear HB; have HB := n0_; clear n0_; (try clear hb); (try clear hb2); (try clear hk); (try clear hi)))
                                go_ret
                                exact ⟨by first | rfl | (simp [errW_none, errW_some] <;> rfl) | (simp [*, errW_none, errW_some] <;> rfl), by repeat (first | (with_reducible first | exact HB.out | apply below_alloc | apply pw_below_drewN | apply below_drew1) | exact HB.out)⟩
                            · rw [if_neg c39] at H
                              have c39b0 : (t180 == t181) = false := beq_eq_false_iff_ne.mpr c39
                              have c39b1 : (t180 != t181) = true := bne_iff_ne.mpr c39
                              obtain rfl := Option.some.inj H
                              go_wp2_with (first | ((with_reducible refine gate_callee (f := 16) rfl ?_); refine goesL_ (some 115) rfl rfl Try.func16 (by kernel_rfl) rfl #[.string t163, .int .i64 t161, .int .i64 t164] rfl (by (try simp only [List.map_toArray, List.map_cons, List.map_nil]); first | done | rfl | (simp only [List.length_drop, List.length_take]; rfl)) ?_; (with_reducible refine (impl_TextBitPut.calls t163 t161 t164 t175 t176 true _ A30.out).mono ?_); rintro e w47 ⟨rfl, hb⟩; refine ⟨_, rfl, ?_⟩; have n0_ := Aside0.mk (below_step (by repeat (first | (with_reducible first | exact HB.out | apply below_alloc | apply pw_below_drewN | apply below_drew1) | exact HB.out)) hb); clear HB; have HB := n0_; clear n0_; (try clear hb); (try clear hb2); (try clear hk); (try clear hi)) | ((with_reducible refine gate_callee (f := 14) rfl ?_); refine goesL_ (some 121) rfl rfl Try.func14 (by kernel_rfl) rfl #[.string t163, .int .i64 t161] rfl (by (try simp only [List.map_toArray, List.map_cons, List.map_nil]); first | done | rfl | (simp only [List.length_drop, List.length_take]; rfl)) ?_; (with_reducible refine (impl_TextBitGet.calls t163 t161 t178 _ A31.out).mono ?_); rintro e w' ⟨rfl, ⟨nd, rfl⟩⟩; refine ⟨_, rfl, ?_⟩) | (go_at_call 14; (with_reducible refine (impl_TextBitGet.calls t160 t161 t179 _ A33.out).mono ?_); rintro e w' ⟨rfl, ⟨nd, rfl⟩⟩) | (go_at_call 12; (with_reducible refine (impl_TextBitCount.calls kj24 t175 0 (-1) t180 _ A37.out).mono ?_); rintro e w48 ⟨rfl, hb⟩; have n0_ := Aside0.mk (below_step (by repeat (first | (with_reducible first | exact HB.out | apply below_alloc | apply pw_below_drewN | apply below_drew1) | exact HB.out)) hb); clear HB; have HB := n0_; clear n0_; (try clear hb); (try clear hb2); (try clear hk); (try clear hi)) | (go_at_call 12; (with_reducible refine (impl_TextBitCount.calls kj24 t160 0 (-1) t181 _ A38.out).mono ?_); rintro e w49 ⟨rfl, hb⟩; have n0_ := Aside0.mk (below_step (by repeat (first | (with_reducible first | exact HB.out | apply below_alloc | apply pw_below_drewN | apply below_drew1) | exact HB.out)) hb); clear HB; have HB := n0_; clear n0_; (try clear hb); (try clear hb2); (try clear hk); (try clear hi)))
                              go_ret
                              exact ⟨by first | rfl | (simp [errW_none, errW_some] <;> rfl) | (simp [*, errW_none, errW_some] <;> rfl), by repeat (first | (with_reducible first | exact HB.out | apply below_alloc | apply pw_below_drewN | apply below_drew1) | exact HB.out)⟩
                          · replace c36 := Bool.eq_false_iff.mpr c36
                            subst c36
                            have H1 : (some false) = some r := by rw [if_neg (show ¬ (false = true) by decide)] at H; exact H
                            clear H
                            have H := H1
                            clear H1
                            obtain rfl := Option.some.inj H
                            go_wp2_with (first | ((with_reducible refine gate_callee (f := 16) rfl ?_); refine goesL_ (some 115) rfl rfl Try.func16 (by kernel_rfl) rfl #[.string t163, .int .i64 t161, .int .i64 t164] rfl (by (try simp only [List.map_toArray, List.map_cons, List.map_nil]); first | done | rfl | (simp only [List.length_drop, List.length_take]; rfl)) ?_; (with_reducible refine (impl_TextBitPut.calls t163 t161 t164 t175 t176 false _ A30.out).mono ?_); rintro e w50 ⟨rfl, hb⟩; refine ⟨_, rfl, ?_⟩; have n0_ := Aside0.mk (below_step (by repeat (first | (with_reducible first | exact HB.out | apply below_alloc | apply pw_below_drewN | apply below_drew1) | exact HB.out)) hb); clear HB; have HB := n0_; clear n0_; (try clear hb); (try clear hb2); (try clear hk); (try clear hi)) | ((with_reducible refine gate_callee (f := 14) rfl ?_); refine goesL_ (some 121) rfl rfl Try.func14 (by kernel_rfl) rfl #[.string t163, .int .i64 t161] rfl (by (try simp only [List.map_toArray, List.map_cons, List.map_nil]); first | done | rfl | (simp only [List.length_drop, List.length_take]; rfl)) ?_; (with_reducible refine (impl_TextBitGet.calls t163 t161 t178 _ A31.out).mono ?_); rintro e w' ⟨rfl, ⟨nd, rfl⟩⟩; refine ⟨_, rfl, ?_⟩) | (go_at_call 14; (with_reducible refine (impl_TextBitGet.calls t160 t161 t179 _ A33.out).mono ?_); rintro e w' ⟨rfl, ⟨nd, rfl⟩⟩))
                            go_ret
                            exact ⟨by first | rfl | (simp [errW_none, errW_some] <;> rfl) | (simp [*, errW_none, errW_some] <;> rfl), by repeat (first | (with_reducible first | exact HB.out | apply below_alloc | apply pw_below_drewN | apply below_drew1) | exact HB.out)⟩
                        · rw [if_neg c35] at H
                          have c35b0 : (t176 == t162) = false := beq_eq_false_iff_ne.mpr c35
                          have c35b1 : (t176 != t162) = true := bne_iff_ne.mpr c35
                          obtain rfl := Option.some.inj H
                          go_wp2_with (first | ((with_reducible refine gate_callee (f := 16) rfl ?_); refine goesL_ (some 115) rfl rfl Try.func16 (by kernel_rfl) rfl #[.string t163, .int .i64 t161, .int .i64 t164] rfl (by (try simp only [List.map_toArray, List.map_cons, List.map_nil]); first | done | rfl | (simp only [List.length_drop, List.length_take]; rfl)) ?_; (with_reducible refine (impl_TextBitPut.calls t163 t161 t164 t175 t176 t177 _ A30.out).mono ?_); rintro e w51 ⟨rfl, hb⟩; refine ⟨_, rfl, ?_⟩; have n0_ := Aside0.mk (below_step (by repeat (first | (with_reducible first | exact HB.out | apply below_alloc | apply pw_below_drewN | apply below_drew1) | exact HB.out)) hb); clear HB; have HB := n0_; clear n0_; (try clear hb); (try clear hb2); (try clear hk); (try clear hi)) | ((with_reducible refine gate_callee (f := 14) rfl ?_); refine goesL_ (some 121) rfl rfl Try.func14 (by kernel_rfl) rfl #[.string t163, .int .i64 t161] rfl (by (try simp only [List.map_toArray, List.map_cons, List.map_nil]); first | done | rfl | (simp only [List.length_drop, List.length_take]; rfl)) ?_; (with_reducible refine (impl_TextBitGet.calls t163 t161 t178 _ A31.out).mono ?_); rintro e w' ⟨rfl, ⟨nd, rfl⟩⟩; refine ⟨_, rfl, ?_⟩) | (go_at_call 14; (with_reducible refine (impl_TextBitGet.calls t160 t161 t179 _ A33.out).mono ?_); rintro e w' ⟨rfl, ⟨nd, rfl⟩⟩))
                          go_ret
                          exact ⟨by first | rfl | (simp [errW_none, errW_some] <;> rfl) | (simp [*, errW_none, errW_some] <;> rfl), by repeat (first | (with_reducible first | exact HB.out | apply below_alloc | apply pw_below_drewN | apply below_drew1) | exact HB.out)⟩
                      · rw [if_neg c34] at H
                        have c34b0 : (t164 == t179) = false := beq_eq_false_iff_ne.mpr c34
                        have c34b1 : (t164 != t179) = true := bne_iff_ne.mpr c34
                        obtain rfl := Option.some.inj H
                        go_wp2_with (first | ((with_reducible refine gate_callee (f := 16) rfl ?_); refine goesL_ (some 115) rfl rfl Try.func16 (by kernel_rfl) rfl #[.string t163, .int .i64 t161, .int .i64 t164] rfl (by (try simp only [List.map_toArray, List.map_cons, List.map_nil]); first | done | rfl | (simp only [List.length_drop, List.length_take]; rfl)) ?_; (with_reducible refine (impl_TextBitPut.calls t163 t161 t164 t175 t176 t177 _ A30.out).mono ?_); rintro e w52 ⟨rfl, hb⟩; refine ⟨_, rfl, ?_⟩; have n0_ := Aside0.mk (below_step (by repeat (first | (with_reducible first | exact HB.out | apply below_alloc | apply pw_below_drewN | apply below_drew1) | exact HB.out)) hb); clear HB; have HB := n0_; clear n0_; (try clear hb); (try clear hb2); (try clear hk); (try clear hi)) | ((with_reducible refine gate_callee (f := 14) rfl ?_); refine goesL_ (some 121) rfl rfl Try.func14 (by kernel_rfl) rfl #[.string t163, .int .i64 t161] rfl (by (try simp only [List.map_toArray, List.map_cons, List.map_nil]); first | done | rfl | (simp only [List.length_drop, List.length_take]; rfl)) ?_; (with_reducible refine (impl_TextBitGet.calls t163 t161 t178 _ A31.out).mono ?_); rintro e w' ⟨rfl, ⟨nd, rfl⟩⟩; refine ⟨_, rfl, ?_⟩) | (go_at_call 14; (with_reducible refine (impl_TextBitGet.calls t160 t161 t179 _ A33.out).mono ?_); rintro e w' ⟨rfl, ⟨nd, rfl⟩⟩))
                        go_ret
                        exact ⟨by first | rfl | (simp [errW_none, errW_some] <;> rfl) | (simp [*, errW_none, errW_some] <;> rfl), by repeat (first | (with_reducible first | exact HB.out | apply below_alloc | apply pw_below_drewN | apply below_drew1) | exact HB.out)⟩
                    · rw [if_neg c32] at H
                      have c32b0 : (t178 == t162) = false := beq_eq_false_iff_ne.mpr c32
                      have c32b1 : (t178 != t162) = true := bne_iff_ne.mpr c32
                      obtain rfl := Option.some.inj H
                      go_wp2_with (first | ((with_reducible refine gate_callee (f := 16) rfl ?_); refine goesL_ (some 115) rfl rfl Try.func16 (by kernel_rfl) rfl #[.string t163, .int .i64 t161, .int .i64 t164] rfl (by (try simp only [List.map_toArray, List.map_cons, List.map_nil]); first | done | rfl | (simp only [List.length_drop, List.length_take]; rfl)) ?_; (with_reducible refine (impl_TextBitPut.calls t163 t161 t164 t175 t176 t177 _ A30.out).mono ?_); rintro e w53 ⟨rfl, hb⟩; refine ⟨_, rfl, ?_⟩; have n0_ := Aside0.mk (below_step (by repeat (first | (with_reducible first | exact HB.out | apply below_alloc | apply pw_below_drewN | apply below_drew1) | exact HB.out)) hb); clear HB; have HB := n0_; clear n0_; (try clear hb); (try clear hb2); (try clear hk); (try clear hi)) | ((with_reducible refine gate_callee (f := 14) rfl ?_); refine goesL_ (some 121) rfl rfl Try.func14 (by kernel_rfl) rfl #[.string t163, .int .i64 t161] rfl (by (try simp only [List.map_toArray, List.map_cons, List.map_nil]); first | done | rfl | (simp only [List.length_drop, List.length_take]; rfl)) ?_; (with_reducible refine (impl_TextBitGet.calls t163 t161 t178 _ A31.out).mono ?_); rintro e w' ⟨rfl, ⟨nd, rfl⟩⟩; refine ⟨_, rfl, ?_⟩))
                      go_ret
                      exact ⟨by first | rfl | (simp [errW_none, errW_some] <;> rfl) | (simp [*, errW_none, errW_some] <;> rfl), by repeat (first | (with_reducible first | exact HB.out | apply below_alloc | apply pw_below_drewN | apply below_drew1) | exact HB.out)⟩

end Go.Proofs.Ytpokafkkfdponaa.PFnTextBit
