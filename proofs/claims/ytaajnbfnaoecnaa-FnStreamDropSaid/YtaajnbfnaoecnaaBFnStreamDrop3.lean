/- Texts of this claim, packed: walks and laws that its row stands on. Each states its own conditions. -/
import Derived.Below
import Derived.ChangeArms
import Derived.ChangeOld
import Derived.ChangeSlices
import Derived.DataElems
import Derived.OpenShut
import Derived.ProofKit
import Derived.ShutString
import Derived.SizedLaws
import Derived.Test.YtaajnbfnaoecnaaBFnStreamDrop1
import Derived.Test.YtaajnbfnaoecnaaBFnStreamDrop2
namespace Go.Proofs.Ytaajnbfnaoecnaa.Am
open Go
set_option linter.unusedVariables false
def RawDel (P : Program) (f : FuncId) (sz : Nat) (zc : Array Value) : Prop :=
  ∀ (w : World) (b cap n i j : Nat), j = i + 1 → ∀ (cell : Nat → Value), (∀ q, q < cap * sz → w.cell? ⟨b, q, none⟩ = some (cell q) ∧ w.frozen? ⟨b, q, none⟩ = false) → (∀ q, q < n * sz → (cell q).oneCell' = true) → n ≤ cap → i < n →
    Calls P f #[.slice (some ⟨b, 0, none⟩) n cap, .int .i64 i, .int .i64 j] w fun e' w' => e' = .returned (.slice (some ⟨b, 0, none⟩) (n - 1) cap) ∧
      w' = (w.drew.setCells b (0 + i * sz) ((List.range ((n - j) * sz)).map fun t => cell (j * sz + t))).setCells b ((n - 1) * sz) zc.toList
def delR (rs : List (List T)) (i : Nat) (zr : List T) : List (List T) := rs.take i ++ rs.drop (i + 1) ++ [zr]
theorem delR_len (rs : List (List T)) {i : Nat} (zr : List T) (h : i < rs.length) : (delR rs i zr).length = rs.length := by simp [delR]; omega
theorem delR_lt (rs : List (List T)) {i k : Nat} (zr : List T) (h : i < rs.length) (hk : k < i) : (delR rs i zr)[k]? = rs[k]? := by
  unfold delR
  rw [List.append_assoc, List.getElem?_append_left (by simp; omega), List.getElem?_take_of_lt hk]
theorem delR_mid (rs : List (List T)) {i k : Nat} (zr : List T) (h : i < rs.length) (hk : i ≤ k) (h2 : k + 1 < rs.length) : (delR rs i zr)[k]? = rs[k + 1]? := by
  unfold delR
  rw [List.append_assoc, List.getElem?_append_right (by simp; omega), List.getElem?_append_left (by simp; omega), List.getElem?_drop]
  congr 1
  simp; omega
theorem delR_last (rs : List (List T)) {i : Nat} (zr : List T) (h : i < rs.length) : (delR rs i zr)[rs.length - 1]? = some zr := by
  unfold delR
  rw [List.getElem?_append_right (by simp; omega)]
  have : rs.length - 1 - (rs.take i ++ rs.drop (i + 1)).length = 0 := by simp; omega
  rw [this]; rfl
theorem SpecO_del {P : Program} {f : FuncId} {sz : Nat} {zc : Array Value} (raw : RawDel P f sz zc) (hsz : 0 < sz) (hzs : zc.size = sz) {zr : List T} (hzr : zr.length = sz) (hz : ∀ (w : World) (D : Dm) (q : Nat) (x : T) (v : Value), zr[q]? = some x → zc[q]? = some v → x.flat ∧ Rd w D x v)
    {rs : List (List T)} {i : Nat} (hi : i < rs.length) (hflat : ∀ r ∈ rs, ∀ x ∈ r, x.flat) :
    SpecO P f [.refw 9000, .t (.int .i64 i), .t (.int .i64 ((i + 1 : Nat) : Int))] [(9000, .rows sz rs)] (fun r h => r = .ref 9000 0 (rs.length - 1) ∧ h = [(9000, .rows sz (delR rs i zr))]) := by
  intro w D ρ col vs hh hv
  match vs, hv with
  | [v0, v1, v2], ⟨⟨sz', rs', g1, g2⟩, h1, h2, _⟩ =>
    cases h1
    cases h2
    have hk : hget [(9000, Blk.rows sz rs)] 9000 = some (.rows sz rs) := by simp [hget]
    have g1 : hget [(9000, Blk.rows sz rs)] 9000 = some (.rows sz' rs') := g1
    rw [hk] at g1
    cases g1
    rcases g2 with ⟨b, cap, e0, n0, hb, rfl, hcap, hsh, hcs⟩ | ⟨rfl, _⟩
    · obtain ⟨hrow, hrest⟩ := hh.blk 9000 _ hk
      rcases hrest with ⟨b', cells, e, fr, u, hb', hc, hf, hsz2, hu, how⟩ | ⟨rfl, _⟩
      · obtain rfl : b' = b := by
          have q1 : ρ 9000 = some b' := hb'
          have q2 : ρ 9000 = some b := hb
          rw [q2] at q1; exact (Option.some.inj q1).symm
        have hc' : w.heap[b']? = some (.cells cells e fr) := hc
        have hn0 : n0 = cells.size := by
          have : w.shape? b' = some (e0, n0) := hsh
          simp [World.shape?, hc'] at this
          exact this.2.symm
        subst hn0
        have hsize : rs.length * sz ≤ cells.size := hsz2
        refine (raw w b' cap rs.length i (i + 1) rfl (fun q => cells[q]!) (fun q hq => ?_) (fun q hq => ?_) hcap hi).mono ?_
        · have hq' : q < cells.size := by
            have h9 : cap * sz ≤ cells.size := hcs
            omega
          refine ⟨by simp [World.cell?, hc', hq', getElem!_pos], ?_⟩
          have hf' := hf
          unfold frOk at hf'
          simp only [World.frozen?, hc']
          by_cases hlt : fr.1 < fr.2
          · have := hf' hlt
            simp; omega
          · simp; omega
        · have hq2 : q < cells.size := by omega
          have hdiv : q / sz < rs.length := by rw [Nat.div_lt_iff_lt_mul hsz]; exact hq
          have hr : rs[q / sz]? = some rs[q / sz] := List.getElem?_eq_getElem hdiv
          have hmod : q % sz < rs[q / sz].length := by rw [hrow _ _ hr]; exact Nat.mod_lt _ hsz
          have hx : rs[q / sz][q % sz]? = some rs[q / sz][q % sz] := List.getElem?_eq_getElem hmod
          have h3 := hu _ _ _ _ hr hx
          rw [Nat.mul_comm, Nat.div_add_mod] at h3
          have h4 := (how _ _ _ _ hr hx).one
          have h5 : cells[q]! = u (q / sz) (q % sz) := by
            rw [getElem!_pos cells q hq2]
            rw [Array.getElem?_eq_getElem hq2] at h3
            exact Option.some.inj h3
          rw [h5]; exact h4
        rintro e' w' ⟨rfl, rfl⟩
        refine ⟨_, .ref 9000 0 (rs.length - 1), [(9000, .rows sz (delR rs i zr))], col, rfl, ⟨rfl, rfl⟩, ?_⟩
        obtain ⟨news, hnews⟩ : ∃ news, news = (List.range ((rs.length - (i + 1)) * sz)).map fun t => cells[(i + 1) * sz + t]! := ⟨_, rfl⟩
        rw [← hnews]
        have hnl : news.length = (rs.length - (i + 1)) * sz := by rw [hnews]; simp
        have hm1 : (rs.length - (i + 1)) * sz + (i + 1) * sz = rs.length * sz := by rw [← Nat.add_mul]; congr 1; omega
        have hm2 : (rs.length - 1) * sz + sz = rs.length * sz := by rw [← Nat.succ_mul]; congr 1; omega
        have hm3 : (i + 1) * sz = i * sz + sz := Nat.succ_mul i sz
        have hd : w.drew.heap[b']? = some (.cells cells e fr) := hc'
        obtain ⟨a1, a2, a3⟩ := setCells_row news (0 + i * sz) w.drew cells hd (by omega)
        obtain ⟨c1, c2, c3⟩ := setCells_row zc.toList ((rs.length - 1) * sz) (w.drew.setCells b' (0 + i * sz) news) _ a1 (by simp [repl_length]; omega)
        have only : ∀ k b1, ρ k = some b1 → b1 = b' := fun k b1 hk1 => by
          have h9 : hget [(9000, Blk.rows sz rs)] k ≠ none := fun h => by rw [hh.dom k h] at hk1; cases hk1
          have : k = 9000 := by
            simp only [hget] at h9
            split at h9
            · rename_i e; exact e.symm
            · exact absurd rfl h9
          subst this
          have hb2 : ρ 9000 = some b' := hb
          rw [hb2] at hk1; exact (Option.some.inj hk1).symm
        have szw : ((w.drew.setCells b' (0 + i * sz) news).setCells b' ((rs.length - 1) * sz) zc.toList).heap.size = w.heap.size := c3.trans a3
        refine ⟨c2.os.trans a2.os, c2.tape.trans a2.tape, c2.output.trans a2.output, by rw [szw]; exact Nat.le_refl _, fun b1 hb1 h8 _ => ?_, fun k b1 hk1 => ?_, fun b1 p hp => ⟨by rw [szw]; exact (hh.colb b1 p hp).1, .inr (.inr ⟨p, hp⟩)⟩, hh.sep, ⟨rfl, ⟨rfl, (delR_len rs zr hi).symm⟩, trivial⟩, fun k b1k hk1 => ?_, ?_⟩
        · have hne : some b1 ≠ some b' := fun h => h8 9000 (by rw [h]; exact hb)
          exact (c2.block b1 (by rw [a3]; exact hb1) hne).trans (a2.block b1 hb1 hne)
        · obtain rfl := only k b1 hk1
          unfold World.shape?
          rw [c1, hc']
          simp [repl_length]
        · have h9 : k = 9000 ∧ b1k = Blk.rows sz (delR rs i zr) := by
            simp only [hget] at hk1
            split at hk1
            · rename_i e9; exact ⟨e9.symm, (Option.some.inj hk1).symm⟩
            · cases hk1
          obtain ⟨rfl, rfl⟩ := h9
          have cases3 : ∀ (k : Nat) (r : List T), (delR rs i zr)[k]? = some r → (k < i ∧ rs[k]? = some r) ∨ (i ≤ k ∧ k + 1 < rs.length ∧ rs[k + 1]? = some r) ∨ (k = rs.length - 1 ∧ r = zr) := by
            intro k r hr
            have hkl := (List.getElem?_eq_some_iff.1 hr).1
            rw [delR_len rs zr hi] at hkl
            by_cases h1 : k < i
            · exact .inl ⟨h1, by rw [← delR_lt rs zr hi h1]; exact hr⟩
            · by_cases h2 : k + 1 < rs.length
              · exact .inr (.inl ⟨by omega, h2, by rw [← delR_mid rs zr hi (by omega) h2]; exact hr⟩)
              · have h3 : k = rs.length - 1 := by omega
                subst h3
                rw [delR_last rs zr hi] at hr
                exact .inr (.inr ⟨rfl, (Option.some.inj hr).symm⟩)
          refine ⟨fun k r hr => ?_, .inl ⟨b', _, e, fr, fun k q => if k < i then u k q else if k + 1 < rs.length then u (k + 1) q else zc[q]!, hb, c1, by simpa [repl_length] using hf, by simp only [delR_len rs zr hi]; simpa [repl_length] using hsize, fun k r q x hr hx => ?_, fun k r q x hr hx => ?_⟩⟩
          · rcases cases3 k r hr with ⟨_, h⟩ | ⟨_, _, h⟩ | ⟨_, rfl⟩
            · exact hrow _ _ h
            · exact hrow _ _ h
            · exact hzr
          · have hq : q < sz := by
              have := (List.getElem?_eq_some_iff.1 hx).1
              rcases cases3 k r hr with ⟨_, h⟩ | ⟨_, _, h⟩ | ⟨_, rfl⟩
              · rwa [hrow _ _ h] at this
              · rwa [hrow _ _ h] at this
              · rwa [hzr] at this
            show (repl ((rs.length - 1) * sz) zc.toList _).toArray[k * sz + q]? = _
            simp only [List.getElem?_toArray]
            rw [repl_get _ _ _ _ (by simp [repl_length]; omega), repl_get _ _ _ _ (by simp; omega)]
            simp only [Array.length_toList, hzs, hnl]
            rcases cases3 k r hr with ⟨h1, h⟩ | ⟨h1, h2, h⟩ | ⟨h1, rfl⟩
            · have m1 : (k + 1) * sz ≤ i * sz := Nat.mul_le_mul_right _ h1
              have m2 : i * sz ≤ (rs.length - 1) * sz := Nat.mul_le_mul_right _ (by omega)
              have m3 : (k + 1) * sz = k * sz + sz := Nat.succ_mul k sz
              rw [if_neg (by omega), if_neg (by omega), if_pos h1]
              simpa using hu _ _ _ _ h hx
            · have m1 : (k + 1) * sz ≤ (rs.length - 1) * sz := Nat.mul_le_mul_right _ (by omega)
              have m2 : i * sz ≤ k * sz := Nat.mul_le_mul_right _ h1
              have m3 : (k + 1) * sz = k * sz + sz := Nat.succ_mul k sz
              have m4 : (rs.length - (i + 1)) * sz + (i * sz) = (rs.length - 1) * sz := by rw [← Nat.add_mul]; congr 1; omega
              rw [if_neg (by omega), if_pos (by omega), if_neg (by omega), if_pos h2, hnews, List.getElem?_map, List.getElem?_range (by omega)]
              have m5 : (i + 1) * sz + (k * sz + q - (0 + i * sz)) = (k + 1) * sz + q := by omega
              have h3 := hu _ _ _ _ h hx
              simp only [Option.map_some, m5]
              have h4 := (Array.getElem?_eq_some_iff.1 h3)
              obtain ⟨h5, h6⟩ := h4
              rw [getElem!_pos cells _ h5, h6]
            · subst h1
              rw [if_pos (by omega), if_neg (by omega), if_neg (by omega)]
              have m5 : (rs.length - 1) * sz + q - (rs.length - 1) * sz = q := by omega
              rw [m5, getElem!_pos zc q (by omega)]
              simp [hzs, hq]
          · have blk' : ∀ b1, D b1 → ((w.drew.setCells b' (0 + i * sz) news).setCells b' ((rs.length - 1) * sz) zc.toList).heap[b1]? = w.heap[b1]? := fun b1 h1 => by
              obtain ⟨d1, d2, d3⟩ := hh.dis b1 h1
              have hne : some b1 ≠ some b' := fun h => d3 9000 (by rw [h]; exact hb)
              exact (c2.block b1 (by rw [a3]; exact d1) hne).trans (a2.block b1 d1 hne)
            have dp' : ∀ b1, D b1 → (oCx w D ρ ((w.drew.setCells b' (0 + i * sz) news).setCells b' ((rs.length - 1) * sz) zc.toList) col [(9000, .rows sz (delR rs i zr))]).Dp b1 := fun b1 h1 => by
              obtain ⟨d1, d2, d3⟩ := hh.dis b1 h1
              exact ⟨by rw [szw]; exact d1, .inl h1, d2, d3⟩
            show Own _ _ _ x (if k < i then u k q else if k + 1 < rs.length then u (k + 1) q else zc[q]!)
            rcases cases3 k r hr with ⟨h1, h⟩ | ⟨h1, h2, h⟩ | ⟨h1, rfl⟩
            · have hf := hflat _ (List.mem_of_getElem? h) _ (List.mem_of_getElem? hx)
              rw [if_pos h1]
              exact .rd _ _ _ hf ((Own.flat (how _ _ _ _ h hx) hf).mono blk' dp')
            · have hf := hflat _ (List.mem_of_getElem? h) _ (List.mem_of_getElem? hx)
              rw [if_neg (by omega), if_pos h2]
              exact .rd _ _ _ hf ((Own.flat (how _ _ _ _ h hx) hf).mono blk' dp')
            · have hq : q < sz := by
                have := (List.getElem?_eq_some_iff.1 hx).1
                rwa [hzr] at this
              rw [if_neg (by omega), if_neg (by omega)]
              obtain ⟨hf, hrd⟩ := hz ((w.drew.setCells b' (0 + i * sz) news).setCells b' ((rs.length - 1) * sz) zc.toList) _ q x zc[q]! hx (by rw [getElem!_pos zc q (by omega)]; exact Array.getElem?_eq_getElem _)
              exact .rd _ _ _ hf hrd
        · show AVr _ (.ref 9000 0 (rs.length - 1)) _
          exact ⟨sz, delR rs i zr, by simp [oCx, hget], by rw [delR_len rs zr hi]; omega, .inl ⟨b', cap, hb, by rw [Nat.zero_mul], by omega⟩⟩
      · simp at hi
    · simp at hi
end Go.Proofs.Ytaajnbfnaoecnaa.Am
namespace Go.Proofs.Ytaajnbfnaoecnaa.Am
open Go
set_option maxRecDepth 100000
set_option maxHeartbeats 400000
set_option linter.unusedSimpArgs false
set_option linter.unusedVariables false
theorem zero_Item : (Try.prog.info? 60).map (fun i => (i.zero, i.size)) = some (some (.agg #[.int .i64 0, .int .i64 0, .slice none 0 0]), 3) := by kernel_rfl
theorem rawDel_Item : RawDel Try.prog 33 3 #[.int .i64 0, .int .i64 0, .slice none 0 0] := by
  obtain ⟨i0, hi0, hz⟩ := Option.map_eq_some_iff.1 zero_Item
  simp only [Prod.mk.injEq] at hz
  obtain ⟨hz0, hz1⟩ := hz
  intro w b cap n i j hj cell hc ho hcap hi
  exact raw_DelIt w b cap n i j hj i0 hi0 hz1 _ (fun w => by simp [zeroValue, typeInfo, hi0, hz0]) rfl (by simp [Value.oneCell']) cell hc ho hcap hi
abbrev itZ : List T := [.int .i64 0, .int .i64 0, .list false 2 []]
theorem p_DelIt : Plain Try.prog 33 := ⟨_, Try.func33, rfl, by decide⟩
theorem It.row_flat (l : List It) : ∀ r ∈ l.map It.row, ∀ x ∈ r, x.flat := by
  intro r hr x hx
  obtain ⟨y, _, rfl⟩ := List.mem_map.1 hr
  simp only [It.row, List.mem_cons, List.not_mem_nil, or_false] at hx
  rcases hx with rfl | rfl | rfl <;> simp [T.flat]
theorem s_DelIt (l : List It) (i : Nat) (hi : i < l.length) : SpecO Try.prog 33 [.refw 9000, .t (.int .i64 i), .t (.int .i64 ((i + 1 : Nat) : Int))] [(9000, .rows 3 (l.map It.row))] (fun r h => r = .ref 9000 0 (l.length - 1) ∧ h = [(9000, .rows 3 (delR (l.map It.row) i itZ))]) := by
  have h := SpecO_del rawDel_Item (by omega) rfl (zr := itZ) rfl (fun w D q x v h1 h2 => by
    match q, h1, h2 with
    | 0, h1, h2 => cases h1; cases h2; exact ⟨trivial, .int _ _⟩
    | 1, h1, h2 => cases h1; cases h2; exact ⟨trivial, .int _ _⟩
    | 2, h1, h2 => cases h1; cases h2; exact ⟨trivial, .nil ..⟩
    | q + 3, h1, h2 => simp at h1) (rs := l.map It.row) (i := i) (by simpa using hi) (It.row_flat l)
  simpa using h
theorem p_StreamDrop : Plain Try.prog 7 := ⟨_, Try.func7, rfl, by decide⟩
theorem s_StreamDrop (s : Stm) (x : Idt) (hs : s.md) (hw : ∀ g ∈ s.groups, g.waits.length < 2000000) : Spec Try.prog 7 [s.av, x.av] (fun r => r = dropR (dropM s x)) := by
  have hsm := hs.sm.1
  have hs1 := hs.1
  refine Spec.of tysOk mixed Try.func7 rfl (by decide) ?_
  simp -implicitDefEqProofs only [go_sem, Try.f7]
  refine CallW.one (s_StreamOk s hsm hw) p_StreamOk (by first | (simp -implicitDefEqProofs only [go_sem]; done) | ((conv => lhs; simp -implicitDefEqProofs only [go_sem]); done) | (simp -implicitDefEqProofs only [go_sem]; rfl) | rfl) (by first | trivial | (simp [DeepR, DeepV, DeepVs, DeepC, DeepCs, T.scal]; done)) ?_
  simp -implicitDefEqProofs only [go_sem]
  cases hok : streamOkM s
  · simp -implicitDefEqProofs only [go_sem]
    rw [dropM_bad hok]
    try simp
  simp -implicitDefEqProofs only [go_sem]
  refine CallW.onep (s_cloneStream s hs) p_cloneStream (by first | (simp -implicitDefEqProofs only [go_sem]; done) | ((conv => lhs; simp -implicitDefEqProofs only [go_sem]); done) | (simp -implicitDefEqProofs only [go_sem]; rfl) | rfl) rfl ?_
  simp -implicitDefEqProofs only [go_sem]
  refine CallW.one (s_item s x hs1) p_item (by first | (simp -implicitDefEqProofs only [go_sem]; done) | ((conv => lhs; simp -implicitDefEqProofs only [go_sem]); done) | (simp -implicitDefEqProofs only [go_sem]; rfl) | rfl) (by first | trivial | (simp [DeepR, DeepV, DeepVs, DeepC, DeepCs, T.scal]; done)) ?_
  simp -implicitDefEqProofs only [go_sem]
  cases hg : itIx s.items x with
  | none =>
    simp -implicitDefEqProofs only [go_sem, ixI]
    rw [dropM_none hok hg]
    try simp
  | some n =>
    have hn := itIx_lt hg
    have hn0 : ¬ ((n : Nat) : Int) < 0 := by omega
    simp -implicitDefEqProofs only [go_sem, ixI, hn0, decide_false]
    have wn : IntKind.i64.wrap ((n : Int) + 1) = ((n + 1 : Nat) : Int) := by rw [wrap64 (by omega) (by omega)]; omega
    simp -implicitDefEqProofs only [go_sem, wn]
    refine CallW.fz [100105] (by (conv => lhs; simp -implicitDefEqProofs only [go_sem, shared_It]) <;> rfl) ?_
    refine CallW.o [(9000, 105)] (s_DelIt s.items n hn) p_DelIt o33 rfl (by (conv => lhs; simp -implicitDefEqProofs only [go_sem]) <;> rfl) (by (simp -implicitDefEqProofs only [go_sem]) <;> rfl) ?_
    rintro _ _ ⟨rfl, rfl⟩
    simp -implicitDefEqProofs only [go_sem]
    have hl1 : s.items.length - 1 ≤ (delR (s.items.map It.row) n itZ).length := by rw [delR_len _ _ (by simpa using hn)]; simp
    have e1 : (delR (s.items.map It.row) n itZ).take (s.items.length - 1) = (s.items.take n ++ s.items.drop (n + 1)).map It.row := by
      unfold delR
      rw [List.take_append_of_le_length (by simp; omega), List.take_of_length_le (by simp; omega), List.map_append, List.map_take, List.map_drop]
    have hm : ∀ y ∈ s.items.take n ++ s.items.drop (n + 1), y.fields.length ≤ 2097152 := fun y hy => by
      have := hs.2.2.1 y (by
        rcases List.mem_append.1 hy with h | h
        · exact List.mem_of_mem_take h
        · exact List.mem_of_mem_drop h)
      omega
    refine CallW.one (s_cloneItems (s.items.take n ++ s.items.drop (n + 1)) (by simp; omega) hm) p_cloneItems (by first | (simp -implicitDefEqProofs only [go_sem, e1, hl1, Nat.zero_add, Nat.zero_le, List.drop_zero]; done) | ((conv => lhs; simp -implicitDefEqProofs only [go_sem, e1, hl1, Nat.zero_add, Nat.zero_le, List.drop_zero]); done) | (simp -implicitDefEqProofs only [go_sem, e1, hl1, Nat.zero_add, Nat.zero_le, List.drop_zero]; rfl) | rfl) (deep_its _) ?_
    simp -implicitDefEqProofs only [go_sem]
    rw [dropM_some hok hg]
end Go.Proofs.Ytaajnbfnaoecnaa.Am
namespace Go.Proofs.Ytaajnbfnaoecnaa.Am
open Go
set_option linter.unusedVariables false
set_option linter.unusedSimpArgs false
theorem itLink_tr (a b c : It) (h : itLink a b = true) (h' : itLink b c = true) : itLink a c = true := ltM_trans h h'
theorem allAt_cut {α : Type} {good : α → Bool} {link : α → α → Bool} (tr : ∀ a b c, link a b = true → link b c = true → link a c = true) : ∀ {l : List α} (i : Nat), allAt good link l = true → allAt good link (l.take i ++ l.drop (i + 1)) = true
  | [], i, h => by simpa using h
  | x :: l, 0, h => by
    obtain ⟨h1, h2, h3⟩ := allAt_head tr h
    simpa using h3
  | x :: l, i + 1, h => by
    obtain ⟨h1, h2, h3⟩ := allAt_head tr h
    rw [List.take_succ_cons, List.drop_succ_cons, List.cons_append]
    exact allAt_cons_of h1 (fun y hy => h2 y (by
      rcases List.mem_append.1 hy with h | h
      · exact List.mem_of_mem_take h
      · exact List.mem_of_mem_drop h)) (allAt_cut tr i h3)
theorem cutOk {s : Stm} (hok : streamOkM s = true) (i : Nat) : streamOkM ⟨s.last, s.items.take i ++ s.items.drop (i + 1), s.groups⟩ = true := by
  unfold streamOkM at hok ⊢
  simp only [Bool.and_eq_true, decide_eq_true_eq] at hok ⊢
  obtain ⟨⟨⟨⟨h0, h1⟩, h2⟩, h3⟩, h4⟩ := hok
  exact ⟨⟨⟨⟨h0, by simp only [List.length_append, List.length_take, List.length_drop]; omega⟩, h2⟩, allAt_cut itLink_tr i h3⟩, h4⟩
theorem rstep_none (x : Idt) (c : Int) : ∀ (xs acc : List It), (∀ y ∈ xs, y.id ≠ x) → xs.foldl (rstep x x c) acc = acc
  | [], acc, _ => rfl
  | y :: xs, acc, h => by
    have e : rstep x x c acc y = acc := if_neg (by
      rintro ⟨_, a, b⟩
      refine h y (by simp) ?_
      have a' : ¬ ltM y.id x = true := by simp [a]
      have b' : ¬ ltM x y.id = true := by simp [b]
      rw [ltM_iff] at a' b'
      ext <;> omega)
    rw [List.foldl_cons, e]
    exact rstep_none x c xs acc fun z hz => h z (by simp [hz])
theorem rangeM_none (s : Stm) (x : Idt) (c : Int) (h : ∀ y ∈ s.items, y.id ≠ x) : rangeM s x x c = [] := by
  unfold rangeM
  split
  · exact rstep_none x c _ _ h
  · rfl
theorem itIx_no {l : List It} {x : Idt} (h : itIx l x = none) : ∀ y ∈ l, y.id ≠ x := fun y hy => by
  have := List.findIdx?_eq_none_iff.1 h y hy
  simpa using this
theorem itIx_at {l : List It} {x : Idt} {i : Nat} (h : itIx l x = some i) : ∃ hh : i < l.length, l[i].id = x := by
  obtain ⟨hh, h1, _⟩ := List.findIdx?_eq_some_iff_getElem.1 h
  exact ⟨hh, by simpa using h1⟩
theorem cut_no {s : Stm} (hok : streamOkM s = true) {x : Idt} {i : Nat} (h : itIx s.items x = some i) : ∀ y ∈ s.items.take i ++ s.items.drop (i + 1), y.id ≠ x := by
  obtain ⟨hi, hx⟩ := itIx_at h
  intro y hy e
  have irr : ∀ a : Idt, ¬ ltM a a = true := fun a => by rw [ltM_iff]; omega
  rcases List.mem_append.1 hy with h1 | h1
  · obtain ⟨j, hj, rfl⟩ := List.mem_iff_getElem.1 h1
    have hj' : j < i := by simp at hj; omega
    have := streamOkM_before hok j i hi hj'
    simp only [List.getElem_take] at e
    rw [e, hx] at this
    exact irr _ this
  · obtain ⟨j, hj, rfl⟩ := List.mem_iff_getElem.1 h1
    simp only [List.getElem_drop] at e
    have hj' : i + 1 + j < s.items.length := by simp at hj; omega
    have := streamOkM_before hok i (i + 1 + j) hj' (by omega)
    rw [e, hx] at this
    exact irr _ this
end Go.Proofs.Ytaajnbfnaoecnaa.Am
namespace Go.Proofs.Ytaajnbfnaoecnaa.Am
open Go
set_option maxRecDepth 100000
set_option maxHeartbeats 400000
set_option linter.unusedSimpArgs false
set_option linter.unusedVariables false
theorem dropR_share (s : Stm) (x : Idt) (r : AV) (h : r = dropR (dropM s x) ∨ r = .tup [(dropM s x).1.avS, Bo (dropM s x).2]) : shareR r = .tup [(dropM s x).1.av, Bo (dropM s x).2] := by
  rcases h with rfl | rfl
  · simp only [dropR, shareR, shareVs, shareV, shareCs, shareC, T.mk_list, It.mkO_rows, Gr.mkO_rows]
  · simp only [shareR, shareVs, shareV, shareCs, shareC, T.mk_list, It.mk_rows, Gr.mkO_rows]
end Go.Proofs.Ytaajnbfnaoecnaa.Am
namespace Go.Proofs.Ytaajnbfnaoecnaa.Am
open Go
set_option maxRecDepth 100000
set_option maxHeartbeats 1000000
set_option linter.unusedSimpArgs false
set_option linter.unusedVariables false
theorem p_qxFields : Plain Try.prog 65 := ⟨_, Try.func65, rfl, by decide⟩
theorem s_qxFields (xs ys : List Pr) (hx : xs.length < 4611686018427387904) : Spec Try.prog 65 [.t (.list false 2 (xs.map Pr.row)), .t (.list false 2 (ys.map Pr.row))] (fun r => r = Bo (decide (xs = ys))) := by
  refine Spec.of tysOk mixed Try.func65 rfl (by decide) ?_
  simp -implicitDefEqProofs only [go_sem, Try.f65]
  refine BrA_i (fun h => ?_) (fun h => ?_) <;> simp -implicitDefEqProofs only [go_sem]
  · have hl : xs.length = ys.length := by have := of_decide_eq_true h; omega
    refine LoopW.slotsM [true, true, false, false, false, true, false, false, false, false, false, false, false, false, false, false, false, false, false, false, false, false, false, false, false, false] (α := Nat) (fun i => [(5, I i)]) (fun _ => []) (fun i => xs.length - i) (fun i => i ≤ xs.length ∧ ∀ j (h : j < xs.length), j < i → xs[j] = ys[j]) 0 (by simp -implicitDefEqProofs only [go_sem, LeTs_undef, LeTs_same, LeTs_nil]; try simp [LeTs]) rfl (by simp) ?_
    rintro i ⟨hi, hz⟩
    simp -implicitDefEqProofs only [go_sem]
    refine BrA_i (fun h => ?_) (fun h => ?_) <;> simp -implicitDefEqProofs only [go_sem]
    · have h : i < xs.length := by simp at h; omega
      have h' : i < ys.length := by omega
      have h0i : (0 : Int) ≤ i := by omega
      have h1i : (i : Int) < xs.length := by omega
      have h2i : (i : Int) < ys.length := by omega
      have wi : IntKind.i64.wrap ((i : Int) + 1) = ((i + 1 : Nat) : Int) := by rw [wrap64 (by omega) (by omega)]; omega
      have r1 := row_getD Pr.row xs h
      have r2 := row_getD Pr.row ys h'
      try simp only [Pr.row] at r1 r2
      refine RegD_of sch_65_6 tysOk (by kernel_rfl) ?_
      simp -implicitDefEqProofs only [go_sem, h0i, h1i, h2i, r1, r2, h, h']
      refine BrA_i (fun he => ?_) (fun he => ?_) <;> simp -implicitDefEqProofs only [go_sem, wi]
      · have he' : xs[i] = ys[i] := by
          simp only [Bool.and_eq_true, decide_eq_true_eq] at he; exact Pr.ext he.1 he.2
        refine .to [] (i + 1) rfl ?_ ?_ (by omega) ⟨h, fun j hj hl => ?_⟩ <;> (try simp -implicitDefEqProofs only [go_sem, LeTs_undef, LeTs_same, LeTs_nil])
        rcases Nat.lt_succ_iff_lt_or_eq.1 hl with hl | rfl
        · exact hz j hj hl
        · exact he'
      · have : xs ≠ ys := fun e => by subst e; simp at he
        simp [this]
    · have : xs = ys := List.ext_getElem hl fun j h1 h2 => hz j h1 (by simp at h; omega)
      simp [this]
  · have : xs ≠ ys := fun e => by subst e; simp at h
    simp [this]
theorem p_qxWaits : Plain Try.prog 23 := ⟨_, Try.func23, rfl, by decide⟩
theorem s_qxWaits (xs ys : List Wt) (hx : xs.length < 4611686018427387904) : Spec Try.prog 23 [.t (.list false 5 (xs.map Wt.row)), .t (.list false 5 (ys.map Wt.row))] (fun r => r = Bo (decide (xs = ys))) := by
  refine Spec.of tysOk mixed Try.func23 rfl (by decide) ?_
  simp -implicitDefEqProofs only [go_sem, Try.f23]
  refine BrA_i (fun h => ?_) (fun h => ?_) <;> simp -implicitDefEqProofs only [go_sem]
  · have hl : xs.length = ys.length := by have := of_decide_eq_true h; omega
    refine LoopW.slotsM [true, true, false, false, false, true, false, false, false, false, false, false, false, false, false, false, false, false, false, false, false, false, false, false, false, false] (α := Nat) (fun i => [(5, I i)]) (fun _ => []) (fun i => xs.length - i) (fun i => i ≤ xs.length ∧ ∀ j (h : j < xs.length), j < i → xs[j] = ys[j]) 0 (by simp -implicitDefEqProofs only [go_sem, LeTs_undef, LeTs_same, LeTs_nil]; try simp [LeTs]) rfl (by simp) ?_
    rintro i ⟨hi, hz⟩
    simp -implicitDefEqProofs only [go_sem]
    refine BrA_i (fun h => ?_) (fun h => ?_) <;> simp -implicitDefEqProofs only [go_sem]
    · have h : i < xs.length := by simp at h; omega
      have h' : i < ys.length := by omega
      have h0i : (0 : Int) ≤ i := by omega
      have h1i : (i : Int) < xs.length := by omega
      have h2i : (i : Int) < ys.length := by omega
      have wi : IntKind.i64.wrap ((i : Int) + 1) = ((i + 1 : Nat) : Int) := by rw [wrap64 (by omega) (by omega)]; omega
      have r1 := row_getD Wt.row xs h
      have r2 := row_getD Wt.row ys h'
      try simp only [Wt.row] at r1 r2
      refine RegD_of sch_23_6 tysOk (by kernel_rfl) ?_
      simp -implicitDefEqProofs only [go_sem, h0i, h1i, h2i, r1, r2, h, h']
      refine BrA_i (fun he => ?_) (fun he => ?_) <;> simp -implicitDefEqProofs only [go_sem, wi]
      · have he' : xs[i] = ys[i] := by
          simp only [Bool.and_eq_true, decide_eq_true_eq] at he; exact Wt.ext (Idt.ext (by simp [he]) (by simp [he])) (by simp [he]) (by simp [he]) (by simp [he])
        refine .to [] (i + 1) rfl ?_ ?_ (by omega) ⟨h, fun j hj hl => ?_⟩ <;> (try simp -implicitDefEqProofs only [go_sem, LeTs_undef, LeTs_same, LeTs_nil])
        rcases Nat.lt_succ_iff_lt_or_eq.1 hl with hl | rfl
        · exact hz j hj hl
        · exact he'
      · have : xs ≠ ys := fun e => by subst e; simp at he
        simp [this]
    · have : xs = ys := List.ext_getElem hl fun j h1 h2 => hz j h1 (by simp at h; omega)
      simp [this]
  · have : xs ≠ ys := fun e => by subst e; simp at h
    simp [this]
theorem p_qxItems : Plain Try.prog 26 := ⟨_, Try.func26, rfl, by decide⟩
theorem s_qxItems (xs ys : List It) (hx : xs.length < 4611686018427387904) (hs : ∀ x ∈ xs, x.sm) : Spec Try.prog 26 [.t (.list false 3 (xs.map It.row)), .t (.list false 3 (ys.map It.row))] (fun r => r = Bo (decide (xs = ys))) := by
  refine Spec.of tysOk mixed Try.func26 rfl (by decide) ?_
  simp -implicitDefEqProofs only [go_sem, Try.f26]
  refine BrA_i (fun h => ?_) (fun h => ?_) <;> simp -implicitDefEqProofs only [go_sem]
  · have hl : xs.length = ys.length := by have := of_decide_eq_true h; omega
    refine LoopW.slotsM [true, true, false, false, false, true, false, false, false, false, false, false, false, false, false, false, false, false, false, false, false, false, false, false, false, false, false, false, false, false, false, false, false, false, false, false, false, false, false, false, false, false] (α := Nat) (fun i => [(5, I i)]) (fun _ => []) (fun i => xs.length - i) (fun i => i ≤ xs.length ∧ ∀ j (h : j < xs.length), j < i → xs[j] = ys[j]) 0 (by simp -implicitDefEqProofs only [go_sem, LeTs_undef, LeTs_same, LeTs_nil]; try simp [LeTs]) rfl (by simp) ?_
    rintro i ⟨hi, hz⟩
    simp -implicitDefEqProofs only [go_sem]
    refine BrA_i (fun h => ?_) (fun h => ?_) <;> simp -implicitDefEqProofs only [go_sem]
    · have h : i < xs.length := by simp at h; omega
      have h' : i < ys.length := by omega
      have h0i : (0 : Int) ≤ i := by omega
      have h1i : (i : Int) < xs.length := by omega
      have h2i : (i : Int) < ys.length := by omega
      have wi : IntKind.i64.wrap ((i : Int) + 1) = ((i + 1 : Nat) : Int) := by rw [wrap64 (by omega) (by omega)]; omega
      have r1 := row_getD It.row xs h
      have r2 := row_getD It.row ys h'
      simp only [It.row] at r1 r2
      have hsx : (xs[i]).fields.length < 4611686018427387904 := hs _ (List.getElem_mem h)
      (try refine RegD_of sch_26_6 tysOk (by kernel_rfl) ?_)
      simp -implicitDefEqProofs only [go_sem, h0i, h1i, h2i, r1, r2, h, h']
      refine BrA_i (fun he => ?_) (fun he => ?_) <;> simp -implicitDefEqProofs only [go_sem, h0i, h1i, h2i, r1, r2, h, h']
      · simp only [Bool.and_eq_true, decide_eq_true_eq] at he
        refine CallW.one (s_qxFields xs[i].fields ys[i].fields hsx) p_qxFields (by first | (simp -implicitDefEqProofs only [go_sem]; done) | ((conv => lhs; simp -implicitDefEqProofs only [go_sem]); done) | (simp -implicitDefEqProofs only [go_sem]; rfl) | rfl) (by first | trivial | (simp [DeepR, DeepV, DeepVs, DeepC, DeepCs, T.scal]; done)) ?_
        simp -implicitDefEqProofs only [go_sem]
        refine BrA_i (fun hf => ?_) (fun hf => ?_) <;> simp -implicitDefEqProofs only [go_sem, wi]
        · have hf := of_decide_eq_true hf
          have he' : xs[i] = ys[i] := It.ext (Idt.ext he.1 he.2) hf
          refine .to [313, 314, 315] (i + 1) rfl ?_ ?_ (by omega) ⟨h, fun j hj hl => ?_⟩ <;> (try simp -implicitDefEqProofs only [go_sem, LeTs_undef, LeTs_same, LeTs_nil])
          rcases Nat.lt_succ_iff_lt_or_eq.1 hl with hl | rfl
          · exact hz j hj hl
          · exact he'
        · have : xs ≠ ys := fun e => by subst e; simp at hf
          simp [this]
      · have : xs ≠ ys := fun e => by subst e; simp at he
        simp [this]
    · have : xs = ys := List.ext_getElem hl fun j h1 h2 => hz j h1 (by simp at h; omega)
      simp [this]
  · have : xs ≠ ys := fun e => by subst e; simp at h
    simp [this]
theorem p_qxStream : Plain Try.prog 9 := ⟨_, Try.func9, rfl, by decide⟩
theorem s_qxStream (x y : Stm) (hx : x.sm) : Spec Try.prog 9 [x.av, y.av] (fun r => r = Bo (decide (x = y))) := by
  obtain ⟨x1, x2, x3, x4⟩ := hx
  refine Spec.of tysOk mixed Try.func9 rfl (by decide) ?_
  simp -implicitDefEqProofs only [go_sem, Try.f9]
  refine BrA_i (fun h1 => ?_) (fun h1 => ?_) <;> simp -implicitDefEqProofs only [go_sem, h1]
  · refine CallW.one (s_qxItems x.items y.items x1 x3) p_qxItems (by first | (simp -implicitDefEqProofs only [go_sem]; done) | ((conv => lhs; simp -implicitDefEqProofs only [go_sem]); done) | (simp -implicitDefEqProofs only [go_sem]; rfl) | rfl) (by first | trivial | (simp [DeepR, DeepV, DeepVs, DeepC, DeepCs, T.scal]; done)) ?_
    simp -implicitDefEqProofs only [go_sem, h1]
    refine BrA_i (fun h2 => ?_) (fun h2 => ?_) <;> simp -implicitDefEqProofs only [go_sem, h1, h2]
    · refine BrA_i (fun h3 => ?_) (fun h3 => ?_) <;> simp -implicitDefEqProofs only [go_sem, h1, h2, h3]
      · have hl : x.groups.length = y.groups.length := by have := of_decide_eq_true h3; omega
        refine LoopW.slotsM [false, false, true, true, false, true, false, false, false, false, false, false, false, false, false, false, false, false, false, false, false, false, false, false, false, false, false, false, false, false, false, false, false, false, false, false, false, false, false, false, false, false, false, false, false, false, false, false, false, false, false, false, false, false, false, false, false, false, false, false, false, false, false, false, false, false, false, false, false, false, false, false, false, false, false, false, false, false, false] (α := Nat) (fun i => [(5, I i)]) (fun _ => []) (fun i => x.groups.length - i) (fun i => i ≤ x.groups.length ∧ ∀ j (h : j < x.groups.length), j < i → x.groups[j] = y.groups[j]) 0 (by simp -implicitDefEqProofs only [go_sem, LeTs_undef, LeTs_same, LeTs_nil]; try simp [LeTs]) rfl (by simp) ?_
        rintro i ⟨hi, hz⟩
        simp -implicitDefEqProofs only [go_sem]
        refine BrA_i (fun h => ?_) (fun h => ?_) <;> simp -implicitDefEqProofs only [go_sem]
        · have h : i < x.groups.length := by simp at h; omega
          have h' : i < y.groups.length := by omega
          have h0i : (0 : Int) ≤ i := by omega
          have h1i : (i : Int) < x.groups.length := by omega
          have h2i : (i : Int) < y.groups.length := by omega
          have wi : IntKind.i64.wrap ((i : Int) + 1) = ((i + 1 : Nat) : Int) := by rw [wrap64 (by omega) (by omega)]; omega
          have r1 := row_getD Gr.row x.groups h
          have r2 := row_getD Gr.row y.groups h'
          simp only [Gr.row] at r1 r2
          have hsx : (x.groups[i]).waits.length < 4611686018427387904 := x4 _ (List.getElem_mem h)
          have no : ∀ (e : x.groups[i] = y.groups[i] → False), AV.t (T.bool false) = Bo (decide (x = y)) := fun e => by
            have : x ≠ y := fun e' => e (by subst e'; rfl)
            simp [this]
          refine RegD_of sch_9_6 tysOk (by kernel_rfl) ?_
          simp -implicitDefEqProofs only [go_sem, h0i, h1i, h2i, r1, r2, h, h']
          refine BrA_i (fun he => ?_) (fun he => ?_) <;> simp -implicitDefEqProofs only [go_sem, h0i, h1i, h2i, r1, r2, h, h', he]
          · refine BrA_i (fun hf => ?_) (fun hf => ?_) <;> simp -implicitDefEqProofs only [go_sem, h0i, h1i, h2i, r1, r2, h, h', he, hf]
            · refine CallW.one (s_qxWaits x.groups[i].waits y.groups[i].waits hsx) p_qxWaits (by first | (simp -implicitDefEqProofs only [go_sem]; done) | ((conv => lhs; simp -implicitDefEqProofs only [go_sem]); done) | (simp -implicitDefEqProofs only [go_sem]; rfl) | rfl) (by first | trivial | (simp [DeepR, DeepV, DeepVs, DeepC, DeepCs, T.scal]; done)) ?_
              simp -implicitDefEqProofs only [go_sem, he, hf]
              refine BrA_i (fun hg => ?_) (fun hg => ?_) <;> simp -implicitDefEqProofs only [go_sem, wi]
              · simp only [Bool.and_eq_true, decide_eq_true_eq] at he hf hg
                have he' : x.groups[i] = y.groups[i] := Gr.ext he (Idt.ext hf.1 hf.2) hg
                refine .to [609, 610, 611] (i + 1) rfl ?_ ?_ (by omega) ⟨h, fun j hj hl => ?_⟩ <;> (try simp -implicitDefEqProofs only [go_sem, LeTs_undef, LeTs_same, LeTs_nil])
                rcases Nat.lt_succ_iff_lt_or_eq.1 hl with hl | rfl
                · exact hz j hj hl
                · exact he'
              · exact no fun e => by rw [e] at hg; simp at hg
            · exact no fun e => by rw [e] at hf; simp at hf
          · exact no fun e => by rw [e] at he; simp at he
        · have e3 : x.groups = y.groups := List.ext_getElem hl fun j h1 h2 => hz j h1 (by simp at h; omega)
          simp only [Bool.and_eq_true, decide_eq_true_eq] at h1 h2
          have : x = y := Stm.ext (Idt.ext h1.1 h1.2) h2 e3
          simp [this]
      · have : x ≠ y := fun e => by subst e; simp at h3
        simp [this]
    · have : x ≠ y := fun e => by subst e; simp at h2
      simp [this]
  · have : x ≠ y := fun e => by subst e; simp at h1
    simp [this]
end Go.Proofs.Ytaajnbfnaoecnaa.Am
namespace Go.Proofs.Ytaajnbfnaoecnaa.Am
open Go Go.ChangeShapes Go.WideShapes Go.RowKit
def RdRow (w : World) (ts : List T) (cs : List Value) : Prop := ts.length = cs.length ∧ ∀ (j : Nat) (t : T) (v : Value), ts[j]? = some t → cs[j]? = some v → Rd w (fun b => b < w.heap.size) t v
structure Opn (P : Program) (t : TypeId) (sz : Nat) {α : Type} (row : α → List T) (G : α → Prop) : Prop where
  len : ∀ x, (row x).length = sz
  op : ∀ {H : Type} {enc : TypeId × Value → H} {W : World} {fuel : Nat} {cs : List Value} {D : DataW H} {ps : List MemPlace},
    DataW.trod enc P W 0 (fun _ => true) true fuel t cs = some (D, ps) → (∀ n ∈ DataW.weights P t D, n ≤ reachBytes) → ∃ x, RdRow W (row x) cs ∧ G x
theorem RdRow.one {w : World} {t : T} {v : Value} (h : Rd w (fun b => b < w.heap.size) t v) : RdRow w [t] [v] :=
  ⟨rfl, fun j t' v' h1 h2 => by
    cases j with
    | zero => simp at h1 h2; subst h1 h2; exact h
    | succ j => simp at h1⟩
theorem RdRow.append {w : World} {a b : List T} {c d : List Value} (h : RdRow w a c) (h' : RdRow w b d) : RdRow w (a ++ b) (c ++ d) :=
  ⟨by simp [h.1, h'.1], fun j t v h1 h2 => by
    rw [List.getElem?_append] at h1 h2
    have := h.1
    split at h1
    · rename_i hj
      rw [if_pos (by omega)] at h2
      exact h.2 j t v h1 h2
    · rename_i hj
      rw [if_neg (by omega)] at h2
      rw [this] at h1
      exact h'.2 _ t v h1 h2⟩
section
variable {P : Program} {t : TypeId}
theorem Opn.int {k : IntKind} (hu : P.underlying t = some (.int k)) : Opn P t 1 (fun x : Int => [T.int k x]) (fun x => (Lit.int k x).wf = true) where
  len := fun _ => rfl
  op := fun h _ => by
    obtain ⟨m, rfl, _, hw⟩ := DataW.trod_int hu h
    exact ⟨m, .one (.int _ _), hw⟩
theorem Opn.bool (hu : P.underlying t = some .bool) : Opn P t 1 (fun x : Bool => [T.bool x]) (fun _ => True) where
  len := fun _ => rfl
  op := fun h _ => by
    obtain ⟨m, rfl, _⟩ := DataW.trod_bool hu h
    exact ⟨m, .one (.bool _), trivial⟩
theorem Opn.string (hu : P.underlying t = some .string) : Opn P t 1 (fun x : ByteArray => [T.str x]) (fun x => x.size ≤ 140737488351232) where
  len := fun _ => rfl
  op := fun h hz => by
    obtain ⟨m, rfl, e, _⟩ := DataW.trod_string hu h
    obtain ⟨rfl, _⟩ := Prod.mk.inj e
    refine ⟨m, .one (.str _), ?_⟩
    have := hz m.data.toList.length (by simp [DataW.weights])
    simpa [reachBytes] using this
theorem Opn.slice {e : TypeId} {sz : Nat} {α : Type} {row : α → List T} {G : α → Prop} (he : Opn P e sz row G) (hu : P.underlying t = some (.slice e)) (hc : P.cellsOf e = sz) (hs : 0 < sz) {B : Nat} (hB : P.bytesOf e = B) :
    Opn P t 1 (fun xs : List α => [T.list false sz (xs.map row)]) (fun xs => xs.length * B ≤ 140737488351232 ∧ ∀ x ∈ xs, G x) where
  len := fun _ => rfl
  op := fun {H enc W fuel cs D ps} h hz => by
    rcases DataW.trod_slice hu h with ⟨rfl, _⟩ | ⟨a, len, cap, elems, rest, n, _, rfl, hx, hb, hl, hm, hlen, hel, hsp, _⟩
    · exact ⟨[], .one (.nil ..), by simp, by simp⟩
    · obtain ⟨rfl, _⟩ := Prod.mk.inj hx
      have hw0 := hz ((elems.map (·.1)).length + (rest.map (·.1)).length |>.mul (P.bytesOf e)) (by simp [DataW.weights, hu])
      have each : ∀ i, i < len → ∃ x c, RdRow W (row x) c ∧ G x ∧ c.length = sz ∧ ∀ j u, c[j]? = some u → W.cell? (a.add (i * sz + j)) = some u := by
        intro i hi
        have h1 := hel i hi
        have hil : i < elems.length := by omega
        rw [List.getElem?_eq_getElem hil] at h1
        rw [Option.bind_eq_some_iff] at h1
        obtain ⟨c, hcs, hy⟩ := h1
        have hD : ∀ m ∈ DataW.weights P e (elems[i]).1, m ≤ reachBytes := by
          intro m hmem
          refine hz m ?_
          simp only [DataW.weights, hu]
          refine List.mem_cons_of_mem _ (List.mem_append_left _ ?_)
          have : ∀ (l : List (DataW H)) (y : DataW H), y ∈ l → m ∈ DataW.weights P e y → m ∈ DataW.weightsAll P e l := by
            intro l
            induction l with
            | nil => intro y hy; cases hy
            | cons z l ih =>
              intro y hy hm2
              simp only [DataW.weightsAll, List.mem_append]
              rcases List.mem_cons.1 hy with rfl | hy
              · exact Or.inl hm2
              · exact Or.inr (ih y hy hm2)
          exact this _ _ (List.mem_map.2 ⟨elems[i], List.getElem_mem hil, rfl⟩) hmem
        obtain ⟨x, hK, hG⟩ := he.op (show DataW.trod enc P W 0 (fun _ => true) true n e c = some ((elems[i]).1, (elems[i]).2) from hy) hD
        obtain ⟨hb1, hb2, hb3⟩ := World.cells?_some hcs
        have hlen2 : c.length = sz := by rw [← hK.1, he.len]
        refine ⟨x, c, hK, hG, hlen2, fun j u hu2 => ?_⟩
        have hj := (List.getElem?_eq_some_iff.1 hu2).1
        have h3 := hb3 j (by rw [hc]; omega)
        rw [hu2] at h3
        rw [← h3, hc, Addr.add_add]
      have pick : ∀ l, l ≤ len → ∃ xs : List α, xs.length = l ∧ (∀ x ∈ xs, G x) ∧ ∀ j p, xs[j]? = some p → ∃ c, c.length = sz ∧ RdRow W (row p) c ∧ ∀ i u, c[i]? = some u → W.cell? (a.add (j * sz + i)) = some u := by
        intro l
        induction l with
        | zero => exact fun _ => ⟨[], rfl, by simp, fun j p h => by simp at h⟩
        | succ l ih =>
          intro hll
          obtain ⟨xs, h1, h2, h3⟩ := ih (by omega)
          obtain ⟨x, c, q1, q2, q3, q4⟩ := each l (by omega)
          refine ⟨xs ++ [x], by simp [h1], ?_, ?_⟩
          · intro y hy
            rcases List.mem_append.1 hy with hy | hy
            · exact h2 y hy
            · obtain rfl := List.mem_singleton.1 hy
              exact q2
          · intro j p hj
            by_cases hjl : j < xs.length
            · exact h3 j p (by rwa [List.getElem?_append_left hjl] at hj)
            · rw [List.getElem?_append_right (by omega)] at hj
              have : j - xs.length = 0 := by
                have := (List.getElem?_eq_some_iff.1 hj).1
                simpa using this
              rw [this] at hj
              have hjl2 : j = l := by omega
              subst hjl2
              obtain rfl : x = p := by simpa using hj
              exact ⟨c, q3, q1, q4⟩
      obtain ⟨xs, h1, h2, h3⟩ := pick len (Nat.le_refl _)
      subst h1
      refine ⟨xs, .one ?_, ?_, h2⟩
      · obtain ⟨ab, ao, asp⟩ := a
        have at0 : ∀ (j : Nat) (p : α), xs[j]? = some p → ∀ i, i < sz → ∃ u, W.cell? ⟨ab, ao + (j * sz + i), none⟩ = some u ∧ ∀ x, (row p)[i]? = some x → Rd W (fun b => b < W.heap.size) x u := by
          intro j p hj i hi
          obtain ⟨c, c1, c2, c3⟩ := h3 j p hj
          obtain ⟨u, hu2⟩ : ∃ u, c[i]? = some u := ⟨c[i]'(by omega), List.getElem?_eq_getElem _⟩
          have h4 := c3 i u hu2
          refine ⟨u, ?_, fun x hx => c2.2 i x u hx hu2⟩
          by_cases h0 : j * sz + i = 0
          · rw [h0] at h4 ⊢
            have : asp = none := by
              unfold World.cell? at h4
              simp only [Addr.add] at h4
              cases asp with
              | none => rfl
              | some q => simp at h4; split at h4 <;> simp at h4
            subst this
            exact h4
          · unfold Addr.add at h4
            rw [if_neg h0] at h4
            exact h4
        cases xs with
        | nil => exact .nil ..
        | cons x0 xs0 =>
          obtain ⟨u0, hu0, _⟩ := at0 0 x0 rfl 0 hs
          have hab : ab < W.heap.size := by
            unfold World.cell? at hu0
            simp only at hu0
            split at hu0
            · rename_i hh
              exact (Array.getElem?_eq_some_iff.1 hh).1
            · cases hu0
          have e1 : asp = none := by
            obtain ⟨c, c1, c2, c3⟩ := h3 0 x0 rfl
            have h4 := c3 0 (c[0]'(by omega)) (List.getElem?_eq_getElem _)
            simp only [Nat.zero_mul, Nat.add_zero, Addr.add, if_pos] at h4
            unfold World.cell? at h4
            cases asp with
            | none => rfl
            | some q => simp at h4; split at h4 <;> simp at h4
          subst e1
          have hrow : ∀ (i : Nat) (r : List T), ((x0 :: xs0).map row)[i]? = some r → ∃ p, (x0 :: xs0)[i]? = some p ∧ r = row p := by
            intro i r hr
            rw [List.getElem?_map] at hr
            cases hp : (x0 :: xs0)[i]? with
            | none => rw [hp] at hr; cases hr
            | some p => rw [hp] at hr; cases hr; exact ⟨p, rfl, rfl⟩
          have hfin := @Rd.list W (fun b => b < W.heap.size) false sz ((x0 :: xs0).map row) ab ao cap (fun i j => (W.cell? ⟨ab, ao + (i * sz + j), none⟩).getD Go.undef) (by simpa using hl) hab
            (fun i r hr => by obtain ⟨p, _, rfl⟩ := hrow i r hr; exact he.len p)
            (fun i r j x hr hx => by
              obtain ⟨p, hp, rfl⟩ := hrow i r hr
              obtain ⟨u, hu1, _⟩ := at0 i p hp j (by have := (List.getElem?_eq_some_iff.1 hx).1; rw [he.len] at this; exact this)
              simp only [hu1, Option.getD_some])
            (fun i r j x hr hx => by
              obtain ⟨p, hp, rfl⟩ := hrow i r hr
              obtain ⟨u, hu1, hu2⟩ := at0 i p hp j (by have := (List.getElem?_eq_some_iff.1 hx).1; rw [he.len] at this; exact this)
              simp only [hu1, Option.getD_some]
              exact hu2 x hx)
          rwa [List.length_map] at hfin
      have hw1 : (elems.length + rest.length) * P.bytesOf e ≤ reachBytes := by simpa using hw0
      rw [hB] at hw1
      rw [← hlen]
      exact Nat.le_trans (Nat.mul_le_mul_right _ (Nat.le_add_right _ _)) hw1
structure OpnF (P : Program) (fs : List Field) (o sz : Nat) {α : Type} (row : α → List T) (G : α → Prop) : Prop where
  len : ∀ x, (row x).length = sz
  op : ∀ {H : Type} {enc : TypeId × Value → H} {W : World} {fuel : Nat} {cs : List Value} {xs : List (DataW H × List MemPlace)},
    xs.length = fs.length → (∀ (i : Nat) (f : Field), fs[i]? = some f → DataW.trod enc P W 0 (fun _ => true) true fuel f.type ((cs.drop f.offset).take (P.cellsOf f.type)) = xs[i]?) →
    (∀ n ∈ DataW.weightsEach P (fs.map (·.type)) (xs.map (·.1)), n ≤ reachBytes) → cs.length = o + sz → ∃ x, RdRow W (row x) (cs.drop o) ∧ G x
theorem OpnF.one {f : Field} {o sz : Nat} {α : Type} {row : α → List T} {G : α → Prop} (he : Opn P f.type sz row G) (ho : f.offset = o) (hc : P.cellsOf f.type = sz) : OpnF P [f] o sz row G where
  len := he.len
  op := fun {H enc W fuel cs xs} hx h hz hl => by
    match xs, hx with
    | [y], _ =>
      have hy := h 0 f rfl
      rw [ho, hc, List.take_of_length_le (by simp; omega)] at hy
      exact he.op (show _ = some (y.1, y.2) from hy) (fun n hn => hz n (by simp only [List.map_cons, List.map_nil, DataW.weightsEach]; exact List.mem_append_left _ hn))
theorem OpnF.cons {f : Field} {r : List Field} {o sz sz2 : Nat} {α β : Type} {row : α → List T} {row2 : β → List T} {G : α → Prop} {G2 : β → Prop} (he : Opn P f.type sz row G) (ho : f.offset = o) (hc : P.cellsOf f.type = sz) (hr : OpnF P r (o + sz) sz2 row2 G2) :
    OpnF P (f :: r) o (sz + sz2) (fun x : α × β => row x.1 ++ row2 x.2) (fun x => G x.1 ∧ G2 x.2) where
  len := fun x => by rw [List.length_append, he.len, hr.len]
  op := fun {H enc W fuel cs xs} hx h hz hl => by
    match xs, hx with
    | y :: ys, hx =>
      have hl2 : cs.length = o + sz + sz2 := by omega
      have hy := h 0 f rfl
      rw [ho, hc] at hy
      obtain ⟨x, hK, hG⟩ := he.op (show _ = some (y.1, y.2) from hy) (fun n hn => hz n (by simp only [List.map_cons, DataW.weightsEach]; exact List.mem_append_left _ hn))
      obtain ⟨x2, hK2, hG2⟩ := hr.op (xs := ys) (by simpa using hx) (fun i g hg => h (i + 1) g hg) (fun n hn => hz n (by simp only [List.map_cons, DataW.weightsEach]; exact List.mem_append_right _ hn)) hl2
      refine ⟨(x, x2), ?_, hG, hG2⟩
      have := hK.append hK2
      rwa [← List.drop_drop, List.take_append_drop] at this
theorem Opn.struct {fs : Array Field} {sz : Nat} {α β : Type} {row : α → List T} {row2 : β → List T} {G : α → Prop} {G2 : β → Prop} (g : α → β) (hf : OpnF P fs.toList 0 sz row G) (hu : P.underlying t = some (.struct fs)) (hg : ∀ a, row2 (g a) = row a) (hG2 : ∀ a, G a → G2 (g a)) (hlen : ∀ b, (row2 b).length = sz) (hc : P.cellsOf t = sz) :
    Opn P t sz row2 G2 where
  len := hlen
  op := fun {H enc W fuel cs D ps} h hz => by
    obtain ⟨xs, n, _, hx, hl, hm, he⟩ := DataW.trod_struct hu h
    obtain ⟨rfl, _⟩ := Prod.mk.inj hx
    obtain ⟨x, hK, hG⟩ := hf.op (xs := xs) (by simpa using hm) (fun i f hf => he i f (by simpa using hf)) (fun n hn => hz n (by simp only [DataW.weights, hu]; exact hn)) (by omega)
    exact ⟨g x, by rw [hg]; simpa using hK, hG2 x hG⟩
end
theorem each_of {H : Type} {P : Program} {ts : List TypeId} {ds : List (DataW H)} (h : (DataW.weightsEach P ts ds).all (· ≤ reachBytes) = true) {j : Nat} {t : TypeId} {D : DataW H} (ht : ts[j]? = some t) (hd : ds[j]? = some D) : ∀ n ∈ DataW.weights P t D, n ≤ reachBytes := by
  intro n hn
  have := List.all_eq_true.1 h _ (DataW.weights_mem_each ht hd n hn)
  simpa using this
theorem arg_one {W : World} {t : T} {v : Value} (hv : v.cells.toList = [v]) (h : RdRow W [t] v.cells.toList) : AVr (inCx W fun b => b < W.heap.size) (.t t) v := by
  rw [hv] at h
  exact h.2 0 t v rfl rfl
theorem out_bool {w w' : World} {D : Dm} {b : Bool} {v : Value} (h : Out w D w' (.t (.bool b)) v) : v = .bool b ∧ Below w.heap.size w w' := by
  obtain ⟨h1, col, _, h2⟩ := h
  refine ⟨?_, h1.os, h1.tape, h1.output, h1.size, fun k hk => h1.block k hk (by simp)⟩
  have h3 : Rd (outCx w D w' col).w (outCx w D w' col).Dp (.bool b) v := h2
  cases h3
  rfl
end Go.Proofs.Ytaajnbfnaoecnaa.Am
namespace Go.Proofs.Ytaajnbfnaoecnaa.Am
open Go
set_option linter.unusedVariables false
set_option linter.unusedSimpArgs false
set_option maxRecDepth 100000
theorem lG_mk {α : Type} {G : α → Prop} {B : Nat} {xs : List α} (hB : 1 ≤ B) (h : xs.length * B ≤ 140737488351232 ∧ ∀ x ∈ xs, G x) : lG G xs :=
  ⟨Nat.le_trans (Nat.le_mul_of_pos_right _ hB) h.1, h.2⟩
def Stm.row (x : Stm) : List T := [.int .i64 x.last.t, .int .i64 x.last.n, .list false 3 (x.items.map It.row), .list false 4 (x.groups.map Gr.row)]
theorem Opn.weaken {P : Program} {t : TypeId} {sz : Nat} {α : Type} {row : α → List T} {G G' : α → Prop} (h : Opn P t sz row G) (hg : ∀ x, G x → G' x) : Opn P t sz row G' :=
  ⟨h.len, fun h1 h2 => by obtain ⟨x, a, b⟩ := h.op h1 h2; exact ⟨x, a, hg x b⟩⟩
end Go.Proofs.Ytaajnbfnaoecnaa.Am
namespace Go.Proofs.Ytaajnbfnaoecnaa.Am
open Go
set_option linter.unusedVariables false
set_option linter.unusedSimpArgs false
set_option maxRecDepth 100000
def isB (x : Int) : Prop := 0 ≤ x ∧ x ≤ 255
theorem opn_byte : Opn Try.prog 5 1 (fun x : Int => [T.int .u8 x]) isB :=
  (Opn.int Try.underlying5).weaken fun x h => by
    simp [Lit.wf, IntKind.min, IntKind.max, IntKind.signed, IntKind.bits] at h
    unfold isB; omega
theorem opn_bytes : Opn Try.prog 22 1 (fun xs : List Int => [T.list false 1 (xs.map fun b => [T.int .u8 b])]) (lG isB) :=
  (Opn.slice opn_byte Try.underlying22 (by kernel_rfl) (by omega) (B := 1) (by kernel_rfl)).weaken fun _ => lG_mk (by omega)
end Go.Proofs.Ytaajnbfnaoecnaa.Am
namespace Go.Proofs.Ytaajnbfnaoecnaa.Am
open Go
set_option maxRecDepth 100000
set_option maxHeartbeats 4000000
set_option linter.unusedSimpArgs false
set_option linter.unusedVariables false
theorem dropM_d2 {s : Stm} (hs : s.d2) (x : Idt) : (dropM s x).1.d2 := by
  obtain ⟨h1, h2, h3, h4⟩ := hs
  unfold dropM
  split
  · split
    · exact ⟨h1, h2, h3, h4⟩
    · refine ⟨by simp only [List.length_append, List.length_take, List.length_drop]; omega, h2, fun i hi => h3 i ?_, h4⟩
      rcases List.mem_append.1 hi with h | h
      · exact List.mem_of_mem_take h
      · exact List.mem_of_mem_drop h
  · exact z_dd.d2
theorem s_FnStreamDrop (bs : List Int) (hb : lG isB bs) : Spec Try.prog 3 [by8 bs] (fun r => r = Bo true) := by
  refine Spec.of tysOk mixed Try.func3 rfl (by decide) ?_
  simp -implicitDefEqProofs only [go_sem, Try.f3]
  refine BrA_i (fun h1 => ?_) (fun h1 => ?_) <;> simp -implicitDefEqProofs only [go_sem]
  have h1 : bs.length ≤ 1048576 := by have := of_decide_eq_false h1; omega
  refine CallW.psm (s_DrawStreamDrop bs hb.2 h1) p_DrawStreamDrop (by first | (simp -implicitDefEqProofs only [go_sem]; done) | ((conv => lhs; simp -implicitDefEqProofs only [go_sem]); done) | (simp -implicitDefEqProofs only [go_sem]; rfl) | rfl) rfl ?_
  rintro r ⟨s, x, e, hs⟩
  rw [e]
  clear e r
  simp -implicitDefEqProofs only [go_sem]
  refine CallW.ps (s_StreamDrop s x hs.md hs.hw) p_StreamDrop (by first | (simp -implicitDefEqProofs only [go_sem]; done) | ((conv => lhs; simp -implicitDefEqProofs only [go_sem]); done) | (simp -implicitDefEqProofs only [go_sem]; rfl) | rfl) rfl ?_
  rintro _ rfl
  simp -implicitDefEqProofs only [go_sem]
  have hd := dropM_d2 hs x
  have hsm : s.sm := hs.md.sm.1
  refine CallW.ps (s_sStreamDrop s x hs.md hs.hw) p_sStreamDrop (by first | (simp -implicitDefEqProofs only [go_sem]; done) | ((conv => lhs; simp -implicitDefEqProofs only [go_sem]); done) | (simp -implicitDefEqProofs only [go_sem]; rfl) | rfl) rfl ?_
  intro r hr
  rw [dropR_share s x r hr]
  clear hr r
  simp -implicitDefEqProofs only [go_sem, eq_self, decide_true, beq_self_eq_true, Bool.not_true]
  refine CallW.one (s_qxStream (dropM s x).1 (dropM s x).1 hd.md.sm.1) p_qxStream (by first | (simp -implicitDefEqProofs only [go_sem]; done) | ((conv => lhs; simp -implicitDefEqProofs only [go_sem]); done) | (simp -implicitDefEqProofs only [go_sem]; rfl) | rfl) (by first | trivial | (simp [DeepR, DeepV, DeepVs, DeepC, DeepCs, T.scal]; done)) ?_
  simp -implicitDefEqProofs only [go_sem, eq_self, decide_true, beq_self_eq_true, Bool.not_true]
  refine CallW.one (s_sStreamOk s hsm hs.hw) p_sStreamOk (by first | (simp -implicitDefEqProofs only [go_sem]; done) | ((conv => lhs; simp -implicitDefEqProofs only [go_sem]); done) | (simp -implicitDefEqProofs only [go_sem]; rfl) | rfl) (by first | trivial | (simp [DeepR, DeepV, DeepVs, DeepC, DeepCs, T.scal]; done)) ?_
  cases hok : streamOkM s
  · simp -implicitDefEqProofs only [go_sem, Bool.not_false, eq_self, decide_true, beq_self_eq_true]
    refine CallW.one (s_qxStream (dropM s x).1 (dropM s x).1 hd.md.sm.1) p_qxStream (by first | (simp -implicitDefEqProofs only [go_sem]; done) | ((conv => lhs; simp -implicitDefEqProofs only [go_sem]); done) | (simp -implicitDefEqProofs only [go_sem]; rfl) | rfl) (by first | trivial | (simp [DeepR, DeepV, DeepVs, DeepC, DeepCs, T.scal]; done)) ?_
    simp -implicitDefEqProofs only [go_sem, eq_self, decide_true, beq_self_eq_true, Bool.not_true]
  cases hg : itIx s.items x with
  | none =>
    have e0 := dropM_none hok hg
    have e1 := rangeM_none s x 1 (itIx_no hg)
    simp only [e0]
    simp -implicitDefEqProofs only [go_sem, Bool.not_true, Bool.not_false]
    refine CallW.one (s_qxStream s s hsm) p_qxStream (by first | (simp -implicitDefEqProofs only [go_sem]; done) | ((conv => lhs; simp -implicitDefEqProofs only [go_sem]); done) | (simp -implicitDefEqProofs only [go_sem]; rfl) | rfl) (by first | trivial | (simp [DeepR, DeepV, DeepVs, DeepC, DeepCs, T.scal]; done)) ?_
    simp -implicitDefEqProofs only [go_sem, eq_self, decide_true, beq_self_eq_true, Bool.not_true]
    refine CallW.ps (s_StreamRange s x x 1 hs.md hs.hw) p_StreamRange (by first | (simp -implicitDefEqProofs only [go_sem]; done) | ((conv => lhs; simp -implicitDefEqProofs only [go_sem]); done) | (simp -implicitDefEqProofs only [go_sem]; rfl) | rfl) rfl ?_
    rintro _ rfl
    rw [e1]
    simp -implicitDefEqProofs only [go_sem, List.map_nil, List.length_nil, Int.natCast_zero, eq_self, decide_true]
  | some n =>
    obtain ⟨hn, hx⟩ := itIx_at hg
    have e0 := dropM_some hok hg
    have hok2 := cutOk hok n
    have e1 := rangeM_none ⟨s.last, s.items.take n ++ s.items.drop (n + 1), s.groups⟩ x 1 (cut_no hok hg)
    have hd' := hd
    rw [e0] at hd'
    simp only [e0]
    simp -implicitDefEqProofs only [go_sem, Bool.not_true, Bool.not_false]
    refine CallW.one (s_StreamOk ⟨s.last, s.items.take n ++ s.items.drop (n + 1), s.groups⟩ hd'.md.sm.1 hd'.hw) p_StreamOk (by first | (simp -implicitDefEqProofs only [go_sem]; done) | ((conv => lhs; simp -implicitDefEqProofs only [go_sem]); done) | (simp -implicitDefEqProofs only [go_sem]; rfl) | rfl) (by first | trivial | (simp [DeepR, DeepV, DeepVs, DeepC, DeepCs, T.scal]; done)) ?_
    simp -implicitDefEqProofs only [go_sem, hok2]
    refine CallW.ps (s_StreamRange ⟨s.last, s.items.take n ++ s.items.drop (n + 1), s.groups⟩ x x 1 hd'.md hd'.hw) p_StreamRange (by first | (simp -implicitDefEqProofs only [go_sem]; done) | ((conv => lhs; simp -implicitDefEqProofs only [go_sem]); done) | (simp -implicitDefEqProofs only [go_sem]; rfl) | rfl) rfl ?_
    rintro _ rfl
    rw [e1]
    have hsl := hs.1
    have w : IntKind.i64.wrap (((s.items.take n ++ s.items.drop (n + 1)).length : Int) + 1) = s.items.length := by
      rw [wrap64 (by omega) (by simp; omega)]; simp; omega
    simp -implicitDefEqProofs only [go_sem, List.map_nil, List.length_nil, Int.natCast_zero, eq_self, decide_true, List.length_map, w, Bool.and_self]
end Go.Proofs.Ytaajnbfnaoecnaa.Am
