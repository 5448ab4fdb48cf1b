/- Texts of this claim, packed: walks and laws that its row stands on. Each states its own conditions. -/
import Derived.ChangeKeysEq
import Derived.Laws.StructEq
import Derived.OrdersHeld
import Derived.Test.YtcpfhonmdbhdbaaGreatDoorChecked
import Derived.Test.YtcpfhonmdbhdbaaGreatDoorBFnLeaderNew0
namespace Go.Proofs.YtcpfhonmdbhdbaaGreatDoor.Am
open Go
set_option linter.unusedVariables false
section
variable {P : Program} {Γ : Env} {B : Base} {ρ ρ' : Nat → Option Nat} {col col' : Col} {s s' : St} {a : Act} {w w' : World}
theorem SimR.rekill (h : SimR B ρ col s a w) {k : Nat} {sz : Nat} {rs : List (List T)} (hk : hget s.hp k = some (.rows sz rs)) :
    SimR B ρ col ⟨(s.kill k).tm, hput (s.kill k).hp k (.rows sz rs)⟩ a w := by
  have hg : ∀ m, hget (hput (s.kill k).hp k (.rows sz rs)) m = (hget s.hp m).map (Blk.kill k) := by
    intro m
    rw [hget_hput, hget_kill]
    split
    · rename_i e; subst e; rw [hk]; rfl
    · rfl
  have hle : (cx B ρ col w s.hp).le (cx B ρ col w (hput (s.kill k).hp k (.rows sz rs))) fun m => m ≠ k :=
    ⟨fun _ _ _ => rfl, fun m b hm hb => ⟨b.kill k, by
      have hb' : hget s.hp m = some b := hb
      show hget (hput (s.kill k).hp k (.rows sz rs)) m = _
      rw [hg, hb']; rfl, blk_sim_kill k b⟩, fun b hb => ⟨hb, rfl⟩, fun b hb => ⟨hb, rfl⟩, fun _ _ _ _ => rfl, fun _ _ _ _ _ => rfl⟩
  refine ⟨h.defers, by simp [St.kill, kills_length, h.len], h.keep, fun i => ?_, fun m b hb => ?_, fun m hm => ?_, h.inj, h.sep, h.lab, h.colb, h.pins, by rw [hg, h.nolim]; rfl⟩
  · simp only [St.kill, gt_kills]; exact AVr.kill k hle _ _ (h.tm i)
  · have hb' := hb
    simp only at hb'
    rw [hg] at hb'
    simp only [Option.map_eq_some_iff] at hb'
    obtain ⟨b0, hb0, rfl⟩ := hb'
    exact (h.hp m b0 hb0).kill hle rfl (fun _ _ => rfl) (fun b i j hc => ⟨hc, rfl⟩)
  · have hm' := hm
    simp only at hm'
    rw [hg] at hm'
    simp only [Option.map_eq_none_iff] at hm'
    exact h.dom m hm'
theorem rows_join {c : Cx} {k sz g : Nat} {rs rows : List (List T)} {cells : Array Value} {e : Nat} {fr : Nat × Nat} (hρ : c.ρ k = some g) (hh : c.w.heap[g]? = some (.cells cells e fr)) (hf : frOk fr cells.size)
    (hrow : ∀ (i : Nat) (r : List T), rs[i]? = some r → r.length = sz) (hrow' : ∀ (i : Nat) (r : List T), rows[i]? = some r → r.length = sz) (hsz : (rs.length + rows.length) * sz ≤ cells.size)
    (hold : ∀ (i : Nat) (r : List T) (j : Nat) (t : T), rs[i]? = some r → r[j]? = some t → ∃ v, cells[i * sz + j]? = some v ∧ Own c.w c.Dp (fun b => col b = some (k, i, j)) t v)
    (hnew : ∀ (i : Nat) (r : List T) (j : Nat) (t : T), rows[i]? = some r → r[j]? = some t → ∃ v, cells[(rs.length + i) * sz + j]? = some v ∧ Own c.w c.Dp (fun b => col b = some (k, rs.length + i, j)) t v) :
    RowsR c col k sz (rs ++ rows) := by
  have key : ∀ (i : Nat) (r : List T) (j : Nat) (t : T), (rs ++ rows)[i]? = some r → r[j]? = some t → ∃ v, cells[i * sz + j]? = some v ∧ Own c.w c.Dp (fun b => col b = some (k, i, j)) t v := by
    intro i r j t hi hj
    rw [List.getElem?_append] at hi
    split at hi
    · exact hold i r j t hi hj
    · rename_i hlt
      have := hnew (i - rs.length) r j t hi hj
      rwa [show rs.length + (i - rs.length) = i by omega] at this
  refine ⟨fun i r hi => ?_, .inl ⟨g, cells, e, fr, fun i j => cells.getD (i * sz + j) Go.undef, hρ, hh, hf, by simpa using hsz, fun i r j t hi hj => ?_, fun i r j t hi hj => ?_⟩⟩
  · rw [List.getElem?_append] at hi
    split at hi
    · exact hrow i r hi
    · exact hrow' _ r hi
  · obtain ⟨v, h1, h2⟩ := key i r j t hi hj
    simp [Array.getD_eq_getD_getElem?, h1]
  · obtain ⟨v, h1, h2⟩ := key i r j t hi hj
    have e : cells.getD (i * sz + j) Go.undef = v := by simp [Array.getD_eq_getD_getElem?, h1]
    dsimp only
    rw [e]; exact h2
theorem append_fits {n bytes need cap : Nat} (h : cap < need) (hb : need * bytes ≤ 1099511627776) : Builtin.nextslicecap need cap * bytes ≤ 281474976710656 :=
  growslice_fits h (by omega)
theorem grow_block {n0 n sz cap : Nat} {olds news : List Value} {z : Array Value} (ho : olds.length = n0 * sz) (hn : news.length = n * sz) (hz : z.size = sz) (hc : n0 + n ≤ cap) :
    ((olds ++ news).toArray ++ Builtin.zeroCells z (cap - (n0 + n))).size = cap * sz ∧
    (∀ q, q < n0 * sz → ((olds ++ news).toArray ++ Builtin.zeroCells z (cap - (n0 + n)))[q]? = olds[q]?) ∧
    (∀ q, q < n * sz → ((olds ++ news).toArray ++ Builtin.zeroCells z (cap - (n0 + n)))[n0 * sz + q]? = news[q]?) := by
  refine ⟨?_, fun q hq => ?_, fun q hq => ?_⟩
  · simp [size_zeroCells, ho, hn, hz]
    rw [← Nat.add_mul, ← Nat.add_mul]
    congr 1; omega
  · rw [Array.getElem?_append_left (by simp; omega)]
    simp only [List.getElem?_toArray]
    rw [List.getElem?_append_left (by omega)]
  · rw [Array.getElem?_append_left (by simp; omega)]
    simp only [List.getElem?_toArray]
    rw [List.getElem?_append_right (by omega)]
    congr 1; omega
theorem append_lab {o : Oper} {t t2 : Nat} {o1 o2 : Operand} (ho : o.op = .call ⟨.builtin .append, #[o1, o2], #[t, t2]⟩) {i : Nat} (hi : o.dst = some i) {y : Ty} (hy : TyOk P t y) (hcy : y.isSlice = true ∧ 0 < y.ebytes) {s1 : St} {ρ1 : Nat → Option Nat} {col1 : Col}
    (g1 : SimR B ρ1 col1 s1 a w) {k : Nat} {rs rows : List (List T)} {news : List Value} (hk1 : hget s1.hp k = some (.rows y.esz rs)) (hkp : k < pin) (g4 : Src P y.esz t2 (a.eval o2) rows.length news w) (g5 : ∀ (i : Nat) (r : List T), rows[i]? = some r → r.length = y.esz)
    (g6 : ∀ (i : Nat) (r : List T) (j : Nat) (tt : T), rows[i]? = some r → r[j]? = some tt → ∃ v, news[i * y.esz + j]? = some v ∧ Own w (cx B ρ1 col1 w s1.hp).Dp (fun b => col1 b = some (k, rs.length + i, j)) tt v)
    (c3 : roomy (rs.length + rows.length) y.ebytes) (hrw : RefW (cx B ρ1 col1 w s1.hp) k y.esz rs (a.eval o1)) :
    Done P Γ B ⟨pt (s1.kill k).tm i (.refw k), hput (s1.kill k).hp k (.rows y.esz (rs ++ rows))⟩ a w o := by
  obtain ⟨hu, e, he, hes, heb, zz, hz, hzs⟩ := hy.slice hcy.1
  have hexec : ∀ r w', (Builtin.append_ #[t, t2] o.type #[a.eval o1, a.eval o2]).run P w = .ok r w' → (execOp a.eval o).run P w = .ok (.value r) w' := by
    intro r w' hr
    simp [execOp, ho, resolve, invoke, builtin, hr]
  have c3' : (rs.length + rows.length) * y.ebytes ≤ 1099511627776 := c3
  have hle : rs.length + rows.length ≤ 1099511627776 := Nat.le_trans (Nat.le_mul_of_pos_right _ hcy.2) c3'
  have g4' : Src P e.size t2 (a.eval o2) rows.length news w := by rw [hes]; exact g4
  obtain ⟨hrow, hrest⟩ := g1.hp k _ hk1
  have hnl : news.length = rows.length * y.esz := by rw [g4'.newsLen, hes]
  have hgrow : ∀ (ad : Option Addr) (cap : Nat) (olds : List Value), a.eval o1 = .slice ad rs.length cap → cap < rs.length + rows.length → olds.length = rs.length * y.esz →
      (Builtin.firstCells e.size rs.length (.slice ad rs.length cap)).run P w.drew = .ok olds.toArray w.drew →
      (∀ (i : Nat) (r : List T) (j : Nat) (tt : T), rs[i]? = some r → r[j]? = some tt → ∃ v, olds[i * y.esz + j]? = some v ∧ Own w (cx B ρ1 col1 w s1.hp).Dp (fun b => col1 b = some (k, i, j)) tt v) →
      Done P Γ B ⟨pt (s1.kill k).tm i (.refw k), hput (s1.kill k).hp k (.rows y.esz (rs ++ rows))⟩ a w o := by
    intro ad cap olds hv hcap hol hold hown
    have hrun := run_append_grow_src (P := P) w t t2 o.type y.elem e zz hu he hz ad rs.length cap olds hold (a.eval o2) rows.length news g4' hcap (by omega) (by rw [heb]; exact append_fits (n := 0) hcap c3')
    refine ⟨_, _, hexec _ _ (by rw [hv]; exact hrun), fun h => (by simp [ho, soft] at h), .inl ⟨_, rfl, ?_⟩⟩
    rw [hi]
    have hcapg := grownCap_ge w (rs.length + rows.length) cap y.elem
    obtain ⟨b1, b2, b3⟩ := grow_block (n0 := rs.length) (n := rows.length) (sz := y.esz) (olds := olds) (news := news) (z := zz.cells) (cap := grownCap w (rs.length + rows.length) cap y.elem) hol hnl hzs hcapg
    generalize hcells : (olds ++ news).toArray ++ Builtin.zeroCells zz.cells (grownCap w (rs.length + rows.length) cap y.elem - (rs.length + rows.length)) = cells at b1 b2 b3
    have hws := wstep_drew_alloc w (.cells cells y.elem)
    have hnewb := alloc_new w.drew (.cells cells y.elem)
    have hsim := g1.renew (w' := w.drew.alloc (.cells cells y.elem)) (g := w.heap.size) (blk' := .rows y.esz (rs ++ rows)) hk1 hkp hws.weaken (.inr ⟨Nat.le_refl _, by simp⟩) (fun hle => by
      obtain ⟨q1, q2, q3⟩ := own_blocks g1 (hws.weaken (g := ρ1 k)) (fun b e => ⟨k, e⟩)
      refine rows_join (g := w.heap.size) (cells := cells) (e := y.elem) (fr := (0, 0)) (by simp [cx, setlab]) hnewb (frOk0 _) hrow g5 (by rw [b1]; exact Nat.mul_le_mul_right _ hcapg) (fun i r j tt hi hj => ?_) (fun i r j tt hi hj => ?_)
      · obtain ⟨v, e1, e2⟩ := hown i r j tt hi hj
        have hil := (List.getElem?_eq_some_iff.1 hi).1
        have hjl : j < y.esz := by have := (List.getElem?_eq_some_iff.1 hj).1; rw [hrow i r hi] at this; exact this
        exact ⟨v, by rw [b2 _ (mul_add_lt hil hjl)]; exact e1, e2.mono q1 (fun b hb => (hle.dp b hb).1) (fun b hb => q3 b _ hb) (fun _ h => h)⟩
      · obtain ⟨v, e1, e2⟩ := g6 i r j tt hi hj
        have hil := (List.getElem?_eq_some_iff.1 hi).1
        have hjl : j < y.esz := by have := (List.getElem?_eq_some_iff.1 hj).1; rw [g5 i r hi] at this; exact this
        exact ⟨v, by rw [Nat.add_mul, Nat.add_assoc, b3 _ (mul_add_lt hil hjl)]; exact e1, e2.mono q1 (fun b hb => (hle.dp b hb).1) (fun b hb => q3 b _ hb) (fun _ h => h)⟩)
    refine ⟨_, _, hsim.put (d := some i) (x := .refw k) ?_⟩
    refine ⟨y.esz, rs ++ rows, by simp [cx, hget_hput], .inl ⟨w.heap.size, grownCap w (rs.length + rows.length) cap y.elem, y.elem, cells.size, by simp [cx, setlab], by simp, by simpa using hcapg, ?_, by rw [b1]; exact Nat.le_refl _⟩⟩
    have hnewb' : (w.drew.alloc (.cells cells y.elem)).heap[w.heap.size]? = some (.cells cells y.elem) := hnewb
    show World.shape? (w.drew.alloc (.cells cells y.elem)) w.heap.size = _
    unfold World.shape?
    rw [hnewb']
  rcases hrw with ⟨b, cap, e', n, hb, hv, hcap, hsh, hn⟩ | ⟨hnil, ad, hv⟩
  · have hρ1 : ρ1 k = some b := hb
    rcases hrest with ⟨b', cells, e'', fr, uu, hb', hh, hf, hsz, hu', how⟩ | ⟨_, hn'⟩
    · have hbb : b' = b := by
        have e3 : ρ1 k = some b' := hb'
        rw [hρ1] at e3; exact (Option.some.inj e3).symm
      subst hbb
      have hh' : w.heap[b']? = some (.cells cells e'' fr) := hh
      have hn2 : n = cells.size := by
        have : w.shape? b' = some (e', n) := hsh
        simp [World.shape?, hh'] at this
        exact this.2.symm
      by_cases hroom : rs.length + rows.length ≤ cap
      ·
        have htot : (rs.length + rows.length) * y.esz ≤ cells.size := by
          rw [← hn2]; exact Nat.le_trans (Nat.mul_le_mul_right _ hroom) hn
        have htot' : rs.length * y.esz + news.length ≤ cells.size := by rw [hnl, ← Nat.add_mul]; exact htot
        have hrun := run_append_room_src (P := P) w t t2 o.type y.elem e hu he b' 0 rs.length cap (a.eval o2) rows.length news g4' hroom
          (fun j hj => by
            have : rs.length * y.esz + j < cells.size := by omega
            simp [World.cell?, hh', hes, this])
          (fun j hj => by
            have : ¬ (fr.1 ≤ rs.length * y.esz + j ∧ rs.length * y.esz + j < fr.2) := fun hc => by have := hf (by omega); omega
            obtain ⟨lo, hi⟩ := fr
            simp only [World.frozen?, hh', hes, Nat.zero_add]
            simpa using this)
        rw [hes, Nat.zero_add] at hrun
        obtain ⟨q0, hws, qs⟩ := setCells_row news (rs.length * y.esz) w cells hh' htot'
        refine ⟨_, _, hexec _ _ (by rw [hv]; exact hrun), fun h => (by simp [ho, soft] at h), .inl ⟨_, rfl, ?_⟩⟩
        rw [hi]
        have hsim := g1.renew (w' := w.setCells b' (rs.length * y.esz) news) (g := b') (blk' := .rows y.esz (rs ++ rows)) hk1 hkp (by rw [hρ1]; exact hws) (.inl hρ1) (fun hle => by
          obtain ⟨q1, q2, q3⟩ := own_blocks g1 hws (fun b e => ⟨k, by rw [hρ1]; exact e⟩)
          refine rows_join (g := b') (e := e'') (fr := fr) (by simp [cx, setlab]) q0 (by simpa [repl_length] using hf) hrow g5 (by simpa [repl_length] using htot) (fun i r j tt hi hj => ?_) (fun i r j tt hi hj => ?_)
          · have hil := (List.getElem?_eq_some_iff.1 hi).1
            have hjl : j < y.esz := by have := (List.getElem?_eq_some_iff.1 hj).1; rw [hrow i r hi] at this; exact this
            have hlt := mul_add_lt hil hjl
            refine ⟨uu i j, ?_, (how i r j tt hi hj).mono q1 (fun b hb => (hle.dp b hb).1) (fun b hb => q3 b _ hb) (fun _ h => h)⟩
            simp only [List.getElem?_toArray]
            rw [repl_get _ _ _ _ (by simpa using htot'), if_neg (by omega)]
            simpa using hu' i r j tt hi hj
          · obtain ⟨v, e1, e2⟩ := g6 i r j tt hi hj
            have hil := (List.getElem?_eq_some_iff.1 hi).1
            have hjl : j < y.esz := by have := (List.getElem?_eq_some_iff.1 hj).1; rw [g5 i r hi] at this; exact this
            have hlt := mul_add_lt hil hjl
            refine ⟨v, ?_, e2.mono q1 (fun b hb => (hle.dp b hb).1) (fun b hb => q3 b _ hb) (fun _ h => h)⟩
            simp only [List.getElem?_toArray]
            rw [repl_get _ _ _ _ (by simpa using htot'), Nat.add_mul, if_pos (by omega)]
            rw [show rs.length * y.esz + i * y.esz + j - rs.length * y.esz = i * y.esz + j by omega]
            exact e1)
        refine ⟨_, _, hsim.put (d := some i) (x := .refw k) ?_⟩
        refine ⟨y.esz, rs ++ rows, by simp [cx, hget_hput], .inl ⟨b', cap, e'', cells.size, by simp [cx, setlab], by simp, by simpa using hroom, ?_, by rw [← hn2]; exact hn⟩⟩
        simp [cx, World.shape?, q0, repl_length]
      ·
        refine hgrow (some ⟨b', 0, none⟩) cap ((List.range (rs.length * y.esz)).map fun q => cells.getD q Go.undef) hv (by omega) (by simp) ?_ (fun i r j tt hi hj => ?_)
        · refine run_firstCells_some w.drew e.size rs.length ⟨b', 0, none⟩ rs.length cap _ (by simp [hes]) (fun j v hj => ?_)
          rw [List.getElem?_map] at hj
          simp only [Option.map_eq_some_iff] at hj
          obtain ⟨q', hq', rfl⟩ := hj
          obtain ⟨hlt, hq''⟩ := List.getElem?_eq_some_iff.1 hq'
          simp at hlt hq''
          subst hq''
          have hlt2 : j < cells.size := by omega
          rw [Addr.add_mid, Nat.zero_add]
          show w.cell? ⟨b', j, none⟩ = _
          simp [World.cell?, hh', hlt2, Array.getD_eq_getD_getElem?]
        · have hil := (List.getElem?_eq_some_iff.1 hi).1
          have hjl : j < y.esz := by have := (List.getElem?_eq_some_iff.1 hj).1; rw [hrow i r hi] at this; exact this
          have hlt := mul_add_lt hil hjl
          refine ⟨uu i j, ?_, how i r j tt hi hj⟩
          rw [List.getElem?_map, List.getElem?_eq_getElem (by simpa using hlt)]
          simp [Array.getD_eq_getD_getElem?, hu' i r j tt hi hj]
    · have : ρ1 k = none := hn'
      rw [hρ1] at this; cases this
  · subst hnil
    by_cases hn0 : rows.length = 0
    · have hr0 : rows = [] := List.eq_nil_of_length_eq_zero hn0
      subst hr0
      have hnews : news = [] := by cases news; rfl; simp at hnl
      subst hnews
      have hrun := run_append_nothing (P := P) w t t2 o.type y.elem e hu he ad 0 0 (Nat.le_refl _) (a.eval o2) g4'
      refine ⟨_, _, hexec _ _ (by rw [hv]; exact hrun), fun h => (by simp [ho, soft] at h), .inl ⟨_, rfl, ρ1, col1, ?_⟩⟩
      rw [hi]
      refine (g1.rekill hk1).put (d := some i) (x := .refw k) ⟨y.esz, [], by simp [cx, hget_hput], .inr ⟨rfl, ad, rfl⟩⟩
    · refine hgrow ad 0 [] hv (by simp; omega) (by simp) ?_ (fun i r j tt hi => by simp at hi)
      cases ad with
      | none => exact run_firstCells_none w.drew e.size 0 0 0
      | some ad => exact run_firstCells_some w.drew e.size 0 ad 0 0 [] (by simp) (fun j v hj => by simp at hj)
theorem appendC_ok (hΓ : TysOk P Γ) (h : SimR B ρ col s a w) {o : Oper} {t t2 : Nat} {o1 o2 : Operand} (ho : o.op = .call ⟨.builtin .append, #[o1, o2], #[t, t2]⟩) {i : Nat} (hi : o.dst = some i) {y yu : Ty} (hy : Γ t = some y) (hyu : Γ t2 = some yu) {x z : AV}
    (hx : AVr (cx B ρ col w s.hp) x (a.eval o1)) (hz : AVr (cx B ρ col w s.hp) z (a.eval o2)) (hs : appendC y yu s i x z = some s') : Done P Γ B s' a w o := by
  unfold appendC at hs
  split at hs
  · rename_i hcy
    simp only [Option.bind_eq_some_iff] at hs
    obtain ⟨⟨rows, ks⟩, hadd, hs⟩ := hs
    obtain ⟨hu, e, he, hes, heb, zz, hzz, hzs⟩ := (hΓ _ _ hy).slice hcy.1
    have hpos : 0 < y.esz := by
      have := (hΓ _ _ hy).pos
      cases hk : y.k <;> simp [Ty.isSlice, hk] at hcy
      exact this hk
    have hexec : ∀ r w', (Builtin.append_ #[t, t2] o.type #[a.eval o1, a.eval o2]).run P w = .ok r w' → (execOp a.eval o).run P w = .ok (.value r) w' := by
      intro r w' hr
      simp [execOp, ho, resolve, invoke, builtin, hr]
    split at hs
    ·
      rename_i sz0
      split at hs
      · rename_i hc
        obtain ⟨c1, c2, c3⟩ := hc
        have hx' : a.eval o1 = .slice none 0 0 := hx
        obtain ⟨ρ1, col1, news, g1, g2, g3, g4, g5, g6⟩ := addRows_ok h (hΓ _ _ hyu) hpos hz hadd (8 * i) 0 c2 (ne_lim (lay_some hs).2.2)
        obtain ⟨hlk, rfl, hlp⟩ := lay_some hs
        have c3' : rows.length * y.ebytes ≤ 1099511627776 := c3
        have hle : rows.length ≤ 1099511627776 := Nat.le_trans (Nat.le_mul_of_pos_right _ hcy.2) c3'
        have hold : (Builtin.firstCells e.size 0 (.slice none 0 0)).run P w.drew = .ok ([] : List Value).toArray w.drew := run_firstCells_none w.drew e.size 0 0 0
        have g4' : Src P e.size t2 (a.eval o2) rows.length news w := by rw [hes]; exact g4
        have hrun := run_append_grow_src (P := P) w t t2 o.type y.elem e zz hu he hzz none 0 0 [] hold (a.eval o2) rows.length news g4' (by simpa using c1) (by simp; omega) (by
          rw [heb]; exact append_fits (n := 0) (by simpa using c1) (by simpa using c3'))
        simp only [Nat.zero_add] at hrun
        refine ⟨_, _, hexec _ _ (by rw [hx']; exact hrun), fun h => (by simp [ho, soft] at h), .inl ⟨_, rfl, ?_⟩⟩
        rw [hi]
        have hcap := grownCap_ge w rows.length 0 y.elem
        obtain ⟨b1, b2, b3⟩ := grow_block (n0 := 0) (n := rows.length) (sz := y.esz) (olds := []) (news := news) (z := zz.cells) (cap := grownCap w rows.length 0 y.elem) (by simp) (by rw [g4'.newsLen, hes]) hzs (by simpa using hcap)
        simp only [Nat.zero_add, Nat.zero_mul] at b1 b3
        refine g1.layRows (wstep_drew_alloc w _) (by simp) (alloc_new w.drew _) hlk hlp g5 hcap (by rw [b1]; exact Nat.le_refl _) (fun q r j tt hq hj => ?_)
        obtain ⟨v, e1, e2⟩ := g6 q r j tt hq hj
        have hql := (List.getElem?_eq_some_iff.1 hq).1
        have hjl : j < y.esz := by have := (List.getElem?_eq_some_iff.1 hj).1; rw [g5 q r hq] at this; exact this
        refine ⟨v, by rw [b3 _ (mul_add_lt hql hjl)]; exact e1, by simpa using e2⟩
      · cases hs
    ·
      rename_i k
      split at hs
      · rename_i c1
        unfold appendTo at hs
        split at hs
        · rename_i sz rs hk1
          split at hs
          · rename_i hc
            cases hs
            obtain ⟨hkp, rfl, c3⟩ := hc
            obtain ⟨ρ1, col1, news, g1, g2, g3, g4, g5, g6⟩ := addRows_ok h (hΓ _ _ hyu) hpos hz hadd k rs.length c1 (ne_lim hkp)
            obtain ⟨sz', rs', hk', hrw⟩ := hx
            have hk0 : hget (s.drops ks).hp k = some (.rows sz' rs') := hget_drops ks s c1 hk'
            have hboth : y.esz = sz' ∧ rs = rs' := by
              have hk1' : hget (s.drops ks).hp k = some (.rows y.esz rs) := hk1
              rw [hk0] at hk1'; cases hk1'; exact ⟨rfl, rfl⟩
            obtain ⟨e1, e2⟩ := hboth
            subst e1 e2
            exact append_lab ho hi (hΓ _ _ hy) hcy g1 hk1 hkp g4 g5 g6 c3 (hrw.mono (g3 k c1) rfl (fun b hb => rfl))
          · cases hs
        · cases hs
      · cases hs
    ·
      rename_i o0 sz0 rs0 k p q
      split at hs
      · rename_i hc0
        obtain ⟨c0, c1⟩ := hc0
        simp only [Option.bind_eq_some_iff] at hs
        obtain ⟨s1, hf, hs⟩ := hs
        obtain ⟨sz, rs, sz', rs', f1, f2, f3, f4, f5, f6, f7⟩ := focus_some hf
        obtain ⟨ρ1, col1, news, g1, g2, g3, g4, g5, g6⟩ := addRows_ok h (hΓ _ _ hyu) hpos hz hadd (8 * i) rs'.length c0 (ne_lim f6)
        have ht : Tie (cx B ρ1 col1 w (s.drops ks).hp) (some (k, p, q)) (a.eval o1) := hx.2.mono g2 (fun k' i' j' e => by cases e; exact c1)
        obtain ⟨ρ2, col2, q1, q2, q3, q4, q5⟩ := g1.focus hf ht
        unfold appendTo at hs
        split at hs
        · rename_i sz2 rs2 hk2
          split at hs
          · rename_i hc
            cases hs
            obtain ⟨hkp, rfl, c3⟩ := hc
            have hk3 : hget s1.hp (8 * i) = some (.rows sz' rs') := by rw [f7]; simp [hget_hput]
            rw [hk2] at hk3; cases hk3
            obtain ⟨sz4, rs4, hk4, hrw⟩ := q2
            have hk4' : hget s1.hp (8 * i) = some (.rows sz4 rs4) := hk4
            rw [hk2] at hk4'; cases hk4'
            refine append_lab ho hi (hΓ _ _ hy) hcy q1 hk2 hkp g4 g5 (fun i' r j tt h1 h2 => ?_) c3 hrw
            obtain ⟨v, e1, e2⟩ := g6 i' r j tt h1 h2
            refine ⟨v, e1, e2.mono (fun _ _ => rfl) (fun b hb => (q3.dp b hb).1) (fun _ _ => rfl) (fun b hb => q4 b _ hb (fun e => ?_))⟩
            cases e; exact f4 rfl
          · cases hs
        · cases hs
      · cases hs
    · cases hs
  · cases hs
theorem append_ok (hΓ : TysOk P Γ) (h : SimR B ρ col s a w) {o : Oper} {args : Array Operand} {tys : Array TypeId} (ho : o.op = .call ⟨.builtin .append, args, tys⟩) (hs : stepOp Γ s o.dst (.call ⟨.builtin .append, args, tys⟩) = some s') : Done P Γ B s' a w o := by
  simp only [stepOp, Option.bind_eq_some_iff] at hs
  obtain ⟨i, hi, t, ht, y, hy, hs⟩ := hs
  split at hs
  · rename_i x z hargs
    obtain ⟨o1, o2, hao, rfl, rfl⟩ : ∃ o1 o2, args = #[o1, o2] ∧ s.ev o1 = x ∧ s.ev o2 = z := by
      match hl : args.toList, hargs with
      | [o1, o2], hargs =>
        simp [St.evs] at hargs
        exact ⟨o1, o2, by apply Array.ext'; simpa using hl, hargs.1, hargs.2⟩
      | [], hargs => simp [St.evs] at hargs
      | [_], hargs => simp [St.evs] at hargs
      | _ :: _ :: _ :: _, hargs => simp [St.evs] at hargs
    simp only [Option.bind_eq_some_iff] at hs
    obtain ⟨t2, ht2, yu, hyu, hs⟩ := hs
    split at hs
    · rename_i hsz2
      obtain rfl : tys = #[t, t2] := by
        apply Array.ext
        · simpa using hsz2
        · intro q h1 h2
          match q with
          | 0 => rw [Array.getElem?_eq_getElem h1] at ht; simpa using ht
          | 1 => rw [Array.getElem?_eq_getElem h1] at ht2; simpa using ht2
          | q + 2 => simp at h2; omega
      subst hao
      unfold appendOp at hs
      split at hs
      · rename_i k off n hz0
        split at hs
        · rename_i sz rs hk
          simp only [Option.bind_eq_some_iff] at hs
          obtain ⟨s1, hf, hs⟩ := hs
          obtain ⟨sz', rs', hk', hnp, hp, rfl⟩ := freeze_some hf
          rw [hk] at hk'; cases hk'
          obtain ⟨g1, g2, g3⟩ := h.freeze hk hnp hp
          have e1 := AVr.frz (k := k) hk g2 g3 _ _ (h.ev o1)
          have e2 := AVr.frz (k := k) hk g2 g3 _ _ (h.ev o2)
          rw [hz0] at e2
          simp only [AV.frz, if_true] at e2
          exact appendC_ok hΓ g1 ho hi hy hyu e1 e2 hs
        · cases hs
      · exact appendC_ok hΓ h ho hi hy hyu (h.ev o1) (h.ev o2) hs
    · cases hs
  · cases hs
theorem step_ok (hΓ : TysOk P Γ) (h : Sim B s a w) {o : Oper} (hs : stepOp Γ s o.dst o.op = some s') : Done P Γ B s' a w o := by
  obtain ⟨ρ, col, h⟩ := h
  cases ho : o.op with
  | alloc e => rw [ho] at hs; exact alloc_ok hΓ h ho hs
  | box e x => rw [ho] at hs; exact boxOp_ok hΓ h ho hs
  | buildSlice t n parts => rw [ho] at hs; exact buildSlice_ok hΓ h ho hs
  | makeSlice t l c => rw [ho] at hs; exact makeSlice_ok hΓ h ho hs
  | store t x z => rw [ho] at hs; exact storeOp_ok hΓ h ho hs
  | call c =>
    obtain ⟨cal, args, tys⟩ := c
    by_cases hc : cal = .builtin .append
    · subst hc; rw [ho] at hs; exact append_ok hΓ h ho hs
    · have hs' : (valOf Γ s o.op).map (fun v => s.put o.dst v) = some s' := by
        rw [ho] at hs ⊢
        cases cal with
        | value f => exact hs
        | invoke r m => exact hs
        | builtin b => cases b <;> first | exact hs | exact absurd rfl hc
      simp only [Option.map_eq_some_iff] at hs'
      obtain ⟨v, hv, rfl⟩ := hs'
      obtain ⟨u, h1', h2⟩ := val_ok hΓ h hv
      have h1 := h1' w (fun _ _ _ => rfl)
      exact ⟨_, _, h1, fun _ => WStep.same w, .inl ⟨_, rfl, _, _, h.put h2 o.dst⟩⟩
  | _ =>
    all_goals
      rw [ho] at hs
      simp only [stepOp, Option.map_eq_some_iff] at hs
      obtain ⟨v, hv, rfl⟩ := hs
      rw [← ho] at hv
      obtain ⟨u, h1', h2⟩ := val_ok hΓ h hv
      have h1 := h1' w (fun _ _ _ => rfl)
      exact ⟨_, _, h1, fun _ => WStep.same w, .inl ⟨_, rfl, _, _, h.put h2 o.dst⟩⟩
end
end Go.Proofs.YtcpfhonmdbhdbaaGreatDoor.Am
namespace Go.Proofs.YtcpfhonmdbhdbaaGreatDoor.Am
open Go
set_option linter.unusedVariables false
abbrev resKey : Nat := 9999999
def ResC (c : Cx) (col : Col) (i j : Nat) : AV → Value → Prop
  | .own x, v => Own c.w c.Dp (fun b => col b = some (resKey, i, j)) x v
  | .t x, v => Rd c.w c.Dp x v
  | .undef, _ => True
  | _, _ => False
def ResCs (c : Cx) (col : Col) (i : Nat) : Nat → List AV → List Value → Prop
  | _, [], [] => True
  | j, x :: xs, v :: vs => ResC c col i j x v ∧ ResCs c col i (j + 1) xs vs
  | _, _, _ => False
def passO : AV → Bool
  | .ptr k _ _ => decide (pin ≤ k)
  | .refw k => decide (pin ≤ k)
  | .ref k _ _ => decide (pin ≤ k)
  | .rop false _ _ => true
  | _ => false
def ResV (c : Cx) (col : Col) (i : Nat) (x : AV) (v : Value) : Prop :=
  match x with
  | .agg cs => ∃ vs : List Value, v = .agg vs.toArray ∧ ResCs c col i 0 cs vs
  | x => if passO x = true then AVr c x v else ResC c col i 0 x v
def ResVs (c : Cx) (col : Col) : Nat → List AV → List Value → Prop
  | _, [], [] => True
  | i, x :: xs, v :: vs => ResV c col i x v ∧ ResVs c col (i + 1) xs vs
  | _, _, _ => False
def ResR (c : Cx) (col : Col) (x : AV) (v : Value) : Prop :=
  match x with
  | .tup xs => ∃ vs : List Value, v = .tuple vs.toArray ∧ ResVs c col 0 xs vs
  | x => ResV c col 0 x v
def outCx (w : World) (D : Dm) (w' : World) (col : Col) : Cx where
  ρ := fun _ => none
  w := w'
  Dp := fun b => b < w'.heap.size ∧ (D b ∨ w.heap.size ≤ b) ∧ col b = none
  Dl := fun b => b < w'.heap.size
  hp := []
def inCx (w : World) (D : Dm) : Cx := ⟨fun _ => none, w, D, fun b => b < w.heap.size, []⟩
def Out (w : World) (D : Dm) (w' : World) (r : AV) (v : Value) : Prop :=
  WStep w w' none ∧ ∃ col : Col, (∀ b p, col b = some p → w.heap.size ≤ b ∧ b < w'.heap.size) ∧ ResR (outCx w D w' col) col r v
structure DmOk (w : World) (D : Dm) : Prop where
  lt : ∀ b, D b → b < w.heap.size
  gl : Glob w
def Spec (P : Program) (f : FuncId) (args : List AV) (Q : AV → Prop) : Prop :=
  ∀ (w : World) (D : Dm) (vs : List Value), DmOk w D → AVr.AVrs (inCx w D) args vs →
    Calls P f vs.toArray w fun e w' => ∃ v r, e = .returned v ∧ Q r ∧ Out w D w' r v
def undefs : Nat → List AV
  | 0 => []
  | n + 1 => .undef :: undefs n
theorem undefs_length (n : Nat) : (undefs n).length = n := by induction n <;> simp [undefs, *]
theorem gt_undefs (n i : Nat) : gt (undefs n) i = .undef := by
  induction n generalizing i with
  | zero => simp [undefs, gt]
  | succ n ih => cases i <;> simp [undefs, gt, ih]
theorem gt_append (l m : List AV) (i : Nat) : gt (l ++ m) i = if i < l.length then gt l i else gt m (i - l.length) := by
  induction l generalizing i with
  | nil => simp
  | cons a l ih => cases i with
    | zero => simp [gt]
    | succ i => simp [gt, ih]
theorem gt_get {l : List AV} {i : Nat} (h : i < l.length) : gt l i = l[i] := by
  induction l generalizing i with
  | nil => simp at h
  | cons a l ih => cases i with
    | zero => rfl
    | succ i => simp [gt, ih (by simpa using h)]
def entry (w : World) (D : Dm) : Base := ⟨w, D, fun _ => False, fun _ => none⟩
theorem SimR.enter {w : World} {D : Dm} {args : List AV} {vs : List Value} (hD : DmOk w D) (h : AVr.AVrs (inCx w D) args vs) (n : Nat) :
    SimR (entry w D) (fun _ => none) (fun _ => none) ⟨args ++ undefs (n - args.length), []⟩ { tmps := vs.toArray ++ Array.replicate (n - vs.toArray.size) Go.undef, defers := [] } w := by
  have hl := AVrs_length h
  have hle : (inCx w D).le (cx (entry w D) (fun _ => none) (fun _ => none) w []) fun _ => True :=
    ⟨fun _ _ hm => absurd rfl hm, fun m b _ hb => by simp [inCx, hget] at hb, fun b hb => ⟨⟨hD.lt b hb, .inl hb, rfl, fun k => by simp⟩, rfl⟩, fun b hb => ⟨⟨hb, fun k => by simp, fun i j => by simp⟩, rfl⟩, fun m b _ hb => rfl, fun _ _ _ _ _ => rfl⟩
  refine ⟨rfl, by simp [undefs_length, hl], ⟨rfl, rfl, rfl, DrLe.of_le (Nat.le_refl _), Nat.le_refl _, fun _ _ _ => rfl, (fun _ hx => hx.elim), (fun _ _ hb => by cases hb), fun _ _ _ => rfl, hD.gl, fun _ _ h => h⟩, fun i => ?_, fun k b hb => by simp [hget] at hb, fun _ _ => rfl, fun k k' b h => by simp at h, fun k b h => by simp at h, fun k b h => by simp at h, fun b p h => by simp at h, fun _ _ => rfl, rfl⟩
  simp only [gt_append]
  split
  · rename_i hi
    rw [gt_get hi]
    have := AVrs.mono hle _ _ h
    obtain ⟨v, hv, hr⟩ := AVrs_get this (List.getElem?_eq_getElem hi)
    have : (vs.toArray ++ Array.replicate (n - vs.toArray.size) Go.undef).getD i Go.undef = v := by
      rw [Array.getD_eq_getD_getElem?, Array.getElem?_append_left (by simp; omega)]
      simp [hv]
    rw [this]; exact hr
  · rw [gt_undefs]; trivial
def resAV (Γ : Env) (s : St) : ResultVar → Option AV
  | .tmp t => some (gt s.tm t)
  | .cell t ty => (Γ ty).bind fun y => loadAV y s (gt s.tm t)
def resAVs (Γ : Env) (s : St) : List ResultVar → Option (List AV)
  | [] => some []
  | x :: l => (resAV Γ s x).bind fun v => (resAVs Γ s l).map fun vs => v :: vs
def resCells (h : Hp) : List AV → Option (List AV × List Nat)
  | [] => some ([], [])
  | .t x :: l => (resCells h l).map fun r => (.t x :: r.1, r.2)
  | .nils sz :: l => (resCells h l).map fun r => (.own (T.list true sz []) :: r.1, r.2)
  | .refw k :: l => match hget h k with
    | some (.rows sz rs) => (resCells h l).bind fun r => if k ∈ r.2 ∨ pin ≤ k then none else some (.own (T.list true sz rs) :: r.1, k :: r.2)
    | _ => none
  | _ :: _ => none
def resVal (o : Bool) (h : Hp) : AV → Option (AV × List Nat)
  | .agg cs => (resCells h cs).map fun r => (.agg r.1, r.2)
  | .rop false row j => some (.rop false row j, [])
  | .ptr k i j => if o = true ∧ pin ≤ k then some (.ptr k i j, []) else none
  | .ref k i j => if o = true ∧ pin ≤ k then some (.ref k i j, []) else none
  | .refw k => if pin ≤ k then (if o = true then some (.refw k, []) else none) else (resCells h [.refw k]).bind fun r => (one r.1).map fun x => (x, r.2)
  | v => (resCells h [v]).bind fun r => (one r.1).map fun x => (x, r.2)
def resVals (o : Bool) (h : Hp) : List AV → Option (List AV × List Nat)
  | [] => some ([], [])
  | v :: l => (resVal o h v).bind fun r => (resVals o h l).bind fun q => if q.2.any (r.2.contains ·) || r.2.contains resKey then none else some (r.1 :: q.1, r.2 ++ q.2)
def tupOf : List AV → AV
  | [x] => x
  | l => .tup l
def refC : List AV → List Nat → List Nat
  | [], acc => acc
  | .ref k _ _ :: l, acc => refC l (if k ∈ acc ∨ pin ≤ k then acc else k :: acc)
  | .ls _ (some (k, _, _)) :: l, acc => refC l (if k ∈ acc ∨ pin ≤ k then acc else k :: acc)
  | _ :: l, acc => refC l acc
def refL : List AV → List Nat → List Nat
  | [], acc => acc
  | .agg cs :: l, acc => refL l (refC cs acc)
  | v :: l, acc => refL l (refC [v] acc)
def St.freezes (s : St) : List Nat → Option St
  | [] => some s
  | k :: l => (s.freeze k).bind fun s' => s'.freezes l
def RetW (Γ : Env) (rs : Array ResultVar) (Q : AV → Prop) (s : St) : Prop :=
  Sm (resAVs Γ s rs.toList) fun vs0 => Sm (s.freezes (refL vs0 [])) fun s1 => Sm (resAVs Γ s1 rs.toList) fun vs => Sm (resVals false s1.hp vs) fun r => Q (tupOf r.1)
def Kf (Γ : Env) (rs : Array ResultVar) (Q : AV → Prop) : Exit → St → Prop
  | .normal, s => RetW Γ rs Q s
  | .ret, s => RetW Γ rs Q s
  | _, _ => False
section
variable {P : Program} {Γ : Env} {B : Base} {ρ ρ' : Nat → Option Nat} {col col' : Col} {s s' : St} {a : Act} {w w' : World}
theorem resCells_close {h : Hp} : ∀ {xs rs : List AV} {ks : List Nat}, resCells h xs = some (rs, ks) → ∃ ts, closeCells h xs = some (ts, ks) ∧ rs.length = xs.length ∧
    ∀ (j : Nat) (r : AV), rs[j]? = some r → (∃ x, r = .t x ∧ xs[j]? = some (.t x)) ∨ ∃ t, r = .own t ∧ ts[j]? = some t := by
  intro xs
  induction xs with
  | nil => intro rs ks h1; simp [resCells] at h1; obtain ⟨rfl, rfl⟩ := h1; exact ⟨[], rfl, rfl, fun j r hj => by simp at hj⟩
  | cons x xs ih =>
    intro rs ks h1
    unfold resCells at h1
    split at h1
    · rename_i heq; cases heq
    · rename_i y l heq
      cases heq
      simp only [Option.map_eq_some_iff] at h1
      obtain ⟨⟨r, k⟩, e1, e2⟩ := h1
      cases e2
      obtain ⟨ts, c1, c2, c3⟩ := ih e1
      refine ⟨y.shared :: ts, by simp [closeCells, c1], by simp [c2], fun j r' hj => ?_⟩
      cases j with
      | zero => simp at hj; exact .inl ⟨y, hj.symm, rfl⟩
      | succ j => simpa using c3 j r' (by simpa using hj)
    · rename_i sz l heq
      cases heq
      simp only [Option.map_eq_some_iff] at h1
      obtain ⟨⟨r, k⟩, e1, e2⟩ := h1
      cases e2
      obtain ⟨ts, c1, c2, c3⟩ := ih e1
      refine ⟨.list true sz [] :: ts, by simp [closeCells, c1], by simp [c2], fun j r' hj => ?_⟩
      cases j with
      | zero => simp at hj; exact .inr ⟨_, hj.symm, rfl⟩
      | succ j => simpa using c3 j r' (by simpa using hj)
    · rename_i k l heq
      cases heq
      split at h1
      · rename_i sz rws hk
        simp only [Option.bind_eq_some_iff] at h1
        obtain ⟨⟨r, k'⟩, e1, e2⟩ := h1
        split at e2
        · cases e2
        · rename_i hn
          cases e2
          obtain ⟨ts, c1, c2, c3⟩ := ih e1
          refine ⟨.list true sz rws :: ts, by simp only [closeCells, hk, c1, Option.bind_some]; rw [if_neg hn], by simp [c2], fun j r' hj => ?_⟩
          cases j with
          | zero => simp at hj; exact .inr ⟨_, hj.symm, rfl⟩
          | succ j => simpa using c3 j r' (by simpa using hj)
      · cases h1
    · cases h1
def resSem (a : Act) (x : ResultVar) : Sem Value :=
  match x with
  | .tmp t => pure (a.tmps.getD t Go.undef)
  | .cell b t => do loadVar t (← asAddr (a.tmps.getD b Go.undef))
theorem resAVs_ok (hΓ : TysOk P Γ) (h : SimR B ρ col s a w) : ∀ {l : List ResultVar} {vs : List AV}, resAVs Γ s l = some vs →
    ∃ us : List Value, (l.mapM (resSem a)).run P w = .ok us w ∧ AVr.AVrs (cx B ρ col w s.hp) vs us := by
  intro l
  induction l with
  | nil => intro vs hv; simp [resAVs] at hv; subst hv; exact ⟨[], by simp, trivial⟩
  | cons x l ih =>
    intro vs hv
    simp only [resAVs, Option.bind_eq_some_iff, Option.map_eq_some_iff] at hv
    obtain ⟨v, hx, vs', hl, rfl⟩ := hv
    obtain ⟨us, e1, e2⟩ := ih hl
    have hone : ∃ u, (resSem a x).run P w = .ok u w ∧ AVr (cx B ρ col w s.hp) v u := by
      cases x with
      | tmp t =>
        simp [resAV] at hx
        subst hx
        exact ⟨_, rfl, h.tm t⟩
      | cell b t =>
        simp only [resAV, Option.bind_eq_some_iff] at hx
        obtain ⟨y, hy, hx⟩ := hx
        obtain ⟨u, h1', h2⟩ := load_ok h (hΓ _ _ hy) (h.tm b) hx
        have h1 := h1' w (fun _ _ => rfl)
        refine ⟨u, ?_, h2⟩
        have hp : ∃ ad, a.tmps.getD b Go.undef = .pointer (some ad) := by
          have hb := h.tm b
          generalize a.tmps.getD b Go.undef = ub at hb
          unfold loadAV at hx
          split at hx
          · rename_i k i j heq
            rw [heq] at hb
            obtain ⟨g, _, hm⟩ := hb
            revert hm; split <;> intro hm
            · exact ⟨_, hm.1⟩
            · exact ⟨_, hm⟩
            · exact hm.elim
          · rename_i heq
            rw [heq] at hb
            obtain ⟨g, off, rfl, _⟩ := hb
            exact ⟨_, rfl⟩
          · cases hx
        obtain ⟨ad, had⟩ := hp
        rw [had] at h1
        have h1' : (loadVar t ad).run P w = .ok u w := by simpa [Instr.loadAt, Instr.sureAddr] using h1
        simp only [resSem, Sem.run_bind, had, asAddr, Sem.run_pure, Result.andThen_ok, h1']
    obtain ⟨u, h1, h2⟩ := hone
    exact ⟨u :: us, by simp only [List.mapM_cons, Sem.run_bind, h1, Sem.run_pure, Result.andThen_ok, e1], h2, e2⟩
theorem ResC.mono {c c' : Cx} {i j : Nat} {x : AV} {v : Value} (h : ResC c col i j x v) (hD : ∀ b, c.Dp b → c'.Dp b ∧ c'.w.heap[b]? = c.w.heap[b]?) (hc : ∀ b j, col b = some (resKey, i, j) → col' b = some (resKey, i, j) ∧ c'.w.heap[b]? = c.w.heap[b]?) : ResC c' col' i j x v := by
  cases x <;> first | exact h.elim | skip
  · exact Rd.mono h (fun b hb => (hD b hb).2) (fun b hb => (hD b hb).1)
  · exact Own.mono h (fun b hb => (hD b hb).2) (fun b hb => (hD b hb).1) (fun b hb => (hc b j hb).2) (fun b hb => (hc b j hb).1)
  · trivial
theorem ResCs.mono {c c' : Cx} {i : Nat} (hD : ∀ b, c.Dp b → c'.Dp b ∧ c'.w.heap[b]? = c.w.heap[b]?) (hc : ∀ b j, col b = some (resKey, i, j) → col' b = some (resKey, i, j) ∧ c'.w.heap[b]? = c.w.heap[b]?) : ∀ {xs : List AV} {vs : List Value} {j : Nat}, ResCs c col i j xs vs → ResCs c' col' i j xs vs
  | [], [], _, _ => trivial
  | x :: xs, v :: vs, j, h => ⟨ResC.mono h.1 hD hc, ResCs.mono hD hc h.2⟩
  | [], _ :: _, _, h => h.elim
  | _ :: _, [], _, h => h.elim
theorem ResV.mono {c c' : Cx} {i : Nat} (hD : ∀ b, c.Dp b → c'.Dp b ∧ c'.w.heap[b]? = c.w.heap[b]?) (hc : ∀ b j, col b = some (resKey, i, j) → col' b = some (resKey, i, j) ∧ c'.w.heap[b]? = c.w.heap[b]?) {x : AV} {v : Value} (hA : passO x = true → AVr c x v → AVr c' x v) (h : ResV c col i x v) : ResV c' col' i x v := by
  cases x with
  | agg cs =>
    obtain ⟨vs, e, h⟩ := h
    exact ⟨vs, e, ResCs.mono hD hc h⟩
  | t y => exact ResC.mono (c := c) (col := col) (i := i) (j := 0) (x := .t y) h hD hc
  | own y => exact ResC.mono (c := c) (col := col) (i := i) (j := 0) (x := .own y) h hD hc
  | ptr k i' j => by_cases hp : passO (.ptr k i' j) = true
                  · simp only [ResV, hp, if_true] at h ⊢; exact hA hp h
                  · simp only [ResV, hp] at h; exact h.elim
  | refw k => by_cases hp : passO (.refw k) = true
              · simp only [ResV, hp, if_true] at h ⊢; exact hA hp h
              · simp only [ResV, hp] at h; exact h.elim
  | ref k i' j => by_cases hp : passO (.ref k i' j) = true
                  · simp only [ResV, hp, if_true] at h ⊢; exact hA hp h
                  · simp only [ResV, hp] at h; exact h.elim
  | rop l row j => cases l
                   · simp only [ResV, passO, if_true] at h ⊢; exact hA rfl h
                   · exact h.elim
  | undef => trivial
  | _ => exact h.elim
theorem ResVs.mono {c c' : Cx} (hD : ∀ b, c.Dp b → c'.Dp b ∧ c'.w.heap[b]? = c.w.heap[b]?) (hc : ∀ b i j, col b = some (resKey, i, j) → col' b = some (resKey, i, j) ∧ c'.w.heap[b]? = c.w.heap[b]?) : ∀ {xs : List AV} {vs : List Value} {i : Nat}, (∀ x v, x ∈ xs → passO x = true → AVr c x v → AVr c' x v) → ResVs c col i xs vs → ResVs c' col' i xs vs
  | [], [], _, _, _ => trivial
  | x :: xs, v :: vs, i, hA, h => ⟨ResV.mono hD (fun b j => hc b i j) (hA x v (by simp)) h.1, ResVs.mono hD hc (fun x v hx => hA x v (by simp [hx])) h.2⟩
  | [], _ :: _, _, _, h => h.elim
  | _ :: _, [], _, _, h => h.elim
theorem ResVs_length {c : Cx} : ∀ {xs : List AV} {vs : List Value} {i : Nat}, ResVs c col i xs vs → xs.length = vs.length
  | [], [], _, _ => rfl
  | x :: xs, v :: vs, i, h => by simp [ResVs_length h.2]
  | [], _ :: _, _, h => h.elim
  | _ :: _, [], _, h => h.elim
theorem ResCs_of {c : Cx} {i : Nat} {rs : List AV} {us : List Value} (hl : rs.length = us.length) : ∀ n, (∀ (j : Nat) (r : AV) (u : Value), rs[j]? = some r → us[j]? = some u → ResC c col i (n + j) r u) → ResCs c col i n rs us := by
  induction rs generalizing us with
  | nil => intro n h; cases us <;> first | trivial | simp at hl
  | cons r rs ih =>
    intro n h
    cases us with
    | nil => simp at hl
    | cons u us =>
      exact ⟨by simpa using h 0 r u rfl rfl, ih (by simpa using hl) (n + 1) (fun j r' u' hj hu => by
        have := h (j + 1) r' u' (by simpa using hj) (by simpa using hu)
        rwa [show n + (j + 1) = n + 1 + j by omega] at this)⟩
theorem SimR.resCells (h : SimR B ρ col s a w) (i : Nat) {xs rs : List AV} {us : List Value} {ks : List Nat} (hx : AVr.AVrs (cx B ρ col w s.hp) xs us) (hr : Am.resCells s.hp xs = some (rs, ks)) (hk : resKey ∉ ks) :
    ∃ ρ' col', SimR B ρ' col' (s.drops ks) a w ∧ ((cx B ρ col w s.hp).le (cx B ρ' col' w (s.drops ks).hp) fun m => m ∉ ks) ∧ (∀ m, m ∉ ks → ρ' m = ρ m) ∧ (∀ b m i j, m ∉ ks → col b = some (m, i, j) → col' b = some (m, i, j)) ∧ ResCs (cx B ρ' col' w (s.drops ks).hp) col' i 0 rs us := by
  obtain ⟨ts, c1, c2, c3⟩ := resCells_close hr
  obtain ⟨ρ', col', h1, h2, h3, h4, h5, h6, h7⟩ := h.close (fun j => (resKey, i, j)) 0 hx c1 (fun _ => hk) (fun _ => (by decide : resKey ≠ limKey))
  refine ⟨ρ', col', h1, h2, h4, h6, ResCs_of (by rw [c2]; exact AVrs_length hx) 0 (fun j r u hj hu => ?_)⟩
  rcases c3 j r hj with ⟨x, rfl, hxj⟩ | ⟨t, rfl, ht⟩
  · obtain ⟨v, hv, hr⟩ := AVrs_get hx hxj
    rw [hu] at hv; cases hv
    exact Rd.mono (x := x) hr (fun b hb => rfl) (fun b hb => (h2.dp b hb).1)
  · have := h7 j t u ht hu
    rw [Nat.zero_add] at this ⊢
    exact this
theorem AVr.pass {c c' : Cx} {ok : Nat → Prop} (h : c.le c' ok) (hp : ∀ k, pin ≤ k → ok k) : ∀ {x : AV} {v : Value}, passO x = true → AVr c x v → AVr c' x v := by
  intro x v hx hv
  cases x with
  | ptr m i j =>
    have hm := hp m (by simpa [passO] using hx)
    obtain ⟨b, h1, h2⟩ := hv
    cases hk : hget c.hp m with
    | none => simp [hk] at h2
    | some blk =>
      obtain ⟨b', h3, h4⟩ := h.hp m _ hm hk
      refine ⟨b, by rw [h.ρ m hm (by simp [hk])]; exact h1, ?_⟩
      rw [h3]
      cases blk <;> cases b' <;> simp [Blk.sim] at h4 <;> simp [hk] at h2 ⊢
      · exact h2
      · rw [← h4.1]; exact h2
  | refw m =>
    have hm := hp m (by simpa [passO] using hx)
    obtain ⟨sz, rs, h1, h2⟩ := hv
    obtain ⟨b', h3, h4⟩ := h.hp m _ hm h1
    cases b' with
    | box => exact h4.elim
    | rows sz' rs' => obtain ⟨rfl, hl⟩ := h4; exact ⟨sz, rs', h3, h2.mono (h.ρ m hm (by simp [h1])) hl (fun b hb => h.sh m b hm hb)⟩
  | ref m off len =>
    have hm := hp m (by simpa [passO] using hx)
    obtain ⟨sz, rs, h1, h0, h2⟩ := hv
    obtain ⟨b', h3, h4⟩ := h.hp m _ hm h1
    cases b' with
    | box => exact h4.elim
    | rows sz' rs' => obtain ⟨rfl, hl⟩ := h4; exact ⟨sz, rs', h3, by omega, by rw [h.ρ m hm (by simp [h1])]; exact h2⟩
  | rop l row j =>
    cases l
    · obtain ⟨b, off, h1, h2, h3⟩ := hv
      simp only [Bool.false_eq_true, if_false] at h2 h3
      refine ⟨b, off, h1, by simpa using (h.dp b h2).1, fun q x hq => ?_⟩
      obtain ⟨u, h4, h5⟩ := h3 q x hq
      exact ⟨u, by rw [cell_same (h.dp b h2).2]; exact h4, by simpa using h5.mono (fun b hb => (h.dp b hb).2) (fun b hb => (h.dp b hb).1)⟩
    · cases hx
  | _ => cases hx
theorem resCells_pin {h : Hp} : ∀ {xs rs : List AV} {ks : List Nat}, resCells h xs = some (rs, ks) → ∀ k ∈ ks, k < pin := by
  intro xs
  induction xs with
  | nil => intro rs ks h1 k hk; simp [Am.resCells] at h1; obtain ⟨_, rfl⟩ := h1; cases hk
  | cons x xs ih =>
    intro rs ks h1 k hk
    unfold Am.resCells at h1
    split at h1
    · rename_i heq; cases heq
    · rename_i y l heq
      cases heq
      simp only [Option.map_eq_some_iff] at h1
      obtain ⟨⟨r, k'⟩, e1, e2⟩ := h1
      cases e2
      exact ih e1 k hk
    · rename_i y l heq
      cases heq
      simp only [Option.map_eq_some_iff] at h1
      obtain ⟨⟨r, k'⟩, e1, e2⟩ := h1
      cases e2
      exact ih e1 k hk
    · rename_i m l heq
      cases heq
      split at h1
      · simp only [Option.bind_eq_some_iff] at h1
        obtain ⟨⟨r, k'⟩, e1, e2⟩ := h1
        split at e2
        · cases e2
        · rename_i hn
          cases e2
          simp only [not_or] at hn
          rcases List.mem_cons.1 hk with rfl | hk
          · omega
          · exact ih e1 k hk
      · cases h1
    · cases h1
theorem SimR.resVal (h : SimR B ρ col s a w) {o : Bool} (i : Nat) {x r : AV} {u : Value} {ks : List Nat} (hx : AVr (cx B ρ col w s.hp) x u) (hr : Am.resVal o s.hp x = some (r, ks)) (hk : resKey ∉ ks) :
    ∃ ρ' col', SimR B ρ' col' (s.drops ks) a w ∧ ((cx B ρ col w s.hp).le (cx B ρ' col' w (s.drops ks).hp) fun m => m ∉ ks) ∧ (∀ m, m ∉ ks → ρ' m = ρ m) ∧ (∀ b m i j, m ∉ ks → col b = some (m, i, j) → col' b = some (m, i, j)) ∧ (∀ k ∈ ks, k < pin) ∧ ResV (cx B ρ' col' w (s.drops ks).hp) col' i r u := by
  have hpass : passO x = true → r = x → ks = [] → ∃ ρ' col', SimR B ρ' col' (s.drops ks) a w ∧ ((cx B ρ col w s.hp).le (cx B ρ' col' w (s.drops ks).hp) fun m => m ∉ ks) ∧ (∀ m, m ∉ ks → ρ' m = ρ m) ∧ (∀ b m i j, m ∉ ks → col b = some (m, i, j) → col' b = some (m, i, j)) ∧ (∀ k ∈ ks, k < pin) ∧ ResV (cx B ρ' col' w (s.drops ks).hp) col' i r u := by
    intro hp e1 e2
    subst e1 e2
    refine ⟨ρ, col, h, SimR.refl_le _ _ _ _ _ _, fun _ _ => rfl, fun _ _ _ _ _ h => h, fun k hk => (by cases hk), ?_⟩
    cases r <;> first | (simp only [ResV, hp, if_true]; exact hx) | cases hp
  have hone : (Am.resCells s.hp [x]).bind (fun r => (one r.1).map fun y => (y, r.2)) = some (r, ks) → ∃ ρ' col', SimR B ρ' col' (s.drops ks) a w ∧ ((cx B ρ col w s.hp).le (cx B ρ' col' w (s.drops ks).hp) fun m => m ∉ ks) ∧ (∀ m, m ∉ ks → ρ' m = ρ m) ∧ (∀ b m i j, m ∉ ks → col b = some (m, i, j) → col' b = some (m, i, j)) ∧ (∀ k ∈ ks, k < pin) ∧ ResV (cx B ρ' col' w (s.drops ks).hp) col' i r u := by
    intro hr
    simp only [Option.bind_eq_some_iff, Option.map_eq_some_iff] at hr
    obtain ⟨⟨rs, k⟩, h1, y, h2, h3⟩ := hr
    cases h3
    obtain ⟨ρ', col', g1, g2, g3, g4, g5⟩ := h.resCells i (xs := [x]) (us := [u]) ⟨hx, trivial⟩ h1 hk
    refine ⟨ρ', col', g1, g2, g3, g4, resCells_pin h1, ?_⟩
    match rs, h2, g5 with
    | [y], h2, g5 =>
      simp [one] at h2
      subst h2
      have := g5.1
      cases y <;> first | exact this.elim | exact this
    | [], h2, _ => simp [one] at h2
    | _ :: _ :: _, h2, _ => simp [one] at h2
  cases x with
  | agg cs =>
    simp only [Am.resVal, Option.map_eq_some_iff] at hr
    obtain ⟨⟨rs, k⟩, h1, h2⟩ := hr
    cases h2
    obtain ⟨vs, e, hvs⟩ := hx
    obtain ⟨ρ', col', g1, g2, g3, g4, g5⟩ := h.resCells i hvs h1 hk
    exact ⟨ρ', col', g1, g2, g3, g4, resCells_pin h1, vs, e, g5⟩
  | rop l row j =>
    cases l
    · simp only [Am.resVal, Option.some.injEq, Prod.mk.injEq] at hr
      exact hpass rfl hr.1.symm hr.2.symm
    · exact hone hr
  | ptr k i' j =>
    simp only [Am.resVal] at hr
    split at hr
    · rename_i hc
      simp only [Option.some.injEq, Prod.mk.injEq] at hr
      exact hpass (by simpa [passO] using hc.2) hr.1.symm hr.2.symm
    · cases hr
  | ref k i' j =>
    simp only [Am.resVal] at hr
    split at hr
    · rename_i hc
      simp only [Option.some.injEq, Prod.mk.injEq] at hr
      exact hpass (by simpa [passO] using hc.2) hr.1.symm hr.2.symm
    · cases hr
  | refw k =>
    simp only [Am.resVal] at hr
    split at hr
    · rename_i hc
      split at hr
      · simp only [Option.some.injEq, Prod.mk.injEq] at hr
        exact hpass (by simpa [passO] using hc) hr.1.symm hr.2.symm
      · cases hr
    · exact hone hr
  | _ => exact hone hr
theorem resCells_keys {h h' : Hp} {bad : List Nat} (hr : ∀ k sz rs, k ∉ bad → hget h k = some (.rows sz rs) → hget h' k = some (.rows sz rs)) : ∀ {xs rs : List AV} {ks : List Nat}, resCells h xs = some (rs, ks) → (∀ k ∈ ks, k ∉ bad) → resCells h' xs = some (rs, ks) := by
  intro xs
  induction xs with
  | nil => intro rs ks h1 _; exact h1
  | cons x xs ih =>
    intro rs ks h1 hk
    unfold resCells at h1
    split at h1
    · rename_i heq; cases heq
    · rename_i y l heq
      cases heq
      simp only [Option.map_eq_some_iff] at h1
      obtain ⟨⟨r, k⟩, e1, e2⟩ := h1
      cases e2
      simp [resCells, ih e1 hk]
    · rename_i y l heq
      cases heq
      simp only [Option.map_eq_some_iff] at h1
      obtain ⟨⟨r, k⟩, e1, e2⟩ := h1
      cases e2
      simp [resCells, ih e1 hk]
    · rename_i k l heq
      cases heq
      split at h1
      · rename_i sz rws hg
        simp only [Option.bind_eq_some_iff] at h1
        obtain ⟨⟨r, k'⟩, e1, e2⟩ := h1
        split at e2
        · cases e2
        · rename_i hn
          cases e2
          have := ih e1 (fun k hk' => hk k (by simp [hk']))
          simp only [resCells, hr k sz rws (hk k (by simp)) hg, this, Option.bind_some]
          rw [if_neg hn]
      · cases h1
    · cases h1
theorem res_move {c c' : Cx} {bad : List Nat} (hle : c.le c' fun m => m ∉ bad) (hr : ∀ k sz rs, k ∉ bad → hget c.hp k = some (.rows sz rs) → hget c'.hp k = some (.rows sz rs)) {xs rs : List AV} {us : List Value} {ks : List Nat} (h : resCells c.hp xs = some (rs, ks)) (hx : AVr.AVrs c xs us) (hk : ∀ k ∈ ks, k ∉ bad) : AVr.AVrs c' xs us := by
  obtain ⟨ts, c1, _, _⟩ := resCells_close h
  exact (close_move hle c1 hx hk hr).2
theorem SimR.resVals {o : Bool} : ∀ {xs rs : List AV} {us : List Value} {ks : List Nat} (i : Nat), SimR B ρ col s a w → AVr.AVrs (cx B ρ col w s.hp) xs us → Am.resVals o s.hp xs = some (rs, ks) →
    ∃ ρ' col', SimR B ρ' col' (s.drops ks) a w ∧ ((cx B ρ col w s.hp).le (cx B ρ' col' w (s.drops ks).hp) fun m => m ∉ ks) ∧ resKey ∉ ks ∧ (∀ k ∈ ks, k < pin) ∧ (∀ m, m ∉ ks → ρ' m = ρ m) ∧ (∀ b m i j, m ∉ ks → col b = some (m, i, j) → col' b = some (m, i, j)) ∧ ResVs (cx B ρ' col' w (s.drops ks).hp) col' i rs us := by
  intro xs
  induction xs with
  | nil =>
    intro rs us ks i h hx hr
    simp [Am.resVals] at hr
    obtain ⟨rfl, rfl⟩ := hr
    cases us with
    | cons => exact hx.elim
    | nil => exact ⟨ρ, col, h, SimR.refl_le _ _ _ _ _ _, by simp, fun k hk => (by cases hk), fun _ _ => rfl, fun _ _ _ _ _ h => h, trivial⟩
  | cons x xs ih =>
    intro rs us ks i h hx hr
    cases us with
    | nil => exact hx.elim
    | cons u us =>
      simp only [Am.resVals, Option.bind_eq_some_iff] at hr
      obtain ⟨⟨r, k1⟩, h1, ⟨q, k2⟩, h2, hr⟩ := hr
      split at hr
      · cases hr
      · rename_i hc
        cases hr
        simp only [Bool.or_eq_true, not_or] at hc
        obtain ⟨hdis, hres⟩ := hc
        have hdis' : ∀ k ∈ k1, k ∉ k2 := by
          intro k hk1 hk2
          exact hdis (List.any_eq_true.2 ⟨k, hk2, by simpa using hk1⟩)
        have hres' : resKey ∉ k1 := by simpa using hres
        obtain ⟨ρ1, col1, f1, f2, f3, f4, f5, f6, f7⟩ := ih (i + 1) h hx.2 h2
        have hkeep : ∀ k sz rs, k ∉ k2 → hget s.hp k = some (.rows sz rs) → hget (s.drops k2).hp k = some (.rows sz rs) := fun k sz rs hk hg => hget_drops k2 s hk hg
        have hnp : ∀ k, pin ≤ k → k ∉ k2 := fun k hk hm => by have := f4 k hm; omega
        have hpass : passO x = true → Am.resVal o s.hp x = some (r, k1) → Am.resVal o (s.drops k2).hp x = some (r, k1) → Am.resVal o (s.drops k2).hp x = some (r, k1) ∧ AVr (cx B ρ1 col1 w (s.drops k2).hp) x u := fun hp _ he => ⟨he, AVr.pass f2 hnp hp hx.1⟩
        have hmove : Am.resVal o (s.drops k2).hp x = some (r, k1) ∧ AVr (cx B ρ1 col1 w (s.drops k2).hp) x u := by
          have hone : (Am.resCells s.hp [x]).bind (fun r => (one r.1).map fun y => (y, r.2)) = some (r, k1) → (Am.resCells (s.drops k2).hp [x]).bind (fun r => (one r.1).map fun y => (y, r.2)) = some (r, k1) ∧ AVr (cx B ρ1 col1 w (s.drops k2).hp) x u := by
            intro hr
            simp only [Option.bind_eq_some_iff, Option.map_eq_some_iff] at hr
            obtain ⟨⟨rs, k⟩, e1, y, e2, e3⟩ := hr
            cases e3
            refine ⟨?_, (res_move f2 hkeep (us := [u]) e1 ⟨hx.1, trivial⟩ hdis').1⟩
            rw [resCells_keys hkeep e1 hdis']
            simp [e2]
          cases x with
          | agg cs =>
            simp only [Am.resVal, Option.map_eq_some_iff] at h1
            obtain ⟨⟨rs, k⟩, e1, e2⟩ := h1
            cases e2
            obtain ⟨vs, e, hvs⟩ := hx.1
            exact ⟨by simp [Am.resVal, resCells_keys hkeep e1 hdis'], vs, e, res_move f2 hkeep e1 hvs hdis'⟩
          | rop l row j =>
            cases l
            · exact hpass rfl h1 h1
            · exact hone h1
          | ptr k i' j =>
            simp only [Am.resVal] at h1 hpass ⊢
            split at h1
            · rename_i hc
              rw [if_pos hc] at hpass ⊢
              exact hpass (by simpa [passO] using hc.2) h1 h1
            · cases h1
          | ref k i' j =>
            simp only [Am.resVal] at h1 hpass ⊢
            split at h1
            · rename_i hc
              rw [if_pos hc] at hpass ⊢
              exact hpass (by simpa [passO] using hc.2) h1 h1
            · cases h1
          | refw k =>
            simp only [Am.resVal] at h1 hpass ⊢
            split at h1
            · rename_i hc
              simp only [if_pos hc] at hpass ⊢
              exact hpass (by simpa [passO] using hc) h1 h1
            · rename_i hc
              rw [if_neg hc]
              exact hone h1
          | _ => exact hone h1
        obtain ⟨ρ2, col2, g1, g2, g3, g4, g5, g6⟩ := f1.resVal i hmove.2 hmove.1 hres'
        have hnp1 : ∀ k, pin ≤ k → k ∉ k1 := fun k hk hm => by have := g5 k hm; omega
        refine ⟨ρ2, col2, by rw [drops_append]; exact g1, ?_, by simp [hres', f3], fun k hk => ?_, fun m hm => ?_, fun b m i j hm hb => ?_, ?_, ?_⟩
        · rw [drops_append]
          refine ⟨fun m hm hn => ?_, fun m b hm hb => ?_, fun b hb => ⟨(g2.dp b (f2.dp b hb).1).1, rfl⟩, fun b hb => ⟨(g2.dl b (f2.dl b hb).1).1, rfl⟩, fun _ _ _ _ => rfl, fun _ _ _ _ _ => rfl⟩
          · simp only [List.mem_append, not_or] at hm
            obtain ⟨b0, hb0⟩ := Option.ne_none_iff_exists'.1 hn
            obtain ⟨b', e1, e2⟩ := f2.hp m b0 hm.2 hb0
            exact (g3 m hm.1).trans (f2.ρ m hm.2 hn)
          · simp only [List.mem_append, not_or] at hm
            obtain ⟨b', e1, e2⟩ := f2.hp m b hm.2 hb
            obtain ⟨b'', e3, e4⟩ := g2.hp m b' hm.1 e1
            refine ⟨b'', e3, ?_⟩
            cases b <;> cases b' <;> cases b'' <;> simp [Blk.sim] at e2 e4 ⊢
            exact ⟨e2.1.trans e4.1, e2.2.trans e4.2⟩
        · rcases List.mem_append.1 hk with hk | hk
          · exact g5 k hk
          · exact f4 k hk
        · simp only [List.mem_append, not_or] at hm
          exact (g3 m hm.1).trans (f5 m hm.2)
        · simp only [List.mem_append, not_or] at hm
          exact g4 b m i j hm.1 (f6 b m i j hm.2 hb)
        · rw [drops_append]; exact g6
        · rw [drops_append]
          exact ResVs.mono (fun b hb => g2.dp b hb) (fun b i j hb => ⟨g4 b _ _ _ hres' hb, rfl⟩) (fun x v _ hp hv => AVr.pass g2 hnp1 hp hv) f7
theorem Sim.freezes (h : Sim B s a w) : ∀ {ks : List Nat}, s.freezes ks = some s' → Sim B s' a w := by
  intro ks
  induction ks generalizing s with
  | nil => intro hs; simp [St.freezes] at hs; subst hs; exact h
  | cons k ks ih =>
    intro hs
    simp only [St.freezes, Option.bind_eq_some_iff] at hs
    obtain ⟨s1, h1, h2⟩ := hs
    obtain ⟨sz, rs, hk, hn, hp, rfl⟩ := freeze_some h1
    obtain ⟨ρ, col, h⟩ := h
    exact ih ⟨_, _, (h.freeze hk hn hp).1⟩ h2
theorem resCells_passes {h : Hp} : ∀ {xs rs : List AV} {ks : List Nat}, resCells h xs = some (rs, ks) → ∀ x ∈ rs, passO x = false := by
  intro xs rs ks h1 x hx
  obtain ⟨ts, _, _, h3⟩ := resCells_close h1
  obtain ⟨j, hj⟩ := List.getElem?_of_mem hx
  rcases h3 j x hj with ⟨y, rfl, _⟩ | ⟨y, rfl, _⟩ <;> rfl
theorem resVal_closed {h : Hp} {x r : AV} {ks : List Nat} (hr : resVal false h x = some (r, ks)) (hp : passO r = true) : ∃ row j, r = .rop false row j := by
  have hone : (Am.resCells h [x]).bind (fun r => (one r.1).map fun y => (y, r.2)) = some (r, ks) → ∃ row j, r = .rop false row j := by
    intro hr
    simp only [Option.bind_eq_some_iff, Option.map_eq_some_iff] at hr
    obtain ⟨⟨rs, k⟩, e1, y, e2, e3⟩ := hr
    cases e3
    match rs, e2 with
    | [y'], e2 =>
      simp [one] at e2
      subst e2
      rw [resCells_passes e1 y' (by simp)] at hp; cases hp
    | [], e2 => simp [one] at e2
    | _ :: _ :: _, e2 => simp [one] at e2
  cases x with
  | agg cs =>
    simp only [Am.resVal, Option.map_eq_some_iff] at hr
    obtain ⟨⟨rs, k⟩, e1, e2⟩ := hr
    cases e2
    cases hp
  | rop l row j =>
    cases l
    · simp only [Am.resVal, Option.some.injEq, Prod.mk.injEq] at hr
      exact ⟨row, j, hr.1.symm⟩
    · exact hone hr
  | ptr k i' j => simp [Am.resVal] at hr
  | ref k i' j => simp [Am.resVal] at hr
  | refw k =>
    simp only [Am.resVal, Bool.false_eq_true, if_false] at hr
    split at hr
    · cases hr
    · exact hone hr
  | _ => exact hone hr
theorem resVals_closed {h : Hp} : ∀ {xs rs : List AV} {ks : List Nat}, resVals false h xs = some (rs, ks) → ∀ x ∈ rs, passO x = true → ∃ row j, x = .rop false row j := by
  intro xs
  induction xs with
  | nil => intro rs ks hr x hx; simp [Am.resVals] at hr; rw [hr.1] at hx; cases hx
  | cons y xs ih =>
    intro rs ks hr x hx hp
    simp only [Am.resVals, Option.bind_eq_some_iff] at hr
    obtain ⟨⟨r, k1⟩, h1, ⟨q, k2⟩, h2, hr⟩ := hr
    split at hr
    · cases hr
    · cases hr
      rcases List.mem_cons.1 hx with rfl | hx
      · exact resVal_closed h1 hp
      · exact ih h2 x hx hp
theorem ret_ok (hΓ : TysOk P Γ) {D : Dm} {w0 : World} {fn : Func} {Q : AV → Prop} (h : Sim (entry w0 D) s a w) (hr : RetW Γ fn.results Q s) : a.defers = [] ∧ ∃ v, (results fn a.tmps).run P w = .ok v w ∧ ∃ r, Q r ∧ Out w0 D w r v := by
  obtain ⟨_, _, s1, hs1, vs, h1, ⟨rs, ks⟩, h2, hq⟩ := hr
  obtain ⟨ρ, col, h⟩ := h.freezes hs1
  obtain ⟨us, e1, e2⟩ := resAVs_ok hΓ h h1
  obtain ⟨ρ', col', g1, g2, g3, _, _, _, g4⟩ := h.resVals 0 e2 h2
  have hnp : ∀ x ∈ rs, passO x = true → ∃ row j, x = .rop false row j := resVals_closed h2
  refine ⟨h.defers, if hs : us.toArray.size = 1 then us.toArray[0] else .tuple us.toArray, ?_, tupOf rs, hq, ?_⟩
  · have hres : results fn a.tmps = (do let vs ← fn.results.mapM (resSem a); pure (if h : vs.size = 1 then vs[0] else .tuple vs)) := by
      rfl
    obtain ⟨l, hl⟩ : ∃ l : List ResultVar, fn.results = l.toArray := ⟨fn.results.toList, by simp⟩
    rw [hl] at e1
    rw [hres, hl]
    simp only [List.mapM_toArray, Sem.run_bind, Sem.run_map, e1, Result.andThen_ok]
    rfl
  · refine ⟨⟨h.keep.os, h.keep.tape, h.keep.output, h.keep.drawn, h.keep.size, fun b hb _ => h.keep.block b hb (fun hf => hf)⟩, fun b => match col' b with | some (k, i, j) => if k = resKey then some (k, i, j) else none | none => none, fun b p hb => ?_, ?_⟩
    · cases hc : col' b with
      | none => simp [hc] at hb
      | some p' =>
        have := g1.colb b p' hc
        exact ⟨this.2.resolve_left (fun hf => hf), this.1⟩
    · have hout : ResVs (outCx w0 D w (fun b => match col' b with | some (k, i, j) => if k = resKey then some (k, i, j) else none | none => none)) (fun b => match col' b with | some (k, i, j) => if k = resKey then some (k, i, j) else none | none => none) 0 rs us := by
        have hdp : ∀ b, (cx (entry w0 D) ρ' col' w (s1.drops ks).hp).Dp b → (outCx w0 D w (fun b => match col' b with | some (k, i, j) => if k = resKey then some (k, i, j) else none | none => none)).Dp b := fun b hb => by
          refine ⟨hb.1, hb.2.1, ?_⟩
          have : col' b = none := hb.2.2.1
          simp only [this]
        refine ResVs.mono (c := cx (entry w0 D) ρ' col' w (s1.drops ks).hp) (c' := outCx w0 D w _) (fun b hb => ⟨hdp b hb, rfl⟩) (fun b i j hb => ⟨?_, rfl⟩) (fun x v hx hp hv => ?_) g4
        · simp only [hb, if_true]
        · obtain ⟨row, j, rfl⟩ := hnp x hx hp
          obtain ⟨b, off, h1, h2, h3⟩ := hv
          simp only [Bool.false_eq_true, if_false] at h2 h3
          refine ⟨b, off, h1, by simpa using hdp b h2, fun q x hq => ?_⟩
          obtain ⟨u, h4, h5⟩ := h3 q x hq
          exact ⟨u, h4, by simp only [Bool.false_eq_true, if_false]; exact h5.mono (fun b hb => rfl) hdp⟩
      have hlen := ResVs_length hout
      match rs, us, hout, hlen with
      | [r], [u], hout, _ =>
        have := hout.1
        cases r <;> first | exact this | exact this.elim
      | [], [], hout, _ => exact ⟨[], rfl, trivial⟩
      | r :: r' :: rs, u :: u' :: us, hout, _ => exact ⟨_, rfl, hout⟩
end
end Go.Proofs.YtcpfhonmdbhdbaaGreatDoor.Am
namespace Go.Proofs.YtcpfhonmdbhdbaaGreatDoor.Am
open Go
set_option linter.unusedVariables false
def bindCells (h : Hp) (n : Nat) : List AV → Option (List AV × Hp × Nat)
  | [] => some ([], h, n)
  | .t x :: l => (bindCells h n l).map fun r => (.t x :: r.1, r.2)
  | .undef :: l => (bindCells h n l).map fun r => (.undef :: r.1, r.2)
  | .own (.list true sz rs) :: l => if hget h n = none ∧ n < pin then (bindCells (hput h n (.rows sz rs)) (n + 1) l).map fun r => (.refw n :: r.1, r.2) else none
  | .own (.list false sz rs) :: l => (bindCells h n l).map fun r => (.t (.list false sz rs) :: r.1, r.2)
  | .own (.int k m) :: l => (bindCells h n l).map fun r => (.t (.int k m) :: r.1, r.2)
  | .own (.bool b) :: l => (bindCells h n l).map fun r => (.t (.bool b) :: r.1, r.2)
  | .own (.str b) :: l => (bindCells h n l).map fun r => (.t (.str b) :: r.1, r.2)
  | _ :: _ => none
def bindVal (h : Hp) (n : Nat) : AV → Option (AV × Hp × Nat)
  | .agg cs => (bindCells h n cs).map fun r => (.agg r.1, r.2)
  | .ptr k i j => some (.ptr k i j, h, n)
  | .refw k => some (.refw k, h, n)
  | .ref k i j => some (.ref k i j, h, n)
  | .rop false row j => some (.rop false row j, h, n)
  | v => (bindCells h n [v]).bind fun r => (one r.1).map fun x => (x, r.2)
def bindVals (h : Hp) (n : Nat) : List AV → Option (List AV × Hp × Nat)
  | [] => some ([], h, n)
  | v :: l => (bindVal h n v).bind fun r => (bindVals r.2.1 r.2.2 l).map fun q => (r.1 :: q.1, q.2)
def bindR (s : St) (d : Option Tmp) (r : AV) : Option St :=
  match r with
  | .tup l => (bindVals s.hp (8 * d.getD 0 + 1) l).map fun q => (⟨s.tm, q.2.1⟩ : St).put d (.tup q.1)
  | v => (bindVal s.hp (8 * d.getD 0 + 1) v).map fun q => (⟨s.tm, q.2.1⟩ : St).put d q.1
section
variable {P : Program} {Γ : Env} {B : Base} {ρ ρ' : Nat → Option Nat} {col col' : Col} {s s' : St} {a : Act} {w w' : World}
theorem SimR.adopt (h : SimR B ρ col s a w) {i j k sz : Nat} {rs : List (List T)} {v : Value} (hk : hget s.hp k = none) (hp : k < pin) (hO : Own w (cx B ρ col w s.hp).Dp (fun b => col b = some (limKey, i, j)) (.list true sz rs) v) :
    ∃ ρ' col', SimR B ρ' col' ⟨s.tm, hput s.hp k (.rows sz rs)⟩ a w ∧ ((cx B ρ col w s.hp).le (cx B ρ' col' w (hput s.hp k (.rows sz rs))) fun _ => True) ∧ AVr (cx B ρ' col' w (hput s.hp k (.rows sz rs))) (.refw k) v ∧
      (∀ b p, col b = some p → p ≠ (limKey, i, j) → col' b = some p) := by
  have hgp : ∀ m, hget (hput s.hp k (.rows sz rs)) m = if k = m then some (.rows sz rs) else hget s.hp m := fun m => hget_hput _ _ _ _
  have hhp : ∀ m b, hget s.hp m = some b → ∃ b', hget (hput s.hp k (.rows sz rs)) m = some b' ∧ b.sim b' := by
    intro m b hb
    have : k ≠ m := fun e => by rw [e, hb] at hk; cases hk
    exact ⟨b, by rw [hgp, if_neg this]; exact hb, blk_sim_refl b⟩
  generalize hS : (fun b => col b = some (limKey, i, j)) = S at hO
  generalize hx : T.list true sz rs = x at hO
  cases hO with
  | rd _ x v hf => subst hx; exact hf.elim
  | nil _ sz' ad =>
    cases hx
    have hle : (cx B ρ col w s.hp).le (cx B ρ col w (hput s.hp k (.rows sz []))) fun _ => True :=
      ⟨fun _ _ _ => rfl, fun m b _ hb => hhp m b hb, fun b hb => ⟨hb, rfl⟩, fun b hb => ⟨hb, rfl⟩, fun _ _ _ _ => rfl, fun _ _ _ _ _ => rfl⟩
    refine ⟨ρ, col, ⟨h.defers, h.len, h.keep, fun i => AVr.mono hle _ _ (h.tm i), fun m b hb => ?_, fun m hm => ?_, h.inj, h.sep, h.lab, h.colb, h.pins, by rw [hgp, h.nolim, if_neg (ne_lim hp)]⟩, hle, ?_, fun _ _ h _ => h⟩
    · have hb' := hb
      simp only at hb'
      rw [hgp] at hb'
      split at hb'
      · rename_i e; subst e; cases hb'
        exact ⟨fun i r hi => by simp at hi, .inr ⟨rfl, h.dom k hk⟩⟩
      · exact (h.hp m b hb').mono hle rfl (fun _ _ => rfl) (fun b i j hc => ⟨hc, rfl⟩)
    · have hm' := hm
      simp only at hm'
      rw [hgp] at hm'
      split at hm'
      · cases hm'
      · exact h.dom m hm'
    · exact ⟨sz, [], by simp [cx, hgp], .inr ⟨rfl, ad, rfl⟩⟩
  | list _ sz' rs' b cap cells e fr u c hb hh hf hc hcs hr hu ho =>
    cases hx
    subst hS
    have hlb := h.colb b _ hb
    have hnl : ∀ m, ρ m ≠ some b := fun m e => by rw [h.sep m b e] at hb; cases hb
    let col' : Col := fun b' => if b' = b then none else if col b' = some (limKey, i, j) then some (k, c b') else col b'
    have hcol' : ∀ b' p, col b' = some p → p ≠ (limKey, i, j) → col' b' = some p := by
      intro b' p h1 h2
      have : b' ≠ b := fun e => by subst e; rw [hb] at h1; cases h1; exact h2 rfl
      simp only [col', if_neg this, h1]
      rw [if_neg (fun e => h2 (Option.some.inj e))]
    have hnone : ∀ b', col b' = none → col' b' = none := by
      intro b' h1
      simp only [col', h1]
      split <;> simp
    have hle : (cx B ρ col w s.hp).le (cx B (setlab ρ k b) col' w (hput s.hp k (.rows sz rs))) fun _ => True := by
      refine ⟨fun m _ hm => ?_, fun m b _ hb => hhp m b hb, fun b' hb' => ⟨⟨hb'.1, hb'.2.1, hnone b' hb'.2.2.1, fun m e => ?_⟩, rfl⟩, fun b' hb' => ⟨⟨hb'.1, fun m e => ?_, fun i' j' e => ?_⟩, rfl⟩, fun _ _ _ _ => rfl, fun _ _ _ _ _ => rfl⟩
      · have : m ≠ k := fun e => hm (by rw [e]; exact hk)
        simp [cx, setlab, this]
      · simp only [setlab] at e
        split at e
        · cases e
          have := hb'.2.2.1
          rw [show col b = some (limKey, i, j) from hb] at this; cases this
        · exact hb'.2.2.2 m e
      · simp only [setlab] at e
        split at e
        · cases e; exact hb'.2.2 i j hb
        · exact hb'.2.1 m e
      · simp only [col'] at e
        split at e
        · cases e
        · split at e
          · exact ne_lim hp (congrArg Prod.fst (Option.some.inj e))
          · exact hb'.2.2 i' j' e
    refine ⟨setlab ρ k b, col', ⟨h.defers, h.len, h.keep, fun i => AVr.mono hle _ _ (h.tm i), fun m blk hm => ?_, fun m hm => ?_, fun m m' b' h1 h2 => ?_, fun m b' h1 => ?_, fun m b' h1 => ?_, fun b' p h1 => ?_, fun m hm => ?_, by rw [hgp, h.nolim, if_neg (ne_lim hp)]⟩, hle, ?_, hcol'⟩
    · have hb' := hm
      simp only at hb'
      rw [hgp] at hb'
      split at hb'
      · rename_i e'
        subst e'
        cases hb'
        refine ⟨hr, .inl ⟨b, cells, e, fr, u, by simp [cx, setlab], hh, hf, Nat.le_trans (Nat.mul_le_mul_right sz hc) hcs, hu, fun i' r j' x hi hj => ?_⟩⟩
        refine (ho i' r j' x hi hj).mono (fun _ _ => rfl) (fun b' hb' => (hle.dp b' hb').1) (fun _ _ => rfl) (fun b' hb' => ?_)
        obtain ⟨h1, h2, h3⟩ := hb'
        simp only [col', if_neg h2, if_pos h1, h3]
      · rename_i e'
        refine (h.hp m blk hb').mono hle (by simp [cx, setlab, Ne.symm e']) (fun _ _ => rfl) (fun b' i' j' hc => ⟨hcol' b' _ hc (fun e => ?_), rfl⟩)
        cases e
        rw [h.nolim] at hb'; cases hb'
    · have hm' := hm
      simp only at hm'
      rw [hgp] at hm'
      split at hm'
      · cases hm'
      · rename_i e'; simp only [setlab, if_neg (Ne.symm e')]; exact h.dom m hm'
    · simp only [setlab] at h1 h2
      split at h1
      · split at h2
        · rename_i e1 e2; exact e1.trans e2.symm
        · cases h1; exact absurd h2 (hnl m')
      · split at h2
        · cases h2; exact absurd h1 (hnl m)
        · exact h.inj m m' b' h1 h2
    · simp only [setlab] at h1
      split at h1
      · cases h1; simp [col']
      · exact hnone b' (h.sep m b' h1)
    · simp only [setlab] at h1
      split at h1
      · cases h1; exact hlb
      · exact h.lab m b' h1
    · simp only [col'] at h1
      split at h1
      · cases h1
      · split at h1
        · rename_i h2; exact h.colb b' _ h2
        · exact h.colb b' p h1
    · rw [← h.pins m hm]
      simp only [setlab]
      rw [if_neg (by omega)]
    · refine ⟨sz, rs, by simp [cx, hgp], .inl ⟨b, cap, e, cells.size, by simp [cx, setlab], rfl, hc, ?_, hcs⟩⟩
      have hh' : (cx B (setlab ρ k b) col' w (hput s.hp k (.rows sz rs))).w.heap[b]? = some (.cells cells e fr) := hh
      simp [World.shape?, hh']
def LimC (c : Cx) (col : Col) (i j : Nat) : AV → Value → Prop
  | .own x, v => Own c.w c.Dp (fun b => col b = some (limKey, i, j)) x v
  | .t x, v => Rd c.w c.Dp x v
  | .undef, _ => True
  | _, _ => False
def LimCs (c : Cx) (col : Col) (i : Nat) : Nat → List AV → List Value → Prop
  | _, [], [] => True
  | j, x :: xs, v :: vs => LimC c col i j x v ∧ LimCs c col i (j + 1) xs vs
  | _, _, _ => False
def passL : AV → Bool
  | .ptr _ _ _ => true
  | .refw _ => true
  | .ref _ _ _ => true
  | .rop false _ _ => true
  | _ => false
def LimV (c : Cx) (col : Col) (i : Nat) (x : AV) (v : Value) : Prop :=
  match x with
  | .agg cs => ∃ vs : List Value, v = .agg vs.toArray ∧ LimCs c col i 0 cs vs
  | x => if passL x = true then AVr c x v else LimC c col i 0 x v
def LimVs (c : Cx) (col : Col) : Nat → List AV → List Value → Prop
  | _, [], [] => True
  | i, x :: xs, v :: vs => LimV c col i x v ∧ LimVs c col (i + 1) xs vs
  | _, _, _ => False
def LimR (c : Cx) (col : Col) (r : AV) (v : Value) : Prop :=
  match r with
  | .tup xs => ∃ vs : List Value, v = .tuple vs.toArray ∧ LimVs c col 0 xs vs
  | x => LimV c col 0 x v
theorem LimC.mono {c c' : Cx} {i j : Nat} {x : AV} {v : Value} (h : LimC c col i j x v) (hD : ∀ b, c.Dp b → c'.Dp b ∧ c'.w.heap[b]? = c.w.heap[b]?) (hc : ∀ b, col b = some (limKey, i, j) → col' b = some (limKey, i, j) ∧ c'.w.heap[b]? = c.w.heap[b]?) : LimC c' col' i j x v := by
  cases x <;> first | exact h.elim | skip
  · exact Rd.mono h (fun b hb => (hD b hb).2) (fun b hb => (hD b hb).1)
  · exact Own.mono h (fun b hb => (hD b hb).2) (fun b hb => (hD b hb).1) (fun b hb => (hc b hb).2) (fun b hb => (hc b hb).1)
  · trivial
theorem LimCs.mono {c c' : Cx} {i : Nat} (hD : ∀ b, c.Dp b → c'.Dp b ∧ c'.w.heap[b]? = c.w.heap[b]?) : ∀ {xs : List AV} {vs : List Value} {j : Nat}, (∀ b j', j ≤ j' → col b = some (limKey, i, j') → col' b = some (limKey, i, j') ∧ c'.w.heap[b]? = c.w.heap[b]?) → LimCs c col i j xs vs → LimCs c' col' i j xs vs
  | [], [], _, _, _ => trivial
  | x :: xs, v :: vs, j, hc, h => ⟨LimC.mono h.1 hD (fun b => hc b j (Nat.le_refl _)), LimCs.mono hD (fun b j' hj => hc b j' (by omega)) h.2⟩
  | [], _ :: _, _, _, h => h.elim
  | _ :: _, [], _, _, h => h.elim
theorem LimV.mono {c c' : Cx} {i : Nat} (hle : c.le c' fun _ => True) (hc : ∀ b j', col b = some (limKey, i, j') → col' b = some (limKey, i, j') ∧ c'.w.heap[b]? = c.w.heap[b]?) {x : AV} {v : Value} (h : LimV c col i x v) : LimV c' col' i x v := by
  have hD := hle.dp
  have hp : passL x = true → LimV c' col' i x v := by
    intro hp
    have h' : AVr c x v := by cases x <;> first | (simp only [LimV, hp, if_true] at h; exact h) | cases hp
    have := AVr.mono hle _ _ h'
    cases x <;> first | (simp only [LimV, hp, if_true]; exact this) | cases hp
  cases x with
  | agg cs =>
    obtain ⟨vs, e, h⟩ := h
    exact ⟨vs, e, LimCs.mono hD (fun b j' _ => hc b j') h⟩
  | t y => exact LimC.mono (c := c) (col := col) (i := i) (j := 0) (x := .t y) h hD (fun b => hc b 0)
  | own y => exact LimC.mono (c := c) (col := col) (i := i) (j := 0) (x := .own y) h hD (fun b => hc b 0)
  | ptr => exact hp rfl
  | refw => exact hp rfl
  | ref => exact hp rfl
  | rop l _ _ =>
    cases l
    · exact hp rfl
    · exact h.elim
  | undef => trivial
  | _ => exact h.elim
theorem LimVs.mono {c c' : Cx} (hD : c.le c' fun _ => True) : ∀ {xs : List AV} {vs : List Value} {i : Nat}, (∀ b i' j', i ≤ i' → col b = some (limKey, i', j') → col' b = some (limKey, i', j') ∧ c'.w.heap[b]? = c.w.heap[b]?) → LimVs c col i xs vs → LimVs c' col' i xs vs
  | [], [], _, _, _ => trivial
  | x :: xs, v :: vs, i, hc, h => ⟨LimV.mono hD (fun b j' => hc b i j' (Nat.le_refl _)) h.1, LimVs.mono hD (fun b i' j' hi => hc b i' j' (by omega)) h.2⟩
  | [], _ :: _, _, _, h => h.elim
  | _ :: _, [], _, _, h => h.elim
theorem le_trans' {c1 c2 c3 : Cx} (hdom : ∀ k b, c1.ρ k = some b → hget c1.hp k ≠ none) (h1 : c1.le c2 fun _ => True) (h2 : c2.le c3 fun _ => True) : c1.le c3 fun _ => True := by
  refine ⟨fun m _ hm => ?_, fun m b _ hb => ?_, fun b hb => ⟨(h2.dp b (h1.dp b hb).1).1, (h2.dp b (h1.dp b hb).1).2.trans (h1.dp b hb).2⟩, fun b hb => ⟨(h2.dl b (h1.dl b hb).1).1, (h2.dl b (h1.dl b hb).1).2.trans (h1.dl b hb).2⟩, fun m b _ hb => ?_, fun m b _ hb hr => ?_⟩
  · obtain ⟨b0, hb0⟩ := Option.ne_none_iff_exists'.1 hm
    obtain ⟨b', e1, _⟩ := h1.hp m b0 trivial hb0
    exact (h2.ρ m trivial (by simp [e1])).trans (h1.ρ m trivial hm)
  · obtain ⟨b', e1, e2⟩ := h1.hp m b trivial hb
    obtain ⟨b'', e3, e4⟩ := h2.hp m b' trivial e1
    refine ⟨b'', e3, ?_⟩
    cases b <;> cases b' <;> cases b'' <;> simp [Blk.sim] at e2 e4 ⊢
    exact ⟨e2.1.trans e4.1, e2.2.trans e4.2⟩
  · have e := h1.ρ m trivial (hdom m b hb)
    exact (h2.sh m b trivial (e.trans hb)).trans (h1.sh m b trivial hb)
  · have e := h1.ρ m trivial (hdom m b hb)
    refine (h2.tie m b trivial (e.trans hb) ?_).trans (h1.tie m b trivial hb hr)
    obtain ⟨sz, rs, hr⟩ := hr
    obtain ⟨b', e1, e2⟩ := h1.hp m _ trivial hr
    cases b' with
    | box => exact e2.elim
    | rows sz' rs' => exact ⟨_, _, e1⟩
theorem SimR.domne {h : Hp} {tm : List AV} (hs : SimR B ρ col ⟨tm, h⟩ a w) : ∀ k b, (cx B ρ col w h).ρ k = some b → hget (cx B ρ col w h).hp k ≠ none :=
  fun k b hb hn => by have := hs.dom k hn; rw [show ρ k = some b from hb] at this; cases this
theorem SimR.bindCells (i : Nat) : ∀ {xs ys : List AV} {vs : List Value} {ρ : Nat → Option Nat} {col : Col} {h h' : Hp} {n n' : Nat} (j : Nat), SimR B ρ col ⟨s.tm, h⟩ a w → LimCs (cx B ρ col w h) col i j xs vs → Am.bindCells h n xs = some (ys, h', n') →
    ∃ ρ' col', SimR B ρ' col' ⟨s.tm, h'⟩ a w ∧ ((cx B ρ col w h).le (cx B ρ' col' w h') fun _ => True) ∧ AVr.AVrs (cx B ρ' col' w h') ys vs ∧ (∀ b p, col b = some p → (∀ j', j ≤ j' → p ≠ (limKey, i, j')) → col' b = some p) := by
  intro xs
  induction xs with
  | nil =>
    intro ys vs ρ col h h' n n' j hs hl hb
    simp [Am.bindCells] at hb
    obtain ⟨rfl, rfl, rfl⟩ := hb
    cases vs with
    | cons => exact hl.elim
    | nil => exact ⟨ρ, col, hs, SimR.refl_le _ _ _ _ _ _, trivial, fun _ _ h _ => h⟩
  | cons x xs ih =>
    intro ys vs ρ col h h' n n' j hs hl hb
    cases vs with
    | nil => exact hl.elim
    | cons v vs =>
      have hflat : ∀ (y : T), (Rd w (cx B ρ col w h).Dp y v) → (Am.bindCells h n xs).map (fun r => (AV.t y :: r.1, r.2)) = some (ys, h', n') →
          ∃ ρ' col', SimR B ρ' col' ⟨s.tm, h'⟩ a w ∧ ((cx B ρ col w h).le (cx B ρ' col' w h') fun _ => True) ∧ AVr.AVrs (cx B ρ' col' w h') ys (v :: vs) ∧ (∀ b p, col b = some p → (∀ j', j ≤ j' → p ≠ (limKey, i, j')) → col' b = some p) := by
        intro y hy hb
        simp only [Option.map_eq_some_iff] at hb
        obtain ⟨⟨ys', q⟩, h1, h2⟩ := hb
        cases h2
        obtain ⟨ρ', col', g1, g2, g3, g4⟩ := ih (j + 1) hs hl.2 h1
        exact ⟨ρ', col', g1, g2, ⟨Rd.mono hy (fun b hb => (g2.dp b hb).2) (fun b hb => (g2.dp b hb).1), g3⟩, fun b p hb hp => g4 b p hb (fun j' hj => hp j' (by omega))⟩
      unfold Am.bindCells at hb
      split at hb
      · rename_i heq; cases heq
      · rename_i y l heq; cases heq; exact hflat y hl.1 hb
      · rename_i l heq
        cases heq
        simp only [Option.map_eq_some_iff] at hb
        obtain ⟨⟨ys', q⟩, h1, h2⟩ := hb
        cases h2
        obtain ⟨ρ', col', g1, g2, g3, g4⟩ := ih (j + 1) hs hl.2 h1
        exact ⟨ρ', col', g1, g2, ⟨trivial, g3⟩, fun b p hb hp => g4 b p hb (fun j' hj => hp j' (by omega))⟩
      · rename_i sz rs l heq
        cases heq
        split at hb
        · rename_i hc
          simp only [Option.map_eq_some_iff] at hb
          obtain ⟨⟨ys', q⟩, h1, h2⟩ := hb
          cases h2
          obtain ⟨ρ1, col1, g1, g2, g3, g4⟩ := hs.adopt hc.1 hc.2 hl.1
          have hl2 : LimCs (cx B ρ1 col1 w (hput h n (.rows sz rs))) col1 i (j + 1) xs vs :=
            LimCs.mono (fun b hb => g2.dp b hb) (fun b j' hj hb => ⟨g4 b _ hb (fun e => by cases e; omega), rfl⟩) hl.2
          obtain ⟨ρ', col', f1, f2, f3, f4⟩ := ih (j + 1) g1 hl2 h1
          exact ⟨ρ', col', f1, le_trans' hs.domne g2 f2, ⟨AVr.mono f2 _ _ g3, f3⟩, fun b p hb hp => f4 b p (g4 b p hb (hp j (Nat.le_refl _))) (fun j' hj => hp j' (by omega))⟩
        · cases hb
      · rename_i sz rs l heq
        cases heq
        refine hflat _ ?_ hb
        cases hl.1 with
        | rd _ _ _ _ h => exact h
      · rename_i k m l heq
        cases heq
        refine hflat _ ?_ hb
        cases hl.1 with
        | rd _ _ _ _ h => exact h
      · rename_i b l heq
        cases heq
        refine hflat _ ?_ hb
        cases hl.1 with
        | rd _ _ _ _ h => exact h
      · rename_i b l heq
        cases heq
        refine hflat _ ?_ hb
        cases hl.1 with
        | rd _ _ _ _ h => exact h
      · cases hb
theorem SimR.bindVal (i : Nat) {x y : AV} {v : Value} {ρ : Nat → Option Nat} {col : Col} {h h' : Hp} {n n' : Nat} (hs : SimR B ρ col ⟨s.tm, h⟩ a w) (hl : LimV (cx B ρ col w h) col i x v) (hb : Am.bindVal h n x = some (y, h', n')) :
    ∃ ρ' col', SimR B ρ' col' ⟨s.tm, h'⟩ a w ∧ ((cx B ρ col w h).le (cx B ρ' col' w h') fun _ => True) ∧ AVr (cx B ρ' col' w h') y v ∧ (∀ b p, col b = some p → (∀ j', p ≠ (limKey, i, j')) → col' b = some p) := by
  have hone : LimC (cx B ρ col w h) col i 0 x v → (Am.bindCells h n [x]).bind (fun r => (one r.1).map fun y => (y, r.2)) = some (y, h', n') → ∃ ρ' col', SimR B ρ' col' ⟨s.tm, h'⟩ a w ∧ ((cx B ρ col w h).le (cx B ρ' col' w h') fun _ => True) ∧ AVr (cx B ρ' col' w h') y v ∧ (∀ b p, col b = some p → (∀ j', p ≠ (limKey, i, j')) → col' b = some p) := by
    intro hl hb
    simp only [Option.bind_eq_some_iff, Option.map_eq_some_iff] at hb
    obtain ⟨⟨ys, q⟩, h1, z, h2, h3⟩ := hb
    cases h3
    obtain ⟨ρ', col', g1, g2, g3, g4⟩ := hs.bindCells i (xs := [x]) (vs := [v]) 0 ⟨hl, trivial⟩ h1
    match ys, h2, g3 with
    | [z], h2, g3 =>
      simp [one] at h2; subst h2
      exact ⟨ρ', col', g1, g2, g3.1, fun b p hb hp => g4 b p hb (fun j' _ => hp j')⟩
    | [], h2, _ => simp [one] at h2
    | _ :: _ :: _, h2, _ => simp [one] at h2
  cases x with
  | agg cs =>
    obtain ⟨vs, rfl, hvs⟩ := hl
    simp only [Am.bindVal, Option.map_eq_some_iff] at hb
    obtain ⟨⟨ys, q⟩, h1, h2⟩ := hb
    cases h2
    obtain ⟨ρ', col', g1, g2, g3, g4⟩ := hs.bindCells i 0 hvs h1
    exact ⟨ρ', col', g1, g2, ⟨vs, rfl, g3⟩, fun b p hb hp => g4 b p hb (fun j' _ => hp j')⟩
  | t z => exact hone hl hb
  | own z => exact hone hl hb
  | ptr => cases hb; exact ⟨ρ, col, hs, SimR.refl_le _ _ _ _ _ _, hl, fun _ _ h _ => h⟩
  | refw => cases hb; exact ⟨ρ, col, hs, SimR.refl_le _ _ _ _ _ _, hl, fun _ _ h _ => h⟩
  | ref => cases hb; exact ⟨ρ, col, hs, SimR.refl_le _ _ _ _ _ _, hl, fun _ _ h _ => h⟩
  | rop l _ _ =>
    cases l
    · cases hb; exact ⟨ρ, col, hs, SimR.refl_le _ _ _ _ _ _, hl, fun _ _ h _ => h⟩
    · exact hl.elim
  | undef => exact hone hl hb
  | _ => exact hl.elim
theorem SimR.bindVals : ∀ {xs ys : List AV} {vs : List Value} {ρ : Nat → Option Nat} {col : Col} {h h' : Hp} {n n' : Nat} (i : Nat), SimR B ρ col ⟨s.tm, h⟩ a w → LimVs (cx B ρ col w h) col i xs vs → Am.bindVals h n xs = some (ys, h', n') →
    ∃ ρ' col', SimR B ρ' col' ⟨s.tm, h'⟩ a w ∧ ((cx B ρ col w h).le (cx B ρ' col' w h') fun _ => True) ∧ AVr.AVrs (cx B ρ' col' w h') ys vs := by
  intro xs
  induction xs with
  | nil =>
    intro ys vs ρ col h h' n n' i hs hl hb
    simp [Am.bindVals] at hb
    obtain ⟨rfl, rfl, rfl⟩ := hb
    cases vs with
    | cons => exact hl.elim
    | nil => exact ⟨ρ, col, hs, SimR.refl_le _ _ _ _ _ _, trivial⟩
  | cons x xs ih =>
    intro ys vs ρ col h h' n n' i hs hl hb
    cases vs with
    | nil => exact hl.elim
    | cons v vs =>
      simp only [Am.bindVals, Option.bind_eq_some_iff, Option.map_eq_some_iff] at hb
      obtain ⟨⟨y, h1, n1⟩, e1, ⟨ys', h2, n2⟩, e2, e3⟩ := hb
      cases e3
      obtain ⟨ρ1, col1, g1, g2, g3, g4⟩ := hs.bindVal i hl.1 e1
      have hl2 : LimVs (cx B ρ1 col1 w h1) col1 (i + 1) xs vs :=
        LimVs.mono g2 (fun b i' j' hi hb => ⟨g4 b _ hb (fun j'' e => by cases e; omega), rfl⟩) hl.2
      obtain ⟨ρ', col', f1, f2, f3⟩ := ih (i + 1) g1 hl2 e2
      exact ⟨ρ', col', f1, le_trans' hs.domne g2 f2, AVr.mono f2 _ _ g3, f3⟩
theorem SimR.bindR (h : SimR B ρ col s a w) {d : Option Tmp} {r : AV} {v : Value} (hl : LimR (cx B ρ col w s.hp) col r v)
    (hb : Am.bindR s d r = some s') : Sim B s' (a.put d v) w := by
  have hone : LimV (cx B ρ col w s.hp) col 0 r v → (Am.bindVal s.hp (8 * d.getD 0 + 1) r).map (fun q => (⟨s.tm, q.2.1⟩ : St).put d q.1) = some s' → Sim B s' (a.put d v) w := by
    intro hl hb
    simp only [Option.map_eq_some_iff] at hb
    obtain ⟨⟨y, h1, n1⟩, e1, rfl⟩ := hb
    obtain ⟨ρ', col', g1, g2, g3, _⟩ := (show SimR B ρ col ⟨s.tm, s.hp⟩ a w from h).bindVal 0 hl e1
    exact ⟨ρ', col', g1.put g3 d⟩
  cases r with
  | tup xs =>
    obtain ⟨vs, rfl, hvs⟩ := hl
    simp only [Am.bindR, Option.map_eq_some_iff] at hb
    obtain ⟨⟨ys, h1, n1⟩, e1, rfl⟩ := hb
    obtain ⟨ρ', col', g1, g2, g3⟩ := (show SimR B ρ col ⟨s.tm, s.hp⟩ a w from h).bindVals 0 hvs e1
    exact ⟨ρ', col', g1.put (x := .tup ys) ⟨vs, rfl, g3⟩ d⟩
  | _ => exact hone hl hb
end
end Go.Proofs.YtcpfhonmdbhdbaaGreatDoor.Am
namespace Go.Proofs.YtcpfhonmdbhdbaaGreatDoor.Am
open Go
set_option linter.unusedVariables false
def hCx (w : World) (D : Dm) (ρ : Nat → Option Nat) (hp : Hp) : Cx := ⟨ρ, w, D, fun b => b < w.heap.size ∧ ∀ k, ρ k ≠ some b, hp⟩
structure Held (w : World) (D : Dm) (ρ : Nat → Option Nat) (col : Col) (hp : Hp) : Prop where
  dom : ∀ k, hget hp k = none → ρ k = none
  pins : ∀ k, hget hp k ≠ none → pin ≤ k ∧ k < limKey
  blk : ∀ k b, hget hp k = some b → BlkR (hCx w D ρ hp) col k b
  inj : ∀ k k' b, ρ k = some b → ρ k' = some b → k = k'
  sep : ∀ k b, ρ k = some b → col b = none
  lab : ∀ k b, ρ k = some b → b < w.heap.size
  colb : ∀ b p, col b = some p → b < w.heap.size ∧ ρ p.1 ≠ none
  dis : ∀ b, D b → b < w.heap.size ∧ col b = none ∧ ∀ k, ρ k ≠ some b
  gl : Glob w ∧ ∀ b, GlB b → col b = none ∧ ∀ k, ρ k ≠ some b
def oCx (w : World) (D : Dm) (ρ : Nat → Option Nat) (w' : World) (col : Col) (hp : Hp) : Cx where
  ρ := ρ
  w := w'
  Dp := fun b => b < w'.heap.size ∧ (D b ∨ w.heap.size ≤ b) ∧ col b = none ∧ ∀ k, ρ k ≠ some b
  Dl := fun _ => False
  hp := hp
def SimH : Hp → Hp → Prop
  | [], [] => True
  | (k, b) :: h, (k', b') :: h' => k = k' ∧ b.sim b' ∧ SimH h h'
  | _, _ => False
structure OutO (w : World) (D : Dm) (ρ : Nat → Option Nat) (col : Col) (hp : Hp) (w' : World) (r : AV) (v : Value) (hp' : Hp) (col' : Col) : Prop where
  os : w'.os = w.os
  tape : w'.tape = w.tape
  output : w'.output = w.output
  drawn : DrLe w.drawn w'.drawn
  size : w.heap.size ≤ w'.heap.size
  block : ∀ b, b < w.heap.size → (∀ k, ρ k ≠ some b) → col b = none → w'.heap[b]? = w.heap[b]?
  sh : ∀ k b, ρ k = some b → w'.shape? b = w.shape? b
  colb : ∀ b p, col' b = some p → b < w'.heap.size ∧ (w.heap.size ≤ b ∨ (∃ k, ρ k = some b) ∨ ∃ p, col b = some p)
  sep : ∀ k b, ρ k = some b → col' b = none
  sim : SimH hp hp'
  blk : ∀ k b, hget hp' k = some b → BlkR (oCx w D ρ w' col' hp') col' k b
  res : ResR (oCx w D ρ w' col' hp') col' r v
def SpecO (P : Program) (f : FuncId) (args : List AV) (hp : Hp) (Q : AV → Hp → Prop) : Prop :=
  ∀ (w : World) (D : Dm) (ρ : Nat → Option Nat) (col : Col) (vs : List Value), Held w D ρ col hp → AVr.AVrs (hCx w D ρ hp) args vs →
    Calls P f vs.toArray w fun e w' => ∃ v r hp' col', e = .returned v ∧ Q r hp' ∧ OutO w D ρ col hp w' r v hp' col'
theorem SimH.get : ∀ {h h' : Hp}, SimH h h' → ∀ k, (∀ b, hget h k = some b → ∃ b', hget h' k = some b' ∧ b.sim b') ∧ (hget h k = none → hget h' k = none)
  | [], [], _, k => ⟨(fun b hb => by cases hb), fun _ => rfl⟩
  | (m, b) :: h, (m', b') :: h', ⟨e, h1, h2⟩, k => by
    subst e
    obtain ⟨g1, g2⟩ := SimH.get h2 k
    simp only [hget]
    split
    · exact ⟨(fun b0 hb => by cases hb; exact ⟨b', rfl, h1⟩), (fun hb => by cases hb)⟩
    · exact ⟨g1, g2⟩
  | [], _ :: _, h, _ => h.elim
  | _ :: _, [], h, _ => h.elim
def entryO (w : World) (D : Dm) (ρ : Nat → Option Nat) (col : Col) : Base := ⟨w, D, fun b => (∃ k, ρ k = some b) ∨ ∃ p, col b = some p, ρ⟩
theorem Held.le {w : World} {D : Dm} {ρ : Nat → Option Nat} {col : Col} {hp : Hp} (h : Held w D ρ col hp) : (hCx w D ρ hp).le (cx (entryO w D ρ col) ρ col w hp) fun _ => True := by
  refine ⟨fun _ _ _ => rfl, fun m b _ hb => ⟨b, hb, blk_sim_refl b⟩, fun b hb => ?_, fun b hb => ?_, fun _ _ _ _ => rfl, fun _ _ _ _ _ => rfl⟩
  · obtain ⟨h1, h2, h3⟩ := h.dis b hb
    exact ⟨⟨h1, .inl hb, h2, h3⟩, rfl⟩
  · refine ⟨⟨hb.1, hb.2, fun i j e => ?_⟩, rfl⟩
    have h1 := (h.colb b _ e).2
    have h2 : hget hp limKey ≠ none := fun hn => h1 (h.dom _ hn)
    exact absurd (h.pins _ h2).2 (Nat.lt_irrefl _)
theorem SimR.enterO {w : World} {D : Dm} {ρ : Nat → Option Nat} {col : Col} {hp : Hp} {args : List AV} {vs : List Value} (hh : Held w D ρ col hp) (h : AVr.AVrs (hCx w D ρ hp) args vs) (n : Nat) :
    SimR (entryO w D ρ col) ρ col ⟨args ++ undefs (n - args.length), hp⟩ { tmps := vs.toArray ++ Array.replicate (n - vs.toArray.size) Go.undef, defers := [] } w := by
  have hl := AVrs_length h
  have hle := hh.le
  have hX : ∀ b, (∃ p, col b = some p) → ∃ k, ρ k ≠ none := fun b ⟨p, hp⟩ => ⟨p.1, (hh.colb b p hp).2⟩
  refine ⟨rfl, by simp [undefs_length, hl], ⟨rfl, rfl, rfl, DrLe.of_le (Nat.le_refl _), Nat.le_refl _, fun _ _ _ => rfl, (fun b hx => ?_), (fun k b hb => ?_), fun _ _ _ => rfl, hh.gl.1, fun b hb hx => ?_⟩, fun i => ?_, fun k b hb => ?_, hh.dom, hh.inj, hh.sep, fun k b hb => ⟨hh.lab k b hb, .inl (.inl ⟨k, hb⟩)⟩, fun b p hb => ⟨(hh.colb b p hb).1, .inl (.inr ⟨p, hb⟩)⟩, fun _ _ => rfl, ?_⟩
  · rcases hx with ⟨k, hk⟩ | hx
    · exact ⟨k, by show ρ k ≠ none; rw [hk]; simp⟩
    · exact hX b hx
  · have hb' : ρ k = some b := hb
    have : hget hp k ≠ none := fun hn => by rw [hh.dom k hn] at hb'; cases hb'
    exact ⟨(hh.pins k this).1, hh.lab k b hb'⟩
  · obtain ⟨g1, g2⟩ := hh.gl.2 b hb
    rcases hx with ⟨k, hk⟩ | ⟨p, hp⟩
    · exact g2 k hk
    · rw [g1] at hp; cases hp
  · simp only [gt_append]
    split
    · rename_i hi
      rw [gt_get hi]
      have := AVrs.mono hle _ _ h
      obtain ⟨v, hv, hr⟩ := AVrs_get this (List.getElem?_eq_getElem hi)
      have : (vs.toArray ++ Array.replicate (n - vs.toArray.size) Go.undef).getD i Go.undef = v := by
        rw [Array.getD_eq_getD_getElem?, Array.getElem?_append_left (by simp; omega)]
        simp [hv]
      rw [this]; exact hr
    · rw [gt_undefs]; trivial
  · exact (hh.blk k b hb).mono hle rfl (fun _ _ => rfl) (fun _ _ _ h => ⟨h, rfl⟩)
  · cases hn : hget hp limKey with
    | none => rfl
    | some b => exact absurd (hh.pins limKey (by rw [hn]; simp)).2 (Nat.lt_irrefl _)
def pinsOf : Hp → Hp
  | [] => []
  | (k, b) :: h => if pin ≤ k then (k, b) :: pinsOf h else pinsOf h
theorem hget_pinsOf : ∀ (h : Hp) (k : Nat), hget (pinsOf h) k = if pin ≤ k then hget h k else none
  | [], k => by simp [pinsOf, hget]
  | (m, b) :: h, k => by
    have ih := hget_pinsOf h k
    simp only [pinsOf]
    split
    · rename_i hm
      simp only [hget]
      split
      · rename_i e; subst e; rw [if_pos hm]
      · exact ih
    · rename_i hm
      rw [ih]
      simp only [hget]
      split
      · rename_i hk
        rw [if_neg (fun e => hm (by rw [e]; exact hk))]
      · rfl
def plO : AV → Bool
  | .t _ => true
  | .nils _ => true
  | .undef => true
  | x => passO x
def plOs : List AV → Bool
  | [] => true
  | x :: l => plO x && plOs l
def plH : Hp → Bool
  | [] => true
  | (_, .box cs) :: h => plOs cs && plH h
  | (_, .rows _ _) :: h => plH h
theorem plH_get : ∀ {h : Hp}, plH h = true → ∀ {k : Nat} {cs : List AV}, hget h k = some (.box cs) → plOs cs = true
  | (m, .box cs0) :: h, hp, k, cs, hk => by
    simp only [plH, Bool.and_eq_true] at hp
    simp only [hget] at hk
    split at hk
    · cases hk; exact hp.1
    · exact plH_get hp.2 hk
  | (m, .rows sz rs) :: h, hp, k, cs, hk => by
    simp only [plH] at hp
    simp only [hget] at hk
    split at hk
    · cases hk
    · exact plH_get hp hk
def RetO (Γ : Env) (rs : Array ResultVar) (hp : Hp) (Q : AV → Hp → Prop) (s : St) : Prop :=
  Sm (resAVs Γ s rs.toList) fun vs => Sm (resVals true s.hp vs) fun r => plH (pinsOf (s.drops r.2).hp) = true ∧ SimH hp (pinsOf (s.drops r.2).hp) ∧ Q (tupOf r.1) (pinsOf (s.drops r.2).hp)
def KfO (Γ : Env) (rs : Array ResultVar) (hp : Hp) (Q : AV → Hp → Prop) : Exit → St → Prop
  | .normal, s => RetO Γ rs hp Q s
  | .ret, s => RetO Γ rs hp Q s
  | _, _ => False
structure Cx.lep (c c' : Cx) : Prop where
  ρ : ∀ k, pin ≤ k → hget c.hp k ≠ none → c'.ρ k = c.ρ k
  hp : ∀ k b, pin ≤ k → hget c.hp k = some b → ∃ b', hget c'.hp k = some b' ∧ b.sim b'
  dp : ∀ b, c.Dp b → c'.Dp b ∧ c'.w.heap[b]? = c.w.heap[b]?
  sh : ∀ k b, pin ≤ k → c.ρ k = some b → c'.w.shape? b = c.w.shape? b
theorem AVr.passp {c c' : Cx} (h : c.lep c') : ∀ {x : AV} {v : Value}, passO x = true → AVr c x v → AVr c' x v := by
  intro x v hx hv
  cases x with
  | ptr m i j =>
    have hm : pin ≤ m := by simpa [passO] using hx
    obtain ⟨b, h1, h2⟩ := hv
    cases hk : hget c.hp m with
    | none => simp [hk] at h2
    | some blk =>
      obtain ⟨b', h3, h4⟩ := h.hp m _ hm hk
      refine ⟨b, by rw [h.ρ m hm (by simp [hk])]; exact h1, ?_⟩
      rw [h3]
      cases blk <;> cases b' <;> simp [Blk.sim] at h4 <;> simp [hk] at h2 ⊢
      · exact h2
      · rw [← h4.1]; exact h2
  | refw m =>
    have hm : pin ≤ m := by simpa [passO] using hx
    obtain ⟨sz, rs, h1, h2⟩ := hv
    obtain ⟨b', h3, h4⟩ := h.hp m _ hm h1
    cases b' with
    | box => exact h4.elim
    | rows sz' rs' => obtain ⟨rfl, hl⟩ := h4; exact ⟨sz, rs', h3, h2.mono (h.ρ m hm (by simp [h1])) hl (fun b hb => h.sh m b hm hb)⟩
  | ref m off len =>
    have hm : pin ≤ m := by simpa [passO] using hx
    obtain ⟨sz, rs, h1, h0, h2⟩ := hv
    obtain ⟨b', h3, h4⟩ := h.hp m _ hm h1
    cases b' with
    | box => exact h4.elim
    | rows sz' rs' => obtain ⟨rfl, hl⟩ := h4; exact ⟨sz, rs', h3, by omega, by rw [h.ρ m hm (by simp [h1])]; exact h2⟩
  | rop l row j =>
    cases l
    · obtain ⟨b, off, h1, h2, h3⟩ := hv
      simp only [Bool.false_eq_true, if_false] at h2 h3
      refine ⟨b, off, h1, by simpa using (h.dp b h2).1, fun q x hq => ?_⟩
      obtain ⟨u, h4, h5⟩ := h3 q x hq
      exact ⟨u, by rw [cell_same (h.dp b h2).2]; exact h4, by simpa using h5.mono (fun b hb => (h.dp b hb).2) (fun b hb => (h.dp b hb).1)⟩
    · cases hx
  | _ => cases hx
theorem AVr.plp {c c' : Cx} (h : c.lep c') {x : AV} {v : Value} (hx : plO x = true) (hv : AVr c x v) : AVr c' x v := by
  cases x with
  | t y => exact Rd.mono (x := y) hv (fun b hb => (h.dp b hb).2) (fun b hb => (h.dp b hb).1)
  | nils => exact hv
  | undef => trivial
  | _ => exact AVr.passp h hx hv
theorem AVrs.plp {c c' : Cx} (h : c.lep c') : ∀ {xs : List AV} {vs : List Value}, plOs xs = true → AVr.AVrs c xs vs → AVr.AVrs c' xs vs
  | [], [], _, _ => trivial
  | x :: xs, v :: vs, hx, hv => by
    simp only [plOs, Bool.and_eq_true] at hx
    exact ⟨AVr.plp h hx.1 hv.1, AVrs.plp h hx.2 hv.2⟩
  | [], _ :: _, _, h => h
  | _ :: _, [], _, h => h
section
variable {P : Program} {Γ : Env} {B : Base} {ρ ρ' : Nat → Option Nat} {col col' : Col} {s s' : St} {a : Act} {w w' : World}
theorem retO_ok (hΓ : TysOk P Γ) {D : Dm} {w0 : World} {ρ0 : Nat → Option Nat} {col0 : Col} {hp0 : Hp} (hh : Held w0 D ρ0 col0 hp0) {fn : Func} {Q : AV → Hp → Prop} (h : Sim (entryO w0 D ρ0 col0) s a w) (hr : RetO Γ fn.results hp0 Q s) :
    a.defers = [] ∧ ∃ v, (results fn a.tmps).run P w = .ok v w ∧ ∃ r hp' col', Q r hp' ∧ OutO w0 D ρ0 col0 hp0 w r v hp' col' := by
  obtain ⟨vs, h1, ⟨rs, ks⟩, h2, hpl, hsim, hq⟩ := hr
  obtain ⟨ρ, col, h⟩ := h
  obtain ⟨us, e1, e2⟩ := resAVs_ok hΓ h h1
  obtain ⟨ρ', col', g1, g2, g3, gp, gρ, gc, g4⟩ := h.resVals 0 e2 h2
  let colF : Col := fun b => match col' b with
    | some (k, i, j) => if k = resKey ∨ (pin ≤ k ∧ ρ0 k ≠ none) then some (k, i, j) else none
    | none => none
  have hpin : ∀ k, pin ≤ k → ρ' k = ρ0 k := fun k hk => g1.pins k hk
  have hρ0 : ∀ k b, ρ0 k = some b → pin ≤ k := fun k b hb => (g1.keep.lp k b hb).1
  have hlep : (cx (entryO w0 D ρ0 col0) ρ' col' w (s.drops ks).hp).lep (oCx w0 D ρ0 w colF (pinsOf (s.drops ks).hp)) := by
    refine ⟨fun k hk _ => (hpin k hk).symm, fun k b hk hb => ⟨b, ?_, blk_sim_refl b⟩, fun b hb => ⟨⟨hb.1, hb.2.1, ?_, fun k e => ?_⟩, rfl⟩, fun _ _ _ _ => rfl⟩
    · show hget (pinsOf _) k = _
      rw [hget_pinsOf, if_pos hk]; exact hb
    · have : col' b = none := hb.2.2.1
      simp only [colF, this]
    · exact hb.2.2.2 k ((hpin k (hρ0 k b e)).trans e)
  refine ⟨h.defers, if hs : us.toArray.size = 1 then us.toArray[0] else .tuple us.toArray, ?_, tupOf rs, pinsOf (s.drops ks).hp, colF, hq, ?_⟩
  · have hres : results fn a.tmps = (do let vs ← fn.results.mapM (resSem a); pure (if h : vs.size = 1 then vs[0] else .tuple vs)) := by
      rfl
    obtain ⟨l, hl⟩ : ∃ l : List ResultVar, fn.results = l.toArray := ⟨fn.results.toList, by simp⟩
    rw [hl] at e1
    rw [hres, hl]
    simp only [List.mapM_toArray, Sem.run_bind, Sem.run_map, e1, Result.andThen_ok]
    rfl
  · have hcF : ∀ b p, colF b = some p → col' b = some p := by
      intro b p hb
      simp only [colF] at hb
      split at hb
      · rename_i hc
        split at hb
        · rw [hc]; exact hb
        · cases hb
      · cases hb
    refine ⟨g1.keep.os, g1.keep.tape, g1.keep.output, g1.keep.drawn, g1.keep.size, fun b hb h1 h2 => g1.keep.block b hb (fun hx => ?_), fun k b hb => g1.keep.sh k b hb, fun b p hb => ?_, fun k b hb => ?_, hsim, fun k b hb => ?_, ?_⟩
    · rcases hx with ⟨k, hk⟩ | ⟨p, hp⟩
      · exact h1 k hk
      · rw [h2] at hp; cases hp
    · have := g1.colb b p (hcF b p hb)
      refine ⟨this.1, ?_⟩
      rcases this.2 with hx | hx
      · exact .inr hx
      · exact .inl hx
    · have := g1.sep k b ((hpin k (hρ0 k b hb)).trans hb)
      simp only [colF, this]
    · rw [hget_pinsOf] at hb
      split at hb
      · rename_i hk
        have hblk := g1.hp k b hb
        cases b with
        | box cs =>
          obtain ⟨b, vs, e, fr, f1, f2, f3, f4⟩ := hblk
          have hpc : plOs cs = true := plH_get hpl (k := k) (by rw [hget_pinsOf, if_pos hk]; exact hb)
          exact ⟨b, vs, e, fr, (hpin k hk).symm.trans f1, f2, f3, AVrs.plp hlep hpc f4⟩
        | rows sz rs =>
          obtain ⟨r1, r2⟩ := hblk
          refine ⟨r1, ?_⟩
          rcases r2 with ⟨b, cells, e, fr, u, f1, f2, f3, f4, f5, f6⟩ | ⟨f1, f2⟩
          · have hρ : ρ0 k = some b := (hpin k hk).symm.trans f1
            refine .inl ⟨b, cells, e, fr, u, hρ, f2, f3, f4, f5, fun i r j x hi hj => (f6 i r j x hi hj).mono (fun _ _ => rfl) (fun b hb => (hlep.dp b hb).1) (fun _ _ => rfl) (fun b' hb' => ?_)⟩
            simp only [colF, hb']
            rw [if_pos (.inr ⟨hk, by rw [hρ]; simp⟩)]
          · exact .inr ⟨f1, (hpin k hk).symm.trans f2⟩
      · cases hb
    · have hout : ResVs (oCx w0 D ρ0 w colF (pinsOf (s.drops ks).hp)) colF 0 rs us := by
        refine ResVs.mono (fun b hb => hlep.dp b hb) (fun b i j hb => ⟨?_, rfl⟩) (fun x v _ hp hv => AVr.passp hlep hp hv) g4
        simp only [colF, hb]
        simp
      have hlen := ResVs_length hout
      match rs, us, hout, hlen with
      | [r], [u], hout, _ =>
        have := hout.1
        cases r <;> first | exact this | (simp only [ResV, passO] at this; exact this.elim)
      | [], [], hout, _ => exact ⟨[], rfl, trivial⟩
      | r :: r' :: rs, u :: u' :: us, hout, _ => exact ⟨_, rfl, hout⟩
end
end Go.Proofs.YtcpfhonmdbhdbaaGreatDoor.Am
namespace Go.Proofs.YtcpfhonmdbhdbaaGreatDoor.Am
open Go
set_option linter.unusedVariables false
def lkF : List (Nat × Nat) → Nat → Option Nat
  | [], _ => none
  | (p, k) :: σ, q => if p = q then some k else lkF σ q
def lkI : List (Nat × Nat) → Nat → Option Nat
  | [], _ => none
  | (p, k) :: σ, q => if k = q then some p else lkI σ q
def okS : List (Nat × Nat) → Bool
  | [] => true
  | (p, k) :: σ => (lkF σ p).isNone && (lkI σ k).isNone && decide (9000 ≤ p) && decide (p < 9999990) && okS σ
theorem lkFI : ∀ {σ : List (Nat × Nat)}, okS σ = true → ∀ p k, lkF σ p = some k ↔ lkI σ k = some p
  | [], _, p, k => by simp [lkF, lkI]
  | (q, m) :: σ, h, p, k => by
    simp only [okS, Bool.and_eq_true, Option.isNone_iff_eq_none] at h
    obtain ⟨⟨⟨⟨h1, h2⟩, _⟩, _⟩, h3⟩ := h
    have ih := lkFI h3
    simp only [lkF, lkI]
    by_cases e1 : q = p
    · subst e1
      rw [if_pos rfl]
      by_cases e2 : m = k
      · subst e2; simp
      · rw [if_neg e2]
        constructor
        · intro e; exact absurd (Option.some.inj e) e2
        · intro e; rw [← ih q k, h1] at e; cases e
    · rw [if_neg e1]
      by_cases e2 : m = k
      · subst e2
        rw [if_pos rfl]
        constructor
        · intro e; rw [ih p m, h2] at e; cases e
        · intro e; exact absurd (Option.some.inj e) e1
      · rw [if_neg e2]; exact ih p k
theorem okS_pin : ∀ {σ : List (Nat × Nat)}, okS σ = true → ∀ p k, lkF σ p = some k → pin ≤ p ∧ p < limKey
  | (q, m) :: σ, h, p, k, e => by
    simp only [okS, Bool.and_eq_true, decide_eq_true_eq] at h
    obtain ⟨⟨⟨⟨_, _⟩, h1⟩, h2⟩, h3⟩ := h
    simp only [lkF] at e
    split at e
    · rename_i e'; subst e'
      refine ⟨h1, ?_⟩
      show q < 9999998
      omega
    · exact okS_pin h3 p k e
  | [], _, p, k, e => by cases e
def AV.lend (σ : List (Nat × Nat)) : AV → AV
  | .t x => .t x
  | .nils sz => .t (.list false sz [])
  | .refw k => match lkI σ k with
    | some p => .refw p
    | none => .undef
  | .ref k o n => match lkI σ k with
    | some p => .ref p o n
    | none => .undef
  | .ptr k i j => match lkI σ k with
    | some p => .ptr p i j
    | none => .undef
  | .rop false row j => .rop false row j
  | .agg cs => .agg (lends σ cs)
  | .fn f cs => .fn f (lends σ cs)
  | _ => .undef
where lends (σ : List (Nat × Nat)) : List AV → List AV
  | [] => []
  | x :: l => x.lend σ :: lends σ l
def Blk.lend (σ : List (Nat × Nat)) : Blk → Blk
  | .box cs => .box (AV.lend.lends σ cs)
  | .rows sz rs => .rows sz rs
def lendH (h : Hp) (τ : List (Nat × Nat)) : List (Nat × Nat) → Option Hp
  | [] => some []
  | (p, k) :: σ => (hget h k).bind fun b => (lendH h τ σ).map fun r => (p, b.lend τ) :: r
theorem lendH_get {h : Hp} {τ : List (Nat × Nat)} : ∀ {σ : List (Nat × Nat)} {hc : Hp}, lendH h τ σ = some hc → ∀ p, (∀ k, lkF σ p = some k → ∃ b, hget h k = some b ∧ hget hc p = some (b.lend τ)) ∧ (lkF σ p = none → hget hc p = none)
  | [], hc, e, p => by simp [lendH] at e; subst e; exact ⟨(fun k hk => by cases hk), fun _ => rfl⟩
  | (q, m) :: σ, hc, e, p => by
    simp only [lendH, Option.bind_eq_some_iff, Option.map_eq_some_iff] at e
    obtain ⟨b, hb, r, hr, rfl⟩ := e
    obtain ⟨g1, g2⟩ := lendH_get hr p
    simp only [lkF, hget]
    split
    · exact ⟨(fun k hk => by cases hk; exact ⟨b, hb, rfl⟩), (fun hk => by cases hk)⟩
    · exact ⟨g1, g2⟩
def AV.back (σ : List (Nat × Nat)) : AV → AV
  | .refw p => match lkF σ p with
    | some k => .refw k
    | none => .undef
  | .ref p o n => match lkF σ p with
    | some k => .ref k o n
    | none => .undef
  | .ptr p i j => match lkF σ p with
    | some k => .ptr k i j
    | none => .undef
  | .rop true _ _ => .undef
  | .agg cs => .agg (backs σ cs)
  | .tup cs => .tup (backs σ cs)
  | .fn f cs => .fn f (backs σ cs)
  | .ls _ _ => .undef
  | v => v
where backs (σ : List (Nat × Nat)) : List AV → List AV
  | [] => []
  | x :: l => x.back σ :: backs σ l
def Blk.back (σ : List (Nat × Nat)) : Blk → Blk
  | .box cs => .box (AV.back.backs σ cs)
  | .rows sz rs => .rows sz rs
def backH (h : Hp) (τ : List (Nat × Nat)) (hc : Hp) : List (Nat × Nat) → Hp
  | [] => h
  | (p, k) :: σ => match hget hc p with
    | some b => hput (backH h τ hc σ) k (b.back τ)
    | none => backH h τ hc σ
theorem backH_get {h : Hp} {τ : List (Nat × Nat)} {hc : Hp} : ∀ {σ : List (Nat × Nat)}, okS σ = true → ∀ m, hget (backH h τ hc σ) m = match lkI σ m with
    | some p => match hget hc p with
      | some b => some (b.back τ)
      | none => hget h m
    | none => hget h m
  | [], _, m => rfl
  | (p, k) :: σ, ho, m => by
    simp only [okS, Bool.and_eq_true, Option.isNone_iff_eq_none] at ho
    have ih := backH_get (h := h) (τ := τ) (hc := hc) ho.2 m
    simp only [backH, lkI]
    by_cases e : k = m
    · subst e
      rw [if_pos rfl]
      cases hp : hget hc p with
      | none => simp only [hp]; rw [ih, ho.1.1.1.2]
      | some b => simp only [hp]; rw [hget_hput, if_pos rfl]
    · rw [if_neg e]
      cases hp : hget hc p with
      | none => simp only []; exact ih
      | some b => simp only []; rw [hget_hput, if_neg e]; exact ih
def openS0 (s : St) (σ : List (Nat × Nat)) (hc : Hp) : St := ⟨AV.lsk.lsks s.tm, backH (hlsk s.hp) σ hc σ⟩
def openS (s : St) (σ : List (Nat × Nat)) (r : AV) (hc : Hp) (d : Option Tmp) : Option St := bindR (openS0 s σ hc) d (r.back σ)
section
variable {P : Program} {Γ : Env} {B : Base} {ρ ρ' : Nat → Option Nat} {col col' : Col} {s s' : St} {a : Act} {w w' : World}
def ρL (σ : List (Nat × Nat)) (ρ : Nat → Option Nat) : Nat → Option Nat := fun p => (lkF σ p).bind ρ
def colL (σ : List (Nat × Nat)) (ρ : Nat → Option Nat) (col : Col) : Col := fun b => match col b with
  | some (k, i, j) => match lkI σ k with
    | some p => if (ρ k).isNone then none else some (p, i, j)
    | none => none
  | none => none
theorem ρL_some {σ : List (Nat × Nat)} {p b : Nat} (h : ρL σ ρ p = some b) : ∃ k, lkF σ p = some k ∧ ρ k = some b := by
  simpa [ρL, Option.bind_eq_some_iff] using h
theorem colL_some {σ : List (Nat × Nat)} {b : Nat} {p : Clr} (h : colL σ ρ col b = some p) : ∃ k, col b = some (k, p.2.1, p.2.2) ∧ lkI σ k = some p.1 ∧ ρ k ≠ none := by
  unfold colL at h
  split at h
  · rename_i k i j hc
    split at h
    · rename_i q hq
      split at h
      · cases h
      · rename_i hn
        cases h
        exact ⟨k, hc, hq, by simpa using hn⟩
    · cases h
  · cases h
mutual
theorem AVr.lend {σ : List (Nat × Nat)} {c c' : Cx} (hσ : okS σ = true) (hρ : ∀ p k, lkF σ p = some k → c'.ρ p = c.ρ k) (hh : ∀ p k b, lkF σ p = some k → hget c.hp k = some b → hget c'.hp p = some (b.lend σ)) (hw : c'.w = c.w) (hD : ∀ b, c.Dp b → c'.Dp b) :
    ∀ (x : AV) (v : Value), AVr c x v → AVr c' (x.lend σ) v
  | .t x, v, hx => by
    show Rd c'.w c'.Dp x v
    rw [hw]; exact Rd.mono (x := x) hx (fun _ _ => rfl) hD
  | .own _, _, hx => hx.elim
  | .ls _ _, _, _ => trivial
  | .nils sz, v, hx => by cases hx; exact Rd.nil ..
  | .agg cs, v, ⟨vs, e, hx⟩ => ⟨vs, e, AVrs.lend hσ hρ hh hw hD cs vs hx⟩
  | .tup cs, v, hx => trivial
  | .refw m, v, ⟨sz, rs, h1, h2⟩ => by
    unfold AV.lend
    split
    · rename_i p hp
      have hp' := (lkFI hσ p m).2 hp
      refine ⟨sz, rs, hh p m _ hp' h1, ?_⟩
      rcases h2 with ⟨b, cap, e, n, g1, g2, g3, g4, g5⟩ | ⟨g1, a, g2⟩
      · exact .inl ⟨b, cap, e, n, by rw [hρ p m hp']; exact g1, g2, g3, by rw [hw]; exact g4, g5⟩
      · exact .inr ⟨g1, a, g2⟩
    · trivial
  | .ref m off len, v, ⟨sz, rs, h1, h0, h2⟩ => by
    unfold AV.lend
    split
    · rename_i p hp
      have hp' := (lkFI hσ p m).2 hp
      refine ⟨sz, rs, hh p m _ hp' h1, h0, ?_⟩
      rw [hρ p m hp']; exact h2
    · trivial
  | .ptr m i j, v, ⟨b, h1, h2⟩ => by
    unfold AV.lend
    split
    · rename_i p hp
      have hp' := (lkFI hσ p m).2 hp
      cases hk : hget c.hp m with
      | none => simp [hk] at h2
      | some blk =>
        refine ⟨b, by rw [hρ p m hp']; exact h1, ?_⟩
        rw [hh p m _ hp' hk]
        cases blk <;> simp [hk] at h2 <;> exact h2
    · trivial
  | .rop false row j, v, ⟨b, off, h1, h2, h3⟩ => by
    simp only [Bool.false_eq_true, if_false] at h2 h3
    refine ⟨b, off, h1, by simpa using hD b h2, fun q x hq => ?_⟩
    obtain ⟨u, h4, h5⟩ := h3 q x hq
    exact ⟨u, by rw [hw]; exact h4, by simp only [Bool.false_eq_true, if_false]; rw [hw]; exact h5.mono (fun _ _ => rfl) hD⟩
  | .rop true row j, v, hx => trivial
  | .fn f cap, v, ⟨vs, e, hx⟩ => ⟨vs, e, AVrs.lend hσ hρ hh hw hD cap vs hx⟩
  | .skip, _, hx => trivial
  | .undef, _, _ => trivial
theorem AVrs.lend {σ : List (Nat × Nat)} {c c' : Cx} (hσ : okS σ = true) (hρ : ∀ p k, lkF σ p = some k → c'.ρ p = c.ρ k) (hh : ∀ p k b, lkF σ p = some k → hget c.hp k = some b → hget c'.hp p = some (b.lend σ)) (hw : c'.w = c.w) (hD : ∀ b, c.Dp b → c'.Dp b) :
    ∀ (xs : List AV) (vs : List Value), AVr.AVrs c xs vs → AVr.AVrs c' (AV.lend.lends σ xs) vs
  | [], [], _ => trivial
  | x :: xs, v :: vs, hx => ⟨AVr.lend hσ hρ hh hw hD x v hx.1, AVrs.lend hσ hρ hh hw hD xs vs hx.2⟩
  | [], _ :: _, hx => hx
  | _ :: _, [], hx => hx
end
mutual
theorem AVr.back {σ : List (Nat × Nat)} {c c' : Cx} (hρ : ∀ p k, lkF σ p = some k → c'.ρ k = c.ρ p) (hh : ∀ p k b, lkF σ p = some k → hget c.hp p = some b → hget c'.hp k = some (b.back σ)) (hw : c'.w = c.w) (hD : ∀ b, c.Dp b → c'.Dp b) :
    ∀ (x : AV) (v : Value), AVr c x v → AVr c' (x.back σ) v
  | .t x, v, hx => by
    show Rd c'.w c'.Dp x v
    rw [hw]; exact Rd.mono (x := x) hx (fun _ _ => rfl) hD
  | .own _, _, hx => hx.elim
  | .ls _ _, _, _ => trivial
  | .nils sz, v, hx => hx
  | .agg cs, v, ⟨vs, e, hx⟩ => ⟨vs, e, AVrs.back hρ hh hw hD cs vs hx⟩
  | .tup cs, v, ⟨vs, e, hx⟩ => ⟨vs, e, AVrs.back hρ hh hw hD cs vs hx⟩
  | .refw p, v, ⟨sz, rs, h1, h2⟩ => by
    unfold AV.back
    split
    · rename_i k hk
      refine ⟨sz, rs, hh p k _ hk h1, ?_⟩
      rcases h2 with ⟨b, cap, e, n, g1, g2, g3, g4, g5⟩ | ⟨g1, a, g2⟩
      · exact .inl ⟨b, cap, e, n, by rw [hρ p k hk]; exact g1, g2, g3, by rw [hw]; exact g4, g5⟩
      · exact .inr ⟨g1, a, g2⟩
    · trivial
  | .ref p off len, v, ⟨sz, rs, h1, h0, h2⟩ => by
    unfold AV.back
    split
    · rename_i k hk
      refine ⟨sz, rs, hh p k _ hk h1, h0, ?_⟩
      rw [hρ p k hk]; exact h2
    · trivial
  | .ptr p i j, v, ⟨b, h1, h2⟩ => by
    unfold AV.back
    split
    · rename_i k hk
      cases hb : hget c.hp p with
      | none => simp [hb] at h2
      | some blk =>
        refine ⟨b, by rw [hρ p k hk]; exact h1, ?_⟩
        rw [hh p k _ hk hb]
        cases blk <;> simp [hb] at h2 <;> exact h2
    · trivial
  | .rop false row j, v, ⟨b, off, h1, h2, h3⟩ => by
    simp only [Bool.false_eq_true, if_false] at h2 h3
    refine ⟨b, off, h1, by simpa using hD b h2, fun q x hq => ?_⟩
    obtain ⟨u, h4, h5⟩ := h3 q x hq
    exact ⟨u, by rw [hw]; exact h4, by simp only [Bool.false_eq_true, if_false]; rw [hw]; exact h5.mono (fun _ _ => rfl) hD⟩
  | .rop true row j, v, hx => trivial
  | .fn f cap, v, ⟨vs, e, hx⟩ => ⟨vs, e, AVrs.back hρ hh hw hD cap vs hx⟩
  | .skip, _, hx => hx
  | .undef, _, _ => trivial
theorem AVrs.back {σ : List (Nat × Nat)} {c c' : Cx} (hρ : ∀ p k, lkF σ p = some k → c'.ρ k = c.ρ p) (hh : ∀ p k b, lkF σ p = some k → hget c.hp p = some b → hget c'.hp k = some (b.back σ)) (hw : c'.w = c.w) (hD : ∀ b, c.Dp b → c'.Dp b) :
    ∀ (xs : List AV) (vs : List Value), AVr.AVrs c xs vs → AVr.AVrs c' (AV.back.backs σ xs) vs
  | [], [], _ => trivial
  | x :: xs, v :: vs, hx => ⟨AVr.back hρ hh hw hD x v hx.1, AVrs.back hρ hh hw hD xs vs hx.2⟩
  | [], _ :: _, hx => hx
  | _ :: _, [], hx => hx
end
theorem SimR.lend (h : SimR B ρ col s a w) {σ : List (Nat × Nat)} (hσ : okS σ = true) {hc : Hp} (hl : lendH s.hp σ σ = some hc) :
    Held w (cx B ρ col w s.hp).Dp (ρL σ ρ) (colL σ ρ col) hc ∧ ∀ (xs : List AV) (vs : List Value), AVr.AVrs (cx B ρ col w s.hp) xs vs → AVr.AVrs (hCx w (cx B ρ col w s.hp).Dp (ρL σ ρ) hc) (AV.lend.lends σ xs) vs := by
  have hg := fun p => lendH_get hl p
  have hρ : ∀ p k, lkF σ p = some k → ρL σ ρ p = ρ k := fun p k hk => by simp [ρL, hk]
  have hh : ∀ p k b, lkF σ p = some k → hget s.hp k = some b → hget hc p = some (b.lend σ) := by
    intro p k b hk hb
    obtain ⟨b', h1, h2⟩ := (hg p).1 k hk
    rw [hb] at h1; cases h1; exact h2
  have hav : ∀ (xs : List AV) (vs : List Value), AVr.AVrs (cx B ρ col w s.hp) xs vs → AVr.AVrs (hCx w (cx B ρ col w s.hp).Dp (ρL σ ρ) hc) (AV.lend.lends σ xs) vs :=
    fun xs vs hx => AVrs.lend (c := cx B ρ col w s.hp) (c' := hCx w (cx B ρ col w s.hp).Dp (ρL σ ρ) hc) hσ hρ hh rfl (fun _ hb => hb) xs vs hx
  refine ⟨⟨fun p hn => ?_, fun p hn => ?_, fun p b hb => ?_, fun p p' b h1 h2 => ?_, fun p b hb => ?_, fun p b hb => ?_, fun b p hb => ?_, fun b hb => ⟨hb.1, ?_, fun p e => ?_⟩, h.keep.glob, fun b hb => ⟨?_, fun p e => ?_⟩⟩, hav⟩
  · cases hp : lkF σ p with
    | none => simp [ρL, hp]
    | some k => obtain ⟨b, _, h2⟩ := (hg p).1 k hp; rw [hn] at h2; cases h2
  · cases hp : lkF σ p with
    | none => exact absurd ((hg p).2 hp) hn
    | some k => exact okS_pin hσ p k hp
  · cases hp : lkF σ p with
    | none => rw [(hg p).2 hp] at hb; cases hb
    | some k =>
      obtain ⟨b0, h1, h2⟩ := (hg p).1 k hp
      rw [hb] at h2; cases h2
      have hblk := h.hp k b0 h1
      cases b0 with
      | box cs =>
        obtain ⟨b, vs, e, fr, f1, f2, f3, f4⟩ := hblk
        exact ⟨b, vs, e, fr, (hρ p k hp).trans f1, f2, f3, hav _ _ f4⟩
      | rows sz rs =>
        obtain ⟨r1, r2⟩ := hblk
        refine ⟨r1, ?_⟩
        rcases r2 with ⟨b, cells, e, fr, u, f1, f2, f3, f4, f5, f6⟩ | ⟨f1, f2⟩
        · refine .inl ⟨b, cells, e, fr, u, (hρ p k hp).trans f1, f2, f3, f4, f5, fun i r j x hi hj => (f6 i r j x hi hj).mono (fun _ _ => rfl) (fun _ hb => hb) (fun _ _ => rfl) (fun b' hb' => ?_)⟩
          have f1' : ρ k = some b := f1
          simp only [colL, hb', (lkFI hσ p k).1 hp]
          rw [if_neg (by rw [f1']; simp)]
        · exact .inr ⟨f1, (hρ p k hp).trans f2⟩
  · obtain ⟨k, e1, e2⟩ := ρL_some h1
    obtain ⟨k', e3, e4⟩ := ρL_some h2
    have := h.inj k k' b e2 e4
    subst this
    have g1 := (lkFI hσ p k).1 e1
    rw [(lkFI hσ p' k).1 e3] at g1
    exact (Option.some.inj g1).symm
  · obtain ⟨k, e1, e2⟩ := ρL_some hb
    simp [colL, h.sep k b e2]
  · obtain ⟨k, e1, e2⟩ := ρL_some hb
    exact (h.lab k b e2).1
  · obtain ⟨k, e1, e2, e3⟩ := colL_some hb
    refine ⟨(h.colb b _ e1).1, ?_⟩
    rw [hρ p.1 k ((lkFI hσ p.1 k).2 e2)]; exact e3
  · simp [colL, show col b = none from hb.2.2.1]
  · obtain ⟨k, e1, e2⟩ := ρL_some e
    exact hb.2.2.2 k e2
  · cases hc : colL σ ρ col b with
    | none => rfl
    | some p =>
      obtain ⟨k, e1, e2, e3⟩ := colL_some hc
      rcases (h.colb b _ e1).2 with h1 | h1
      · exact absurd h1 (h.keep.gl.2 b hb)
      · exact absurd (h.keep.gl.1.lt hb) (Nat.not_lt.2 h1)
  · obtain ⟨k, e1, e2⟩ := ρL_some e
    rcases (h.lab k b e2).2 with h1 | h1
    · exact absurd h1 (h.keep.gl.2 b hb)
    · exact absurd (h.keep.gl.1.lt hb) (Nat.not_lt.2 h1)
def LentB (σ : List (Nat × Nat)) (ρ : Nat → Option Nat) (col : Col) (b : Nat) : Prop := (∃ p, ρL σ ρ p = some b) ∨ colL σ ρ col b ≠ none
open Classical in
noncomputable def col2 (σ : List (Nat × Nat)) (ρ : Nat → Option Nat) (col : Col) (n : Nat) (colO : Col) : Col := fun b =>
  if b < n ∧ ¬ LentB σ ρ col b then col b else match colO b with
    | some (p, i, j) => if p = resKey then some (limKey, i, j) else match lkF σ p with
      | some k => some (k, i, j)
      | none => none
    | none => none
theorem SimR.unlend (h : SimR B ρ col s a w) {σ : List (Nat × Nat)} (hσ : okS σ = true) {hc hc' : Hp} (hl : lendH s.hp σ σ = some hc) {r : AV} {v : Value} {colO : Col} (ho : OutO w (cx B ρ col w s.hp).Dp (ρL σ ρ) (colL σ ρ col) hc w' r v hc' colO) :
    SimR B ρ (col2 σ ρ col w.heap.size colO) (openS0 s σ hc') a w' ∧ LimR (cx B ρ (col2 σ ρ col w.heap.size colO) w' (openS0 s σ hc').hp) (col2 σ ρ col w.heap.size colO) (r.back σ) v ∧
      ((cx B ρ col w s.hp).lel (cx B ρ (col2 σ ρ col w.heap.size colO) w' (openS0 s σ hc').hp)) ∧ (∀ k b, lkI σ k = none → ρ k = some b → w'.heap[b]? = w.heap[b]?) ∧ (∀ b p, lkI σ p.1 = none → col b = some p → col2 σ ρ col w.heap.size colO b = some p) := by
  have hg := fun p => lendH_get hl p
  have hs := fun p => SimH.get ho.sim p
  have hbk : ∀ m, hget (openS0 s σ hc').hp m = match lkI σ m with
      | some p => match hget hc' p with
        | some b => some (b.back σ)
        | none => (hget s.hp m).map Blk.lsk
      | none => (hget s.hp m).map Blk.lsk := by
    intro m
    show hget (backH (hlsk s.hp) σ hc' σ) m = _
    rw [backH_get hσ, hget_hlsk]
  have hlent : ∀ p k, lkF σ p = some k → ∃ b0 b1, hget s.hp k = some b0 ∧ hget hc' p = some b1 ∧ b0.sim b1 ∧ hget (openS0 s σ hc').hp k = some (b1.back σ) := by
    intro p k hp
    obtain ⟨b0, h1, h2⟩ := (hg p).1 k hp
    obtain ⟨b1, h3, h4⟩ := (hs p).1 _ h2
    refine ⟨b0, b1, h1, h3, ?_, ?_⟩
    · cases b0 <;> cases b1 <;> simp [Blk.sim, Blk.lend] at h4 ⊢
      exact h4
    · rw [hbk, (lkFI hσ p k).1 hp]; simp only [h3]
  have hnl : ∀ m, lkI σ m = none → hget (openS0 s σ hc').hp m = (hget s.hp m).map Blk.lsk := fun m hm => by rw [hbk, hm]
  have hρ : ∀ p k, lkF σ p = some k → ρL σ ρ p = ρ k := fun p k hk => by simp [ρL, hk]
  have hlabel : ∀ k b, lkI σ k = none → ρ k = some b → ¬ LentB σ ρ col b := by
    intro k b hk hb hL
    rcases hL with ⟨p, hp⟩ | hc
    · obtain ⟨k', e1, e2⟩ := ρL_some hp
      have := h.inj k k' b hb e2
      subst this
      rw [(lkFI hσ p k).1 e1] at hk; cases hk
    · obtain ⟨q, hq⟩ := Option.ne_none_iff_exists'.1 hc
      obtain ⟨k', e1, _⟩ := colL_some hq
      rw [h.sep k b hb] at e1; cases e1
  have hcolor : ∀ b p, lkI σ p.1 = none → col b = some p → ¬ LentB σ ρ col b := by
    intro b p hp hb hL
    rcases hL with ⟨q, hq⟩ | hc
    · obtain ⟨k', e1, e2⟩ := ρL_some hq
      rw [h.sep k' b e2] at hb; cases hb
    · obtain ⟨q, hq⟩ := Option.ne_none_iff_exists'.1 hc
      obtain ⟨k', e1, e2, _⟩ := colL_some hq
      rw [hb] at e1; cases e1
      simp only at hp
      rw [e2] at hp; cases hp
  have hdp : ∀ b, (cx B ρ col w s.hp).Dp b → ¬ LentB σ ρ col b := by
    intro b hb hL
    rcases hL with ⟨q, hq⟩ | hc
    · obtain ⟨k', e1, e2⟩ := ρL_some hq
      exact hb.2.2.2 k' e2
    · obtain ⟨q, hq⟩ := Option.ne_none_iff_exists'.1 hc
      obtain ⟨k', e1, _⟩ := colL_some hq
      rw [show col b = none from hb.2.2.1] at e1; cases e1
  have hsame : ∀ b, b < w.heap.size → ¬ LentB σ ρ col b → w'.heap[b]? = w.heap[b]? := by
    intro b hb hL
    refine ho.block b hb (fun k e => hL (.inl ⟨k, e⟩)) ?_
    cases hc : colL σ ρ col b with
    | none => rfl
    | some q => exact absurd (.inr (by rw [hc]; simp)) hL
  have c2old : ∀ b, b < w.heap.size → ¬ LentB σ ρ col b → col2 σ ρ col w.heap.size colO b = col b := by
    intro b h1 h2; unfold col2; rw [if_pos ⟨h1, h2⟩]
  have c2new : ∀ b, ¬ (b < w.heap.size ∧ ¬ LentB σ ρ col b) → col2 σ ρ col w.heap.size colO b = match colO b with
    | some (p, i, j) => if p = resKey then some (limKey, i, j) else match lkF σ p with
      | some k => some (k, i, j)
      | none => none
    | none => none := by
    intro b h1; unfold col2; rw [if_neg h1]
  have hlnt : ∀ b p, colO b = some p → ¬ (b < w.heap.size ∧ ¬ LentB σ ρ col b) := by
    intro b p hb hc
    rcases (ho.colb b p hb).2 with h1 | h1 | ⟨q, h1⟩
    · omega
    · exact hc.2 (.inl h1)
    · exact hc.2 (.inr (by rw [h1]; simp))
  have hDp : ∀ b, (cx B ρ col w s.hp).Dp b → (cx B ρ (col2 σ ρ col w.heap.size colO) w' (openS0 s σ hc').hp).Dp b := fun b hb =>
    ⟨Nat.lt_of_lt_of_le hb.1 ho.size, hb.2.1, by rw [c2old b hb.1 (hdp b hb)]; exact hb.2.2.1, hb.2.2.2⟩
  have hDo : ∀ b, (oCx w (cx B ρ col w s.hp).Dp (ρL σ ρ) w' colO hc').Dp b → (cx B ρ (col2 σ ρ col w.heap.size colO) w' (openS0 s σ hc').hp).Dp b := by
    intro b hb
    obtain ⟨b1, b2, b3, b4⟩ := hb
    rcases b2 with b2 | b2
    · exact hDp b b2
    · refine ⟨b1, .inr (Nat.le_trans h.keep.size b2), ?_, fun k e => ?_⟩
      · rw [c2new b (by omega), b3]
      · have := (h.lab k b e).1; omega
  have hle : (cx B ρ col w s.hp).lel (cx B ρ (col2 σ ρ col w.heap.size colO) w' (openS0 s σ hc').hp) := by
    refine ⟨fun _ _ => rfl, fun m b hb => ?_, fun b hb => ⟨hDp b hb, hsame b hb.1 (hdp b hb)⟩, fun m b hb => ?_⟩
    · have hb' : hget s.hp m = some b := hb
      cases hm : lkI σ m with
      | none => exact ⟨b.lsk, (hnl m hm).trans (by rw [hb']; rfl), blk_sim_lsk b⟩
      | some p =>
        obtain ⟨b0, b1, e1, e2, e3, e4⟩ := hlent p m ((lkFI hσ p m).2 hm)
        rw [hb'] at e1; cases e1
        refine ⟨_, e4, ?_⟩
        cases b <;> cases b1 <;> simp [Blk.sim, Blk.back] at e3 ⊢
        exact e3
    · cases hm : lkI σ m with
      | none => exact shape_same (hsame b (h.lab m b hb).1 (hlabel m b hm hb))
      | some p => exact ho.sh p b ((hρ p m ((lkFI hσ p m).2 hm)).trans hb)
  have hback : ∀ (x : AV) (v : Value), AVr (oCx w (cx B ρ col w s.hp).Dp (ρL σ ρ) w' colO hc') x v → AVr (cx B ρ (col2 σ ρ col w.heap.size colO) w' (openS0 s σ hc').hp) (x.back σ) v :=
    fun x v hx => AVr.back (c := oCx w (cx B ρ col w s.hp).Dp (ρL σ ρ) w' colO hc') (c' := cx B ρ (col2 σ ρ col w.heap.size colO) w' (openS0 s σ hc').hp) (fun p k hk => (hρ p k hk).symm)
      (fun p k b hk hb => by
        obtain ⟨b0, b1, e1, e2, e3, e4⟩ := hlent p k hk
        have hb' : hget hc' p = some b := hb
        rw [hb'] at e2; cases e2; exact e4) rfl hDo x v hx
  have hbacks : ∀ (xs : List AV) (vs : List Value), AVr.AVrs (oCx w (cx B ρ col w s.hp).Dp (ρL σ ρ) w' colO hc') xs vs → AVr.AVrs (cx B ρ (col2 σ ρ col w.heap.size colO) w' (openS0 s σ hc').hp) (AV.back.backs σ xs) vs :=
    fun xs vs hx => AVrs.back (c := oCx w (cx B ρ col w s.hp).Dp (ρL σ ρ) w' colO hc') (c' := cx B ρ (col2 σ ρ col w.heap.size colO) w' (openS0 s σ hc').hp) (fun p k hk => (hρ p k hk).symm)
      (fun p k b hk hb => by
        obtain ⟨b0, b1, e1, e2, e3, e4⟩ := hlent p k hk
        have hb' : hget hc' p = some b := hb
        rw [hb'] at e2; cases e2; exact e4) rfl hDo xs vs hx
  refine ⟨⟨h.defers, by simp [openS0, lsks_length, h.len], ⟨ho.os.trans h.keep.os, ho.tape.trans h.keep.tape, ho.output.trans h.keep.output, DrLe.trans h.keep.drawn ho.drawn, Nat.le_trans h.keep.size ho.size, fun b hb hx => ?_, h.keep.xl, h.keep.lp, fun k b hb => ?_, h.keep.gl⟩, fun i => ?_, fun m b hb => ?_, fun m hm => ?_, h.inj, fun m b hb => ?_, fun m b hb => ⟨Nat.lt_of_lt_of_le (h.lab m b hb).1 ho.size, (h.lab m b hb).2⟩, fun b p hb => ?_, h.pins, ?_⟩, ?_, hle, fun k b hk hb => hsame b (h.lab k b hb).1 (hlabel k b hk hb), fun b p hp hb => ?_⟩
  · have hlt := Nat.lt_of_lt_of_le hb h.keep.size
    rw [hsame b hlt (fun hL => ?_)]
    · exact h.keep.block b hb hx
    · rcases hL with ⟨p, hp⟩ | hcc
      · obtain ⟨k, e1, e2⟩ := ρL_some hp
        rcases (h.lab k b e2).2 with h1 | h1
        · exact hx h1
        · omega
      · obtain ⟨q, hq⟩ := Option.ne_none_iff_exists'.1 hcc
        obtain ⟨k, e1, _⟩ := colL_some hq
        rcases (h.colb b _ e1).2 with h1 | h1
        · exact hx h1
        · omega
  · have hp := h.keep.lp k b hb
    have hρk : ρ k = some b := (h.pins k hp.1).trans hb
    rw [← h.keep.sh k b hb]
    exact hle.sh k b hρk
  · show AVr _ (gt (AV.lsk.lsks s.tm) i) _
    rw [gt_lsks]; exact AVr.lsk hle _ _ (h.tm i)
  · cases hm : lkI σ m with
    | none =>
      rw [hnl m hm] at hb
      simp only [Option.map_eq_some_iff] at hb
      obtain ⟨b0, hb0, rfl⟩ := hb
      refine (h.hp m b0 hb0).lsk hle rfl (fun b hb => hsame b (h.lab m b hb).1 (hlabel m b hm hb)) (fun b i j hcb => ?_)
      have hn := hcolor b (m, i, j) hm hcb
      have hlt := (h.colb b _ hcb).1
      exact ⟨by rw [c2old b hlt hn]; exact hcb, hsame b hlt hn⟩
    | some p =>
      have hp := (lkFI hσ p m).2 hm
      obtain ⟨b0, b1, e1, e2, e3, e4⟩ := hlent p m hp
      rw [hb] at e4; cases e4
      have hblk := ho.blk p b1 e2
      have hpk : p ≠ resKey := fun e => by
        have := (okS_pin hσ p m hp).2
        subst e
        exact absurd this (by decide)
      cases b1 with
      | box cs =>
        obtain ⟨b, vs, e, fr, f1, f2, f3, f4⟩ := hblk
        exact ⟨b, vs, e, fr, (hρ p m hp).symm.trans f1, f2, f3, hbacks _ _ f4⟩
      | rows sz rs =>
        obtain ⟨r1, r2⟩ := hblk
        refine ⟨r1, ?_⟩
        rcases r2 with ⟨b, cells, e, fr, u, f1, f2, f3, f4, f5, f6⟩ | ⟨f1, f2⟩
        · refine .inl ⟨b, cells, e, fr, u, (hρ p m hp).symm.trans f1, f2, f3, f4, f5, fun i r j x hi hj => (f6 i r j x hi hj).mono (fun _ _ => rfl) hDo (fun _ _ => rfl) (fun b' hb' => ?_)⟩
          rw [c2new b' (hlnt b' _ hb'), hb']
          simp only [if_neg hpk, hp]
        · exact .inr ⟨f1, (hρ p m hp).symm.trans f2⟩
  · cases hk : lkI σ m with
    | none =>
      rw [hnl m hk] at hm
      simp only [Option.map_eq_none_iff] at hm
      exact h.dom m hm
    | some p =>
      obtain ⟨b0, b1, e1, e2, e3, e4⟩ := hlent p m ((lkFI hσ p m).2 hk)
      rw [hm] at e4; cases e4
  · cases hm : lkI σ m with
    | none => rw [c2old b (h.lab m b hb).1 (hlabel m b hm hb)]; exact h.sep m b hb
    | some p =>
      have hρb : ρL σ ρ p = some b := (hρ p m ((lkFI hσ p m).2 hm)).trans hb
      rw [c2new b (fun hcc => hcc.2 (.inl ⟨p, hρb⟩)), ho.sep p b hρb]
  · by_cases hcc : b < w.heap.size ∧ ¬ LentB σ ρ col b
    · rw [c2old b hcc.1 hcc.2] at hb
      exact ⟨Nat.lt_of_lt_of_le hcc.1 ho.size, (h.colb b p hb).2⟩
    · rw [c2new b hcc] at hb
      cases hO : colO b with
      | none => rw [hO] at hb; cases hb
      | some q =>
        obtain ⟨g1, g2⟩ := ho.colb b q hO
        refine ⟨g1, ?_⟩
        rcases g2 with g2 | ⟨k, g2⟩ | ⟨q', g2⟩
        · exact .inr (Nat.le_trans h.keep.size g2)
        · obtain ⟨k', e1, e2⟩ := ρL_some g2
          exact (h.lab k' b e2).2
        · obtain ⟨k', e1, _⟩ := colL_some g2
          exact (h.colb b _ e1).2
  · rw [hbk]
    have : lkI σ limKey = none := by
      cases hk : lkI σ limKey with
      | none => rfl
      | some p =>
        obtain ⟨b0, b1, e1, _⟩ := hlent p limKey ((lkFI hσ p limKey).2 hk)
        rw [h.nolim] at e1; cases e1
    rw [this, h.nolim]; rfl
  ·
    have hresN : ∀ b i j, colO b = some (resKey, i, j) → col2 σ ρ col w.heap.size colO b = some (limKey, i, j) := by
      intro b i j hb
      rw [c2new b (hlnt b _ hb), hb]
      simp
    have hC : ∀ (i j : Nat) (x : AV) (v : Value), ResC (oCx w (cx B ρ col w s.hp).Dp (ρL σ ρ) w' colO hc') colO i j x v → LimC (cx B ρ (col2 σ ρ col w.heap.size colO) w' (openS0 s σ hc').hp) (col2 σ ρ col w.heap.size colO) i j (x.back σ) v := by
      intro i j x v hx
      cases x <;> first | exact hx.elim | skip
      · exact Rd.mono hx (fun _ _ => rfl) hDo
      · exact Own.mono hx (fun _ _ => rfl) hDo (fun _ _ => rfl) (fun b hb => hresN b i j hb)
      · trivial
    have hCs : ∀ (i : Nat) (xs : List AV) (vs : List Value) (j : Nat), ResCs (oCx w (cx B ρ col w s.hp).Dp (ρL σ ρ) w' colO hc') colO i j xs vs → LimCs (cx B ρ (col2 σ ρ col w.heap.size colO) w' (openS0 s σ hc').hp) (col2 σ ρ col w.heap.size colO) i j (AV.back.backs σ xs) vs := by
      intro i xs
      induction xs with
      | nil => intro vs j h; cases vs <;> first | trivial | exact h.elim
      | cons x xs ih =>
        intro vs j h
        cases vs with
        | nil => exact h.elim
        | cons v vs => exact ⟨hC i j x v h.1, ih vs (j + 1) h.2⟩
    have hV : ∀ (i : Nat) (x : AV) (v : Value), ResV (oCx w (cx B ρ col w s.hp).Dp (ρL σ ρ) w' colO hc') colO i x v → LimV (cx B ρ (col2 σ ρ col w.heap.size colO) w' (openS0 s σ hc').hp) (col2 σ ρ col w.heap.size colO) i (x.back σ) v := by
      intro i x v h
      have hpass : ∀ (x : AV), passO x = true → ResV (oCx w (cx B ρ col w s.hp).Dp (ρL σ ρ) w' colO hc') colO i x v → LimV (cx B ρ (col2 σ ρ col w.heap.size colO) w' (openS0 s σ hc').hp) (col2 σ ρ col w.heap.size colO) i (x.back σ) v := by
        intro x hp h
        have h' : AVr (oCx w (cx B ρ col w s.hp).Dp (ρL σ ρ) w' colO hc') x v := by
          cases x <;> first | (simp only [ResV, hp, if_true] at h; exact h) | cases hp
        have hb := hback x v h'
        cases x with
        | ptr p i' j' =>
          obtain ⟨b, g1, g2⟩ := h'
          obtain ⟨k, e1, e2⟩ := ρL_some g1
          simp only [AV.back, e1] at hb ⊢
          simpa only [LimV, passL, if_true] using hb
        | refw p =>
          obtain ⟨sz, rs, g1, g2⟩ := h'
          have : lkF σ p ≠ none := fun hn => by
            have g1' : hget hc' p = some (.rows sz rs) := g1
            rw [(hs p).2 ((hg p).2 hn)] at g1'; cases g1'
          obtain ⟨k, e1⟩ := Option.ne_none_iff_exists'.1 this
          simp only [AV.back, e1] at hb ⊢
          simpa only [LimV, passL, if_true] using hb
        | ref p o n =>
          obtain ⟨sz, rs, g1, g2⟩ := h'
          have : lkF σ p ≠ none := fun hn => by
            have g1' : hget hc' p = some (.rows sz rs) := g1
            rw [(hs p).2 ((hg p).2 hn)] at g1'; cases g1'
          obtain ⟨k, e1⟩ := Option.ne_none_iff_exists'.1 this
          simp only [AV.back, e1] at hb ⊢
          simpa only [LimV, passL, if_true] using hb
        | rop l row j =>
          cases l
          · simpa only [AV.back, LimV, passL, if_true] using hb
          · cases hp
        | _ => cases hp
      cases x with
      | agg cs => obtain ⟨vs, e, h⟩ := h; exact ⟨vs, e, hCs i cs vs 0 h⟩
      | t y => exact hC i 0 (.t y) v h
      | own y => exact hC i 0 (.own y) v h
      | ptr p i' j =>
        by_cases hp : passO (.ptr p i' j) = true
        · exact hpass _ hp h
        · simp only [ResV, hp] at h; exact h.elim
      | refw p =>
        by_cases hp : passO (.refw p) = true
        · exact hpass _ hp h
        · simp only [ResV, hp] at h; exact h.elim
      | ref p i' j =>
        by_cases hp : passO (.ref p i' j) = true
        · exact hpass _ hp h
        · simp only [ResV, hp] at h; exact h.elim
      | rop l row j =>
        cases l
        · exact hpass _ rfl h
        · exact h.elim
      | undef => trivial
      | _ => exact h.elim
    have hVs : ∀ (xs : List AV) (vs : List Value) (i : Nat), ResVs (oCx w (cx B ρ col w s.hp).Dp (ρL σ ρ) w' colO hc') colO i xs vs → LimVs (cx B ρ (col2 σ ρ col w.heap.size colO) w' (openS0 s σ hc').hp) (col2 σ ρ col w.heap.size colO) i (AV.back.backs σ xs) vs := by
      intro xs
      induction xs with
      | nil => intro vs i h; cases vs <;> first | trivial | exact h.elim
      | cons x xs ih =>
        intro vs i h
        cases vs with
        | nil => exact h.elim
        | cons v vs => exact ⟨hV i x v h.1, ih vs (i + 1) h.2⟩
    have hres := ho.res
    cases r with
    | tup xs => obtain ⟨vs, e, h⟩ := hres; exact ⟨vs, e, hVs xs vs 0 h⟩
    | agg cs => exact hV 0 (.agg cs) v hres
    | t y => exact hV 0 (.t y) v hres
    | own y => exact hV 0 (.own y) v hres
    | ptr p i' j =>
      have := hV 0 (.ptr p i' j) v hres
      revert this
      simp only [AV.back]
      split <;> exact fun h => h
    | refw p =>
      have := hV 0 (.refw p) v hres
      revert this
      simp only [AV.back]
      split <;> exact fun h => h
    | ref p i' j =>
      have := hV 0 (.ref p i' j) v hres
      revert this
      simp only [AV.back]
      split <;> exact fun h => h
    | rop l row j =>
      cases l
      · exact hV 0 (.rop false row j) v hres
      · exact hres.elim
    | undef => exact hV 0 .undef v hres
    | _ => exact hres.elim
  · have hlt := (h.colb b p hb).1
    rw [c2old b hlt (hcolor b p hp hb)]; exact hb
end
end Go.Proofs.YtcpfhonmdbhdbaaGreatDoor.Am
namespace Go.Proofs.YtcpfhonmdbhdbaaGreatDoor.Am
open Go
set_option linter.unusedVariables false
def unfocus (s : St) (m k i j : Nat) : Option St :=
  match hget s.hp k with
  | some (.rows sz rs) => match hget s.hp m with
    | some (.rows sz' rs') => if i < rs.length ∧ j < sz ∧ k ≠ m ∧ m < 9000 then
        some ⟨(s.drop m).tm, hput (s.drop m).hp k (.rows sz (rs.set i (ptT (rs.getD i []) j (.list true sz' rs'))))⟩
      else none
    | _ => none
  | _ => none
def noPL : AV → Bool
  | .tup l => l.all fun x => !passL x
  | x => !passL x
def nestS (s : St) (σ : List (Nat × Nat)) (r : AV) (hc : Hp) (m k i j : Nat) (d : Option Tmp) : Option St :=
  if noPL (r.back σ) = true then (unfocus (openS0 s σ hc) m k i j).bind fun s' => bindR s' d (r.back σ) else none
section
variable {P : Program} {Γ : Env} {B : Base} {ρ ρ' : Nat → Option Nat} {col col' : Col} {s s' : St} {a : Act} {w w' : World}
theorem LimV.mono0 {c c' : Cx} {i : Nat} (hD : ∀ b, c.Dp b → c'.Dp b ∧ c'.w.heap[b]? = c.w.heap[b]?) (hc : ∀ b j', col b = some (limKey, i, j') → col' b = some (limKey, i, j') ∧ c'.w.heap[b]? = c.w.heap[b]?) {x : AV} (hp : passL x = false) {v : Value} (h : LimV c col i x v) : LimV c' col' i x v := by
  cases x with
  | agg cs =>
    obtain ⟨vs, e, h⟩ := h
    exact ⟨vs, e, LimCs.mono hD (fun b j' _ => hc b j') h⟩
  | t y => exact LimC.mono (c := c) (col := col) (i := i) (j := 0) (x := .t y) h hD (fun b => hc b 0)
  | own y => exact LimC.mono (c := c) (col := col) (i := i) (j := 0) (x := .own y) h hD (fun b => hc b 0)
  | ptr => cases hp
  | refw => cases hp
  | ref => cases hp
  | rop l _ _ =>
    cases l
    · cases hp
    · exact h.elim
  | undef => trivial
  | _ => exact h.elim
theorem LimVs.mono0 {c c' : Cx} (hD : ∀ b, c.Dp b → c'.Dp b ∧ c'.w.heap[b]? = c.w.heap[b]?) (hc : ∀ b i' j', col b = some (limKey, i', j') → col' b = some (limKey, i', j') ∧ c'.w.heap[b]? = c.w.heap[b]?) : ∀ {xs : List AV} {vs : List Value} {i : Nat}, (xs.all fun x => !passL x) = true → LimVs c col i xs vs → LimVs c' col' i xs vs
  | [], [], _, _, _ => trivial
  | x :: xs, v :: vs, i, hp, h => by
    simp only [List.all_cons, Bool.and_eq_true, Bool.not_eq_true'] at hp
    exact ⟨LimV.mono0 hD (fun b j' => hc b i j') hp.1 h.1, LimVs.mono0 hD hc hp.2 h.2⟩
  | [], _ :: _, _, _, h => h.elim
  | _ :: _, [], _, _, h => h.elim
theorem LimR.mono0 {c c' : Cx} (hD : ∀ b, c.Dp b → c'.Dp b ∧ c'.w.heap[b]? = c.w.heap[b]?) (hc : ∀ b i' j', col b = some (limKey, i', j') → col' b = some (limKey, i', j') ∧ c'.w.heap[b]? = c.w.heap[b]?) {r : AV} {v : Value} (hp : noPL r = true) (h : LimR c col r v) : LimR c' col' r v := by
  have one : ∀ x, passL x = false → LimV c col 0 x v → LimV c' col' 0 x v := fun x hp h => LimV.mono0 hD (fun b j' => hc b 0 j') hp h
  cases r with
  | tup xs => obtain ⟨vs, e, h⟩ := h; exact ⟨vs, e, LimVs.mono0 hD hc hp h⟩
  | t y => exact one (.t y) (by simpa [noPL] using hp) h
  | own y => exact one (.own y) (by simpa [noPL] using hp) h
  | ls y o => exact one (.ls y o) (by simpa [noPL] using hp) h
  | nils y => exact one (.nils y) (by simpa [noPL] using hp) h
  | agg y => exact one (.agg y) (by simpa [noPL] using hp) h
  | refw y => exact one (.refw y) (by simpa [noPL] using hp) h
  | ref y o n => exact one (.ref y o n) (by simpa [noPL] using hp) h
  | ptr y o n => exact one (.ptr y o n) (by simpa [noPL] using hp) h
  | rop y o n => exact one (.rop y o n) (by simpa [noPL] using hp) h
  | fn y o => exact one (.fn y o) (by simpa [noPL] using hp) h
  | skip => exact one .skip rfl h
  | undef => exact one .undef rfl h
theorem SimR.reroll (h : SimR B ρ col s a w) {k sz : Nat} {rs rs' : List (List T)} (hk : hget s.hp k = some (.rows sz rs)) (hl : rs.length = rs'.length) (hr : RowsR (cx B ρ col w (hput s.hp k (.rows sz rs'))) col k sz rs') :
    SimR B ρ col ⟨s.tm, hput s.hp k (.rows sz rs')⟩ a w := by
  have hle : (cx B ρ col w s.hp).le (cx B ρ col w (hput s.hp k (.rows sz rs'))) fun _ => True := by
    refine ⟨fun _ _ _ => rfl, fun m b _ hb => ?_, fun b hb => ⟨hb, rfl⟩, fun b hb => ⟨hb, rfl⟩, fun _ _ _ _ => rfl, fun _ _ _ _ _ => rfl⟩
    have hb' : hget s.hp m = some b := hb
    show ∃ b', hget (hput s.hp k (.rows sz rs')) m = some b' ∧ _
    rw [hget_hput]
    split
    · rename_i e; subst e; rw [hk] at hb'; cases hb'; exact ⟨_, rfl, rfl, hl⟩
    · exact ⟨b, hb', blk_sim_refl b⟩
  refine ⟨h.defers, h.len, h.keep, fun i => AVr.mono hle _ _ (h.tm i), fun m b hm => ?_, fun m hm => ?_, h.inj, h.sep, h.lab, h.colb, h.pins, by rw [hget_hput, h.nolim, if_neg (fun e => by rw [e, h.nolim] at hk; cases hk)]⟩
  · have hm' : hget (hput s.hp k (.rows sz rs')) m = some b := hm
    rw [hget_hput] at hm'
    split at hm'
    · rename_i e; subst e; cases hm'; exact hr
    · exact (h.hp m b hm').mono hle rfl (fun _ _ => rfl) (fun _ _ _ h => ⟨h, rfl⟩)
  · have hm' : hget (hput s.hp k (.rows sz rs')) m = none := hm
    rw [hget_hput] at hm'
    split at hm'
    · cases hm'
    · exact h.dom m hm'
theorem SimR.unfocus (h : SimR B ρ col s a w) {m k i j : Nat} (hu : Am.unfocus s m k i j = some s') {v : Value} (hv : AVr (cx B ρ col w s.hp) (.refw m) v) (ht : Tie (cx B ρ col w s.hp) (some (k, i, j)) v) :
    ∃ ρ' col', SimR B ρ' col' s' a w ∧ (∀ b, (cx B ρ col w s.hp).Dp b → (cx B ρ' col' w s'.hp).Dp b) ∧ (∀ b p, p.1 ≠ m → col b = some p → col' b = some p) := by
  unfold Am.unfocus at hu
  split at hu
  · rename_i sz rs hk
    split at hu
    · rename_i sz' rs' hm
      split at hu
      · rename_i hc
        cases hu
        obtain ⟨hi, hj, hkm, hp⟩ := hc
        have hkl : k ≠ limKey := fun e => by rw [e, h.nolim] at hk; cases hk
        obtain ⟨g1, g2⟩ := h.drop m hp (some (k, i, j)) (fun _ _ => (k, i, j)) (fun i' j' e => hkl (by cases e; rfl)) (fun _ _ => hkl)
        have hown := h.give hm hp hv (k, i, j) hkm hkl
        have hk1 : hget (s.drop m).hp k = some (.rows sz rs) := by rw [hget_drop, if_neg (Ne.symm hkm), hk]; rfl
        obtain ⟨hrow, hrest⟩ := g1.hp k _ hk1
        have hri : rs[i]? = some (rs.getD i []) := by simp [List.getD_eq_getElem?_getD, List.getElem?_eq_getElem hi]
        have hrl := hrow i _ hri
        obtain ⟨b0, sz0, rs0, t1, t2, t3, t4, t5⟩ := ht
        have t2' : hget s.hp k = some (.rows sz0 rs0) := t2
        rw [hk] at t2'; cases t2'
        have t1' : unlab ρ m k = some b0 := by simp only [unlab, if_neg hkm]; exact t1
        rcases hrest with ⟨b, cells, e, fr, uu, hb, hh, hfr, hsz, huu, how⟩ | ⟨_, hn⟩
        rotate_left
        · rw [show unlab ρ m k = none from hn] at t1'; cases t1'
        have hbb : b = b0 := by
          have : unlab ρ m k = some b := hb
          rw [t1'] at this; exact (Option.some.inj this).symm
        subst hbb
        have hh' : w.heap[b]? = some (.cells cells e fr) := hh
        have hcell : cells[i * sz + j]? = some v := by
          have : w.cell? ⟨b, i * sz + j, none⟩ = some v := t5
          simpa [World.cell?, hh'] using this
        refine ⟨_, _, g1.reroll hk1 (by simp) ⟨fun i' r hr => ?_, .inl ⟨b, cells, e, fr, fun i' j' => if i' = i ∧ j' = j then v else uu i' j', t1', hh, hfr, by rw [List.length_set]; exact hsz, fun i' r j' x hr hx => ?_, fun i' r j' x hr hx => ?_⟩⟩, fun b hb => ?_, fun b p hpm hb => ?_⟩
        · rw [List.getElem?_set] at hr
          split at hr
          · cases hr; rw [ptT_length]; exact hrl
          · exact hrow i' r hr
        · dsimp only
          rw [List.getElem?_set] at hr
          split at hr
          · rename_i e'; subst e'; cases hr
            rw [ptT_get] at hx
            split at hx
            · rename_i hcc
              obtain ⟨rfl, _⟩ := hcc
              rw [if_pos ⟨rfl, rfl⟩]; exact hcell
            · rename_i hcc
              rw [if_neg (fun h' => hcc ⟨h'.2, by omega⟩)]
              exact huu i _ j' x hri hx
          · rename_i e'
            rw [if_neg (fun h' => e' h'.1.symm)]
            exact huu i' r j' x hr hx
        · dsimp only
          rw [List.getElem?_set] at hr
          split at hr
          · rename_i e'; subst e'; cases hr
            rw [ptT_get] at hx
            split at hx
            · rename_i hcc
              obtain ⟨rfl, _⟩ := hcc
              cases hx
              rw [if_pos ⟨rfl, rfl⟩]; exact hown
            · rename_i hcc
              rw [if_neg (fun h' => hcc ⟨h'.2, by omega⟩)]
              exact how i _ j' x hri hx
          · rename_i e'
            rw [if_neg (fun h' => e' h'.1.symm)]
            exact how i' r j' x hr hx
        · exact (g2.dp b hb).1
        · have hkb : ρ m ≠ some b := fun e => by rw [h.sep m b e] at hb; cases hb
          obtain ⟨p1, p2, p3⟩ := p
          simp only [recol, if_neg hkb, hb]
          rw [if_neg hpm]
      · cases hu
    · cases hu
  · cases hu
end
end Go.Proofs.YtcpfhonmdbhdbaaGreatDoor.Am
namespace Go.Proofs.YtcpfhonmdbhdbaaGreatDoor.Am
open Go
set_option linter.unusedVariables false
mutual
def T.mk (o : Bool) : T → T
  | .list _ sz rows => .list o sz (T.mkss o rows)
  | .fn f cap => .fn f (T.mks o cap)
  | .mp ks rows => .mp ks (T.mkss o rows)
  | .pp x => .pp (x.mk o)
  | x => x
def T.mks (o : Bool) : List T → List T
  | [] => []
  | x :: l => x.mk o :: T.mks o l
def T.mkss (o : Bool) : List (List T) → List (List T)
  | [] => []
  | r :: l => T.mks o r :: T.mkss o l
end
theorem T.mks_map (o : Bool) (l : List T) : T.mks o l = l.map (T.mk o) := by induction l <;> simp [T.mks, *]
theorem T.mkss_map (o : Bool) (l : List (List T)) : T.mkss o l = l.map (List.map (T.mk o)) := by induction l <;> simp [T.mkss, T.mks_map, *]
theorem T.mk_list (o p : Bool) (sz : Nat) (rows : List (List T)) : (T.list p sz rows).mk o = .list o sz (rows.map (List.map (T.mk o))) := by simp [T.mk, T.mkss_map]
theorem T.mk_int (o : Bool) (k : IntKind) (n : Int) : (T.int k n).mk o = .int k n := rfl
theorem T.mk_bool (o b : Bool) : (T.bool b).mk o = .bool b := rfl
theorem T.mk_str (o : Bool) (b : ByteArray) : (T.str b).mk o = .str b := rfl
theorem Rd.mk {w : World} {D : Dm} (o : Bool) : ∀ {x : T} {v : Value}, Rd w D x v → Rd w D (x.mk o) v := by
  intro x v h
  induction h with
  | int | bool | str | nilp | nilfn => constructor
  | gone v hv => exact .gone v hv
  | pp x b off u hb hc _ ih => simp only [T.mk]; exact .pp _ b off u hb hc ih
  | mp ks rows b es clk u hb hh h1 h2 h3 h4 _ ih =>
    simp only [T.mk, T.mkss_map]
    refine .mp ks _ b es clk u hb hh h1 (by simpa using h2) h3 (fun i r hi => ?_) fun i r j x v hi hj hv => ?_
    · rw [List.getElem?_map, Option.map_eq_some_iff] at hi
      obtain ⟨r', hi, rfl⟩ := hi
      simpa using h4 i r' hi
    · rw [List.getElem?_map, Option.map_eq_some_iff] at hi
      obtain ⟨r', hi, rfl⟩ := hi
      rw [List.getElem?_map, Option.map_eq_some_iff] at hj
      obtain ⟨y, hj, rfl⟩ := hj
      exact ih i r' j y v hi hj hv
  | fn f cap vs hl _ ih =>
    simp only [T.mk, T.mks_map]
    refine .fn f _ vs (by simpa using hl) fun i x v hx hv => ?_
    rw [List.getElem?_map, Option.map_eq_some_iff] at hx
    obtain ⟨y, hy, rfl⟩ := hx
    exact ih i y v hy hv
  | nil => simp only [T.mk, T.mkss]; exact .nil ..
  | list p sz rows b off cap u hc hb hr hu _ ih =>
    rw [T.mk_list]
    have key : ∀ (i : Nat) (r : List T), (rows.map (List.map (T.mk o)))[i]? = some r → ∃ r', rows[i]? = some r' ∧ r = r'.map (T.mk o) := by
      intro i r hi
      rw [List.getElem?_map, Option.map_eq_some_iff] at hi
      obtain ⟨y, hy, rfl⟩ := hi
      exact ⟨y, hy, rfl⟩
    have key2 : ∀ (r' : List T) (j : Nat) (x : T), (r'.map (T.mk o))[j]? = some x → ∃ y, r'[j]? = some y ∧ x = y.mk o := by
      intro r' j x hj
      rw [List.getElem?_map, Option.map_eq_some_iff] at hj
      obtain ⟨y, hy, rfl⟩ := hj
      exact ⟨y, hy, rfl⟩
    have := Rd.list (w := w) (D := D) o sz (rows.map (List.map (T.mk o))) b off cap u (by simpa using hc) hb
      (fun i r hi => by obtain ⟨r', h1, rfl⟩ := key i r hi; simpa using hr i r' h1)
      (fun i r j x hi hj => by obtain ⟨r', h1, rfl⟩ := key i r hi; obtain ⟨y, h2, rfl⟩ := key2 r' j x hj; exact hu i r' j y h1 h2)
      (fun i r j x hi hj => by obtain ⟨r', h1, rfl⟩ := key i r hi; obtain ⟨y, h2, rfl⟩ := key2 r' j x hj; exact ih i r' j y h1 h2)
    simpa using this
def Plain (P : Program) (f : FuncId) : Prop := ∃ fn, P.funcs[f]? = some fn ∧ fn.body.isNone = false ∧ (fn.name == "runtime.NumGoroutine") = false
def rowT (h : Hp) : List AV → Option (List T)
  | [] => some []
  | x :: l => (toT h x).bind fun t => (rowT h l).map fun r => t :: r
def toA (h : Hp) : AV → Option AV
  | .t x => (toT h (.t x)).map .t
  | .ls x o => (toT h (.ls x o)).map .t
  | .nils sz => (toT h (.nils sz)).map .t
  | .refw k => (toT h (.refw k)).map .t
  | .ref k o n => (toT h (.ref k o n)).map .t
  | .ptr k i j => match hget h k with
    | some (.box cs) => if i = 0 then (rowT h cs).map fun r => .rop false r j else none
    | _ => none
  | .rop _ r j => some (.rop false r j)
  | .own _ => none
  | .agg _ => none
  | .tup _ => none
  | .fn _ _ => none
  | .skip => none
  | .undef => none
def argCells (h : Hp) : List AV → Option (List AV)
  | [] => some []
  | x :: l => (toA h x).bind fun t => (argCells h l).map fun r => t :: r
def argAV (h : Hp) : AV → Option AV
  | .agg cs => (argCells h cs).map .agg
  | .fn f cs => (argCells h cs).map (.fn f)
  | x => toA h x
def argAVs (h : Hp) : List AV → Option (List AV)
  | [] => some []
  | x :: l => (argAV h x).bind fun t => (argAVs h l).map fun r => t :: r
def permC : AV → Bool
  | .t _ => true
  | .nils _ => true
  | _ => false
def permCs : List AV → Bool
  | [] => true
  | x :: l => permC x && permCs l
def permV : AV → Bool
  | .agg cs => permCs cs
  | .fn _ cs => permCs cs
  | x => permC x
def permVs : List AV → Bool
  | [] => true
  | x :: l => permV x && permVs l
def T.scal : T → Prop
  | .list _ _ _ => False
  | .fn _ _ => False
  | .mp _ _ => False
  | .pp _ => False
  | _ => True
inductive Deep : T → Prop
  | sc (x) : x.scal → Deep x
  | list (sz rows) : (∀ r ∈ rows, ∀ x ∈ r, Deep x) → Deep (.list true sz rows)
def DeepC : AV → Prop
  | .t x => x.scal
  | .own x => Deep x
  | .undef => True
  | _ => False
def DeepCs : List AV → Prop
  | [] => True
  | x :: l => DeepC x ∧ DeepCs l
def DeepV : AV → Prop
  | .agg cs => DeepCs cs
  | x => DeepC x
def DeepVs : List AV → Prop
  | [] => True
  | x :: l => DeepV x ∧ DeepVs l
def DeepR : AV → Prop
  | .tup l => DeepVs l
  | x => DeepV x
def bCx (w : World) (D : Dm) (w' : World) (g : Nat) : Cx := ⟨fun _ => none, w', fun b => b < w'.heap.size ∧ (D b ∨ w.heap.size ≤ b) ∧ b ≠ g, fun b => b < w'.heap.size, []⟩
def SpecB (P : Program) (f : FuncId) (args : List AV) (cs : List AV) : Prop :=
  ∀ (w : World) (D : Dm) (vs : List Value), DmOk w D → AVr.AVrs (inCx w D) args vs →
    Calls P f vs.toArray w fun e w' => ∃ b, ∃ us : List Value, ∃ e' fr, e = .returned (.pointer (some ⟨b, 0, none⟩)) ∧ WStep w w' none ∧ w.heap.size ≤ b ∧ b < w'.heap.size ∧ w'.heap[b]? = some (.cells us.toArray e' fr) ∧ frOk fr us.length ∧ AVr.AVrs (bCx w D w' b) cs us
theorem permC_mono {c c' : Cx} (hw : c'.w = c.w) (hD : ∀ b, c.Dp b → c'.Dp b) : ∀ {x : AV} {v : Value}, permC x = true → AVr c x v → AVr c' x v := by
  intro x v hp hx
  cases x <;> first | (simp [permC] at hp; done) | skip
  · exact Rd.mono hx (fun b _ => by rw [hw]) hD
  · exact hx
theorem permCs_mono {c c' : Cx} (hw : c'.w = c.w) (hD : ∀ b, c.Dp b → c'.Dp b) : ∀ {xs : List AV} {vs : List Value}, permCs xs = true → AVr.AVrs c xs vs → AVr.AVrs c' xs vs
  | [], [], _, _ => trivial
  | x :: xs, v :: vs, hp, h => by
    simp only [permCs, Bool.and_eq_true] at hp
    exact ⟨permC_mono hw hD hp.1 h.1, permCs_mono hw hD hp.2 h.2⟩
  | [], _ :: _, _, h => h.elim
  | _ :: _, [], _, h => h.elim
def shareC : AV → AV
  | .own x => .t (x.mk false)
  | x => x
def shareCs : List AV → List AV
  | [] => []
  | x :: l => shareC x :: shareCs l
def shareV : AV → AV
  | .agg cs => .agg (shareCs cs)
  | x => shareC x
def shareVs : List AV → List AV
  | [] => []
  | x :: l => shareV x :: shareVs l
def shareR : AV → AV
  | .tup l => .tup (shareVs l)
  | x => shareV x
inductive CallW0 (P : Program) (Γ : Env) (f : FuncId) (avs : List AV) (d : Option Tmp) (K : St → Prop) (s : St) : Prop
  | perm (args : List AV) (Q : AV → Prop) : argAVs s.hp avs = some args → permVs avs = true → Plain P f → Spec P f args Q → (∀ r, Q r → Sm (bindR s d r) K) → CallW0 P Γ f avs d K s
  | any (args : List AV) (Q : AV → Prop) : argAVs s.hp avs = some args → Plain P f → Spec P f args Q → (∀ r, Q r → DeepR r) → (∀ r, Q r → Sm (bindR s d r) K) → CallW0 P Γ f avs d K s
  | opn (σ : List (Nat × Nat)) (hc : Hp) (Q : AV → Hp → Prop) : Γ.opn f = true → okS σ = true → lendH s.hp σ σ = some hc → Plain P f → SpecO P f (AV.lend.lends σ avs) hc Q → (∀ r hc', Q r hc' → Sm (openS s σ r hc' d) K) → CallW0 P Γ f avs d K s
  | nest (σ : List (Nat × Nat)) (hc : Hp) (Q : AV → Hp → Prop) (pre post : List AV) (x : T) (m k i j : Nat) (s1 : St) : Γ.opn f = true → okS σ = true → avs = pre ++ .ls x (some (k, i, j)) :: post → focus s m k i j = some s1 → lkI σ k = none → lendH s1.hp σ σ = some hc → Plain P f →
      SpecO P f (AV.lend.lends σ (AV.lsk.lsks pre ++ .refw m :: AV.lsk.lsks post)) hc Q → (∀ r hc', Q r hc' → Sm (nestS s1 σ r hc' m k i j d) K) → CallW0 P Γ f avs d K s
  | anyS (args : List AV) (Q : AV → Prop) : argAVs s.hp avs = some args → Plain P f → Spec P f args Q → (∀ r, Q r → DeepR r) → (∀ r, Q r → Sm (bindR s d (shareR r)) K) → CallW0 P Γ f avs d K s
  | box (args : List AV) (cs : List AV) (i : Nat) : argAVs s.hp avs = some args → permVs avs = true → Plain P f → SpecB P f args cs → permCs cs = true → d = some i → hget s.hp (8 * i + 1) = none → 8 * i + 1 < pin →
      K ⟨pt s.tm i (.ptr (8 * i + 1) 0 0), hput s.hp (8 * i + 1) (.box cs)⟩ → CallW0 P Γ f avs d K s
def frzSt (s : St) (avs : List AV) : List Nat → Option (St × List AV)
  | [] => some (s, avs)
  | k :: ks => if k < 100000 then match hget s.hp k with
      | some (.rows sz rs) => (s.freeze k).bind fun s1 => frzSt s1 (AV.frz.frzs k sz rs avs) ks
      | _ => none
    else (s.rfz (k - 100000)).bind fun s1 => frzSt s1 avs ks
def CallW (P : Program) (Γ : Env) (f : FuncId) (avs : List AV) (d : Option Tmp) (K : St → Prop) (s : St) : Prop :=
  ∃ ks s1 avs1, frzSt s avs ks = some (s1, avs1) ∧ CallW0 P Γ f avs1 d K s1
theorem CallW0.w {P : Program} {Γ : Env} {f : FuncId} {avs : List AV} {d : Option Tmp} {K : St → Prop} {s : St} (h : CallW0 P Γ f avs d K s) : CallW P Γ f avs d K s := ⟨[], s, avs, rfl, h⟩
def opW (P : Program) (Γ : Env) (d : Option Tmp) (op : Op) (K : St → Prop) (s : St) : Prop :=
  match op with
  | .call ⟨.value f, args, _⟩ => match s.ev f with
    | .fn f cap => CallW P Γ f (s.evs args.toList ++ cap) d K s
    | _ => False
  | op => Sm (stepOp Γ s d op) K
def Wops (P : Program) (Γ : Env) (all : List Oper) : List Oper → (St → Prop) → St → Prop
  | [], K, s => K s
  | o :: os, K, s => match o.guard with
    | none => opW P Γ o.dst o.op (Wops P Γ all os K) s
    | some (j, want) => guardW (gt s.tm (dstAt all j)) s (dstAt all j) want (opW P Γ o.dst o.op (Wops P Γ all os K)) (Uk (Wops P Γ all os K) o.dst)
def RegD (P : Program) (id : Nat) (ops : Array Oper) (K : St → Prop) (s : St) : Prop :=
  ∀ (B : Base) (a : Act) (w : World) (Q : Exit → Act → World → Prop), Sim B s a w → (∀ c a w, ¬ Q (.panic c) a w) → (∀ s' a' w', K s' → Sim B s' a' w' → Q .normal a' w') → wpAny P .any ops Q ops.size (Array.replicate ops.size false) a { w with drawn := w.drawn + 1 }
def LeS (s s' : St) : Prop := ∀ B a w, Sim B s a w → Sim B s' a w
def Klp (I : St → Nat → Prop) (n : Nat) (K : Exit → St → Prop) : Exit → St → Prop
  | .normal, s => ∃ s' m, LeS s s' ∧ m < n ∧ I s' m
  | e, s => K e s
def LoopW (body : (Exit → St → Prop) → St → Prop) (K : Exit → St → Prop) (s : St) : Prop :=
  ∃ I : St → Nat → Prop, (∃ s' n, LeS s s' ∧ I s' n) ∧ ∀ s n, I s n → body (Klp I n K) s
def W (P : Program) (Γ : Env) : Code → (Exit → St → Prop) → St → Prop
  | .skip, K, s => K .normal s
  | .seq a b, K, s => W P Γ a (Ks (W P Γ b K) K) s
  | .cond c x y, K, s => condW (s.ev c) (W P Γ x K) (W P Γ y K) s
  | .block id c, K, s => W P Γ c (Kb id K) s
  | .loop c, K, s => LoopW (W P Γ c) K s
  | .exit id, K, s => K (.exit id) s
  | .ret, K, s => K .ret s
  | .region id ops false, K, s => Wops P Γ ops.toList ops.toList (K .normal) s
  | .region id ops true, K, s => RegD P id ops (K .normal) s
  | _, _, _ => False
section
variable {P : Program} {Γ : Env} {B : Base} {ρ ρ' : Nat → Option Nat} {col col' : Col} {s s' : St} {a : Act} {w w' : World}
theorem rows_rd (h : SimR B ρ col s a w) {k sz : Nat} {rs : List (List T)} (hk : hget s.hp k = some (.rows sz rs)) {b : Nat} (hb : ρ k = some b) (off len cap : Nat) (hl : off + len ≤ rs.length) (hc : len ≤ cap) :
    Rd w (fun b => b < w.heap.size) (.list false sz ((rs.drop off).take len)) (.slice (some ⟨b, off * sz, none⟩) len cap) := by
  obtain ⟨hrow, hrest⟩ := h.hp k _ hk
  rcases hrest with ⟨b', cells, e, fr, u, hb', hh, hf, hsz, hu, how⟩ | ⟨rfl, hn⟩
  · have hbb : b' = b := by
      have e1 : ρ k = some b' := hb'
      rw [hb] at e1; exact (Option.some.inj e1).symm
    subst hbb
    have hh' : w.heap[b']? = some (.cells cells e fr) := hh
    have hfull : Rd w (fun b => b < w.heap.size) (.list false sz rs) (.slice (some ⟨b', 0, none⟩) rs.length (rs.length + cap)) :=
      .list false sz rs b' 0 _ u (by omega) (heap_lt hh') hrow (fun i r j x hi hj => by simp [World.cell?, hh', hu i r j x hi hj])
        (fun i r j x hi hj => (how i r j x hi hj).rd' (fun b hb => hb.1) (fun b hb => (h.colb b _ hb).1))
    have := hfull.sub hl cap hc
    simpa using this
  · have : ρ k = none := hn
    rw [hb] at this; cases this
theorem toT_any (h : SimR B ρ col s a w) {x : AV} {t : T} {v : Value} (hx : AVr (cx B ρ col w s.hp) x v) (ht : toT s.hp x = some t) : Rd w (fun b => b < w.heap.size) t v := by
  unfold toT at ht
  split at ht
  · cases ht; exact Rd.mono hx (fun _ _ => rfl) (fun b hb => hb.1)
  · cases ht; exact Rd.mono hx.1 (fun _ _ => rfl) (fun b hb => hb.1)
  · cases ht; cases hx; exact .nil ..
  · rename_i k
    split at ht
    · rename_i sz rs hk
      cases ht
      obtain ⟨sz', rs', hk', hr⟩ := hx
      have hk'' : hget s.hp k = some (.rows sz' rs') := hk'
      rw [hk] at hk''; cases hk''
      rcases hr with ⟨b, cap, e, n, hb, rfl, hc, _⟩ | ⟨rfl, ad, rfl⟩
      · have := rows_rd h hk hb 0 rs.length cap (by omega) hc
        simpa using this
      · exact .nil ..
    · cases ht
  · rename_i k off len
    split at ht
    · rename_i sz rs hk
      cases ht
      obtain ⟨sz', rs', hk', ho, hr⟩ := hx
      have hk'' : hget s.hp k = some (.rows sz' rs') := hk'
      rw [hk] at hk''; cases hk''
      rcases hr with ⟨b, cap, hb, rfl, hc⟩ | ⟨rfl, ad, c, rfl⟩
      · exact rows_rd h hk hb off len cap ho hc
      · simp only [List.take_zero]; exact .nil ..
    · cases ht
  · cases ht
theorem rowT_get {h : Hp} : ∀ {cs : List AV} {r : List T} {q : Nat} {x : T}, rowT h cs = some r → r[q]? = some x → ∃ y, cs[q]? = some y ∧ toT h y = some x
  | [], r, q, x, e, hq => by simp [rowT] at e; subst e; simp at hq
  | y :: l, r, q, x, e, hq => by
    simp only [rowT, Option.bind_eq_some_iff, Option.map_eq_some_iff] at e
    obtain ⟨t, e1, r', e2, rfl⟩ := e
    cases q with
    | zero => simp at hq; subst hq; exact ⟨y, rfl, e1⟩
    | succ q => simpa using rowT_get e2 (by simpa using hq)
theorem AVrs_at {c : Cx} : ∀ {cs : List AV} {vs : List Value} {q : Nat} {y : AV}, AVr.AVrs c cs vs → cs[q]? = some y → ∃ u, vs[q]? = some u ∧ AVr c y u
  | [], vs, q, y, _, hq => by simp at hq
  | x :: xs, [], q, y, h, _ => h.elim
  | x :: xs, v :: vs, 0, y, h, hq => by simp at hq; subst hq; exact ⟨v, rfl, h.1⟩
  | x :: xs, v :: vs, q + 1, y, h, hq => by simpa using AVrs_at h.2 (by simpa using hq)
theorem toA_t {w : World} {D : Dm} {t : T} {v : Value} (h : Rd w D t v) : AVr (inCx w D) (.t t) v := h
theorem toA_any (h : SimR B ρ col s a w) {x y : AV} {v : Value} (hx : AVr (cx B ρ col w s.hp) x v) (ht : toA s.hp x = some y) : AVr (inCx w fun b => b < w.heap.size) y v := by
  cases x with
  | ptr k i j =>
    simp only [toA] at ht
    split at ht
    · rename_i cs hk
      split at ht
      · rename_i hi
        subst hi
        simp only [Option.map_eq_some_iff] at ht
        obtain ⟨r, hr, rfl⟩ := ht
        obtain ⟨b, hb, hm⟩ := hx
        have hm' : (match hget s.hp k with | some (.box _) => v = .pointer (some ⟨b, j, none⟩) ∧ 0 = 0 | some (.rows sz _) => v = .pointer (some ⟨b, 0 * sz + j, none⟩) | none => False) := hm
        rw [hk] at hm'
        obtain ⟨b', vs, e, fr, hb', hh, hf, hv⟩ := h.hp k _ hk
        have e1 : ρ k = some b := hb
        have e2 : ρ k = some b' := hb'
        rw [e1] at e2; cases e2
        have hh' : w.heap[b]? = some (.cells vs.toArray e fr) := hh
        refine ⟨b, 0, by rw [Nat.zero_add]; exact hm'.1, heap_lt hh', fun q x hq => ?_⟩
        obtain ⟨y, y1, y2⟩ := rowT_get hr hq
        obtain ⟨u, u1, u2⟩ := AVrs_at hv y1
        exact ⟨u, by simp [inCx, World.cell?, hh', u1], toT_any h u2 y2⟩
      · cases ht
    · cases ht
  | rop l r j =>
    cases ht
    obtain ⟨b, off, rfl, hd, hc⟩ := hx
    have hlt : b < w.heap.size := by
      cases l
      · exact hd.1
      · exact hd.1
    refine ⟨b, off, rfl, hlt, fun q x hq => ?_⟩
    obtain ⟨u, u1, u2⟩ := hc q x hq
    refine ⟨u, u1, ?_⟩
    cases l
    · exact Rd.mono u2 (fun _ _ => rfl) (fun b hb => hb.1)
    · exact Rd.mono u2 (fun _ _ => rfl) (fun b hb => hb.1)
  | t x => simp only [toA, Option.map_eq_some_iff] at ht; obtain ⟨t, e1, rfl⟩ := ht; exact toA_t (toT_any h hx e1)
  | ls x o => simp only [toA, Option.map_eq_some_iff] at ht; obtain ⟨t, e1, rfl⟩ := ht; exact toA_t (toT_any h hx e1)
  | nils sz => simp only [toA, Option.map_eq_some_iff] at ht; obtain ⟨t, e1, rfl⟩ := ht; exact toA_t (toT_any h hx e1)
  | refw k => simp only [toA, Option.map_eq_some_iff] at ht; obtain ⟨t, e1, rfl⟩ := ht; exact toA_t (toT_any h hx e1)
  | ref k o n => simp only [toA, Option.map_eq_some_iff] at ht; obtain ⟨t, e1, rfl⟩ := ht; exact toA_t (toT_any h hx e1)
  | _ => cases ht
theorem toA_perm {c : Cx} {h : Hp} {x y : AV} {v : Value} (hx : AVr c x v) (ht : toA h x = some y) (hp : permC x = true) : AVr (inCx c.w c.Dp) y v := by
  cases x <;> simp [permC] at hp
  · cases ht; exact hx
  · cases ht; cases hx; exact Rd.nil ..
theorem argCells_r {c : Cx} {h : Hp} {D : Dm} : ∀ {xs ys : List AV} {vs : List Value}, argCells h xs = some ys → AVr.AVrs c xs vs → (∀ x t v, x ∈ xs → AVr c x v → toA h x = some t → AVr (inCx c.w D) t v) → AVr.AVrs (inCx c.w D) ys vs := by
  intro xs
  induction xs with
  | nil => intro ys vs h1 h2 _; simp [argCells] at h1; subst h1; cases vs <;> first | trivial | exact h2.elim
  | cons x xs ih =>
    intro ys vs h1 h2 h3
    cases vs with
    | nil => exact h2.elim
    | cons v vs =>
      simp only [argCells, Option.bind_eq_some_iff, Option.map_eq_some_iff] at h1
      obtain ⟨t, e1, r, e2, rfl⟩ := h1
      exact ⟨h3 x t v (by simp) h2.1 e1, ih e2 h2.2 (fun y t v hy => h3 y t v (by simp [hy]))⟩
theorem permCs_mem : ∀ {l : List AV}, permCs l = true → ∀ x ∈ l, permC x = true
  | [], _, x, hx => by cases hx
  | y :: l, h, x, hx => by
    simp [permCs] at h
    rcases List.mem_cons.1 hx with rfl | hx
    · exact h.1
    · exact permCs_mem h.2 x hx
theorem argAV_r {c : Cx} {h : Hp} {D : Dm} {x y : AV} {v : Value} (h1 : argAV h x = some y) (h2 : AVr c x v) (hc : ∀ z t v, AVr c z v → toA h z = some t → (permV x = true → permC z = true) → AVr (inCx c.w D) t v) : AVr (inCx c.w D) y v := by
  cases x with
  | agg cs =>
    simp only [argAV, Option.map_eq_some_iff] at h1
    obtain ⟨r, e1, rfl⟩ := h1
    obtain ⟨vs, rfl, hv⟩ := h2
    exact ⟨vs, rfl, argCells_r e1 hv (fun z t v hz hr ht => hc z t v hr ht (fun hp => permCs_mem hp z hz))⟩
  | fn f cs =>
    simp only [argAV, Option.map_eq_some_iff] at h1
    obtain ⟨r, e1, rfl⟩ := h1
    obtain ⟨vs, rfl, hv⟩ := h2
    exact ⟨vs, rfl, argCells_r e1 hv (fun z t v hz hr ht => hc z t v hr ht (fun hp => permCs_mem hp z hz))⟩
  | _ =>
    all_goals
      simp only [argAV] at h1
      exact hc _ y v h2 h1 (fun hp => hp)
theorem argAVs_r {c : Cx} {h : Hp} {D : Dm} : ∀ {xs ys : List AV} {vs : List Value}, argAVs h xs = some ys → AVr.AVrs c xs vs → (∀ z t v, AVr c z v → toA h z = some t → (permVs xs = true → permC z = true) → AVr (inCx c.w D) t v) → AVr.AVrs (inCx c.w D) ys vs := by
  intro xs
  induction xs with
  | nil => intro ys vs h1 h2 _; simp [argAVs] at h1; subst h1; cases vs <;> first | trivial | exact h2.elim
  | cons x xs ih =>
    intro ys vs h1 h2 h3
    cases vs with
    | nil => exact h2.elim
    | cons v vs =>
      simp only [argAVs, Option.bind_eq_some_iff, Option.map_eq_some_iff] at h1
      obtain ⟨t, e1, r, e2, rfl⟩ := h1
      exact ⟨argAV_r e1 h2.1 (fun z t v hz ht hp => h3 z t v hz ht (fun hp' => by simp [permVs] at hp'; exact hp hp'.1)),
        ih e2 h2.2 (fun z t v hz ht hp => h3 z t v hz ht (fun hp' => by simp [permVs] at hp'; exact hp hp'.2))⟩
theorem Own.deep {w : World} {D D' S : Dm} {x : T} {v : Value} (h : Own w D S x v) : Deep x → Own w D' S x v := by
  induction h with
  | rd S x v hf h =>
    intro hd
    cases hd with
    | sc _ hs => exact .rd _ _ _ hf (rd_scal (fun o sz r e => by subst e; exact hs) (fun f c e => by subst e; exact hs) (fun k r e => by subst e; exact hs) (fun y e => by subst e; exact hs) h)
    | list => exact hf.elim
  | nil S sz a => intro _; exact .nil _ _ _
  | list S sz rows b cap cells e fr u c hb hh hf hc hcs hr hu _ ih =>
    intro hd
    cases hd with
    | sc _ hs => exact hs.elim
    | list _ _ hd =>
      exact .list S sz rows b cap cells e fr u c hb hh hf hc hcs hr hu (fun i r j x hi hj => ih i r j x hi hj (hd r (List.mem_of_getElem? hi) x (List.mem_of_getElem? hj)))
theorem ResR.share {c c' : Cx} {col col' : Col} (hw : c'.w = c.w) (hρ0 : ∀ k, c.ρ k = none) (hh0 : ∀ k, hget c.hp k = none) (hS : ∀ b p, col b = some p → c'.Dp b) {r : AV} {v : Value}
    (hD : (∀ b, c.Dp b → c'.Dp b) ∨ DeepR r) (h : ResR c col r v) : ResR c' col' (shareR r) v := by
  obtain ⟨ρ1, w1, Dp1, Dl1, hp1⟩ := c
  obtain ⟨ρ2, w2, Dp2, Dl2, hp2⟩ := c'
  simp only at hw hρ0 hh0 hS
  subst hw
  have hC : ∀ (i j : Nat) (x : AV) (v : Value), ((∀ b, Dp1 b → Dp2 b) ∨ DeepC x) → ResC ⟨ρ1, w2, Dp1, Dl1, hp1⟩ col i j x v → ResC ⟨ρ2, w2, Dp2, Dl2, hp2⟩ col' i j (shareC x) v := by
    intro i j x v hD h
    cases x <;> first | exact h.elim | skip
    · rcases hD with hD | hD
      · exact Rd.mono h (fun _ _ => rfl) hD
      · exact rd_scal (fun o sz r e => by subst e; exact hD) (fun f c e => by subst e; exact hD) (fun k r e => by subst e; exact hD) (fun y e => by subst e; exact hD) h
    · rcases hD with hD | hD
      · exact (Own.rd' h hD (fun b hb => hS b _ hb)).mk false
      · exact (Own.rd' (Own.deep (D' := fun _ => False) h hD) (fun b hb => hb.elim) (fun b hb => hS b _ hb)).mk false
    · trivial
  have hCs : ∀ (i : Nat) (xs : List AV) (vs : List Value) (j : Nat), ((∀ b, Dp1 b → Dp2 b) ∨ DeepCs xs) → ResCs ⟨ρ1, w2, Dp1, Dl1, hp1⟩ col i j xs vs → ResCs ⟨ρ2, w2, Dp2, Dl2, hp2⟩ col' i j (shareCs xs) vs := by
    intro i xs
    induction xs with
    | nil => intro vs j _ h; cases vs <;> first | trivial | exact h.elim
    | cons x xs ih =>
      intro vs j hD h
      cases vs with
      | nil => exact h.elim
      | cons v vs => exact ⟨hC i j x v (hD.imp id (·.1)) h.1, ih vs (j + 1) (hD.imp id (·.2)) h.2⟩
  have hV : ∀ (i : Nat) (x : AV) (v : Value), ((∀ b, Dp1 b → Dp2 b) ∨ DeepV x) → ResV ⟨ρ1, w2, Dp1, Dl1, hp1⟩ col i x v → ResV ⟨ρ2, w2, Dp2, Dl2, hp2⟩ col' i (shareV x) v := by
    intro i x v hD h
    cases x with
    | agg cs => obtain ⟨vs, e, h⟩ := h; exact ⟨vs, e, hCs i cs vs 0 hD h⟩
    | t y => exact hC i 0 (.t y) v hD h
    | own y => exact hC i 0 (.own y) v hD h
    | ptr k i' j =>
      by_cases hp : passO (.ptr k i' j) = true
      · simp only [ResV, hp, if_true] at h; obtain ⟨b, h1, _⟩ := h; exact absurd ((hρ0 k).symm.trans h1) (by simp)
      · simp only [ResV, hp] at h; exact h.elim
    | refw k =>
      by_cases hp : passO (.refw k) = true
      · simp only [ResV, hp, if_true] at h; obtain ⟨sz, rs, h1, _⟩ := h; exact absurd ((hh0 k).symm.trans h1) (by simp)
      · simp only [ResV, hp] at h; exact h.elim
    | ref k i' j =>
      by_cases hp : passO (.ref k i' j) = true
      · simp only [ResV, hp, if_true] at h; obtain ⟨sz, rs, h1, _⟩ := h; exact absurd ((hh0 k).symm.trans h1) (by simp)
      · simp only [ResV, hp] at h; exact h.elim
    | rop l row j =>
      cases l
      · rcases hD with hD | hD
        · simp only [ResV, passO, if_true] at h
          obtain ⟨b, off, h1, h2, h3⟩ := h
          simp only [Bool.false_eq_true, if_false] at h2 h3
          simp only [shareV, shareC, ResV, passO, if_true]
          refine ⟨b, off, h1, by simpa using hD b h2, fun q x hq => ?_⟩
          obtain ⟨u, h4, h5⟩ := h3 q x hq
          exact ⟨u, h4, by simp only [Bool.false_eq_true, if_false]; exact h5.mono (fun _ _ => rfl) hD⟩
        · exact hD.elim
      · exact h.elim
    | undef => trivial
    | _ => exact h.elim
  have hVs : ∀ (xs : List AV) (vs : List Value) (i : Nat), ((∀ b, Dp1 b → Dp2 b) ∨ DeepVs xs) → ResVs ⟨ρ1, w2, Dp1, Dl1, hp1⟩ col i xs vs → ResVs ⟨ρ2, w2, Dp2, Dl2, hp2⟩ col' i (shareVs xs) vs := by
    intro xs
    induction xs with
    | nil => intro vs i _ h; cases vs <;> first | trivial | exact h.elim
    | cons x xs ih =>
      intro vs i hD h
      cases vs with
      | nil => exact h.elim
      | cons v vs => exact ⟨hV i x v (hD.imp id (·.1)) h.1, ih vs (i + 1) (hD.imp id (·.2)) h.2⟩
  cases r with
  | tup xs => obtain ⟨vs, e, h⟩ := h; exact ⟨vs, e, hVs xs vs 0 hD h⟩
  | agg cs => exact hV 0 (.agg cs) v hD h
  | t y => exact hV 0 (.t y) v hD h
  | own y => exact hV 0 (.own y) v hD h
  | ptr k i' j => exact hV 0 (.ptr k i' j) v hD h
  | refw k => exact hV 0 (.refw k) v hD h
  | ref k i' j => exact hV 0 (.ref k i' j) v hD h
  | rop l row j => exact hV 0 (.rop l row j) v hD h
  | undef => exact hV 0 .undef v hD h
  | _ => exact h.elim
theorem Spec.share {P : Program} {f : FuncId} {args : List AV} {Q : AV → Prop} (h : Spec P f args Q) : Spec P f args (fun r => ∃ r0, Q r0 ∧ r = shareR r0) := fun w D vs hD hv => (h w D vs hD hv).mono fun e w' ⟨v, r, he, hq, hs, col, hc, hr⟩ =>
  ⟨v, shareR r, he, ⟨r, hq, rfl⟩, hs, fun _ => none, fun b p e => by simp at e, ResR.share (c := outCx w D w' col) (c' := outCx w D w' fun _ => none) rfl (fun _ => rfl) (fun _ => rfl) (fun b p e => ⟨(hc b p e).2, .inr (hc b p e).1, rfl⟩) (.inl fun b hb => ⟨hb.1, hb.2.1, rfl⟩) hr⟩
theorem SimR.after (h : SimR B ρ col s a w) (hs : WStep w w' none) {colr : Col} (hc : ∀ b p, colr b = some p → w.heap.size ≤ b ∧ b < w'.heap.size) :
    SimR B ρ (fun b => if b < w.heap.size then col b else match colr b with | some (k, i, j) => if k = resKey then some (limKey, i, j) else none | none => none) s a w' ∧
      (∀ b, (cx B ρ col w s.hp).Dp b → (cx B ρ (fun b => if b < w.heap.size then col b else match colr b with | some (k, i, j) => if k = resKey then some (limKey, i, j) else none | none => none) w' s.hp).Dp b) := by
  generalize hE : (fun b => if b < w.heap.size then col b else match colr b with | some (k, i, j) => if k = resKey then some (limKey, i, j) else none | none => none : Col) = colE
  have hE1 : ∀ b, b < w.heap.size → colE b = col b := fun b hb => by rw [← hE]; simp [hb]
  obtain ⟨o1, o2, o3⟩ := own_blocks h hs (fun b e => by cases e)
  have hDp : ∀ b, (cx B ρ col w s.hp).Dp b → (cx B ρ colE w' s.hp).Dp b := fun b hb => ⟨Nat.lt_of_lt_of_le hb.1 hs.size, hb.2.1, by rw [hE1 b hb.1]; exact hb.2.2.1, hb.2.2.2⟩
  have hle : (cx B ρ col w s.hp).le (cx B ρ colE w' s.hp) fun _ => True :=
    ⟨fun _ _ _ => rfl, fun m b _ hb => ⟨b, hb, blk_sim_refl b⟩, fun b hb => ⟨hDp b hb, o1 b hb⟩, fun b hb => ⟨⟨Nat.lt_of_lt_of_le hb.1 hs.size, hb.2.1, by rw [hE1 b hb.1]; exact hb.2.2⟩, o2 b hb⟩,
      fun m b _ hb => shape_same (hs.block b (h.lab m b hb).1 (by simp)), fun m b _ hb _ => hs.block b (h.lab m b hb).1 (by simp)⟩
  refine ⟨⟨h.defers, h.len, h.keep.step hs (fun b e => by cases e) (fun k b _ e => by cases e), fun i => AVr.mono hle _ _ (h.tm i), fun k b hb => ?_, h.dom, h.inj, fun k b hb => ?_, fun k b hb => ⟨Nat.lt_of_lt_of_le (h.lab k b hb).1 hs.size, (h.lab k b hb).2⟩, fun b p hb => ?_, h.pins, h.nolim⟩, hDp⟩
  · exact (h.hp k b hb).mono hle rfl (fun b hb => hs.block b (h.lab k b hb).1 (by simp)) (fun b i j hc => ⟨by rw [hE1 b (h.colb b _ hc).1]; exact hc, o3 b _ hc⟩)
  · rw [hE1 b (h.lab k b hb).1]; exact h.sep k b hb
  · by_cases hlt : b < w.heap.size
    · rw [hE1 b hlt] at hb
      exact ⟨Nat.lt_of_lt_of_le hlt hs.size, (h.colb b p hb).2⟩
    · rw [← hE] at hb
      simp only [hlt, if_false] at hb
      cases hr : colr b with
      | none => simp [hr] at hb
      | some q => exact ⟨(hc b q hr).2, .inr (Nat.le_trans h.keep.size (hc b q hr).1)⟩
theorem lim_of_res {c c' : Cx} {colr colE : Col} (hw : c'.w = c.w) (hρ0 : ∀ k, c.ρ k = none) (hh0 : ∀ k, hget c.hp k = none) (hcol : ∀ b i j, colr b = some (resKey, i, j) → colE b = some (limKey, i, j)) {r : AV} {v : Value}
    (hD : (∀ b, c.Dp b → c'.Dp b) ∨ DeepR r) (h : ResR c colr r v) : LimR c' colE r v := by
  obtain ⟨ρ1, w1, Dp1, Dl1, hp1⟩ := c
  obtain ⟨ρ2, w2, Dp2, Dl2, hp2⟩ := c'
  simp only at hw hρ0 hh0
  subst hw
  have hC : ∀ (i j : Nat) (x : AV) (v : Value), ((∀ b, Dp1 b → Dp2 b) ∨ DeepC x) → ResC ⟨ρ1, w2, Dp1, Dl1, hp1⟩ colr i j x v → LimC ⟨ρ2, w2, Dp2, Dl2, hp2⟩ colE i j x v := by
    intro i j x v hD h
    cases x <;> first | exact h.elim | skip
    · rcases hD with hD | hD
      · exact Rd.mono h (fun _ _ => rfl) hD
      · exact rd_scal (fun o sz r e => by subst e; exact hD) (fun f c e => by subst e; exact hD) (fun k r e => by subst e; exact hD) (fun y e => by subst e; exact hD) h
    · rcases hD with hD | hD
      · exact Own.mono h (fun _ _ => rfl) hD (fun _ _ => rfl) (fun b hb => hcol b i j hb)
      · exact (Own.mono h (fun _ _ => rfl) (fun _ h => h) (fun _ _ => rfl) (fun b hb => hcol b i j hb)).deep hD
    · trivial
  have hCs : ∀ (i : Nat) (xs : List AV) (vs : List Value) (j : Nat), ((∀ b, Dp1 b → Dp2 b) ∨ DeepCs xs) → ResCs ⟨ρ1, w2, Dp1, Dl1, hp1⟩ colr i j xs vs → LimCs ⟨ρ2, w2, Dp2, Dl2, hp2⟩ colE i j xs vs := by
    intro i xs
    induction xs with
    | nil => intro vs j _ h; cases vs <;> first | trivial | exact h.elim
    | cons x xs ih =>
      intro vs j hD h
      cases vs with
      | nil => exact h.elim
      | cons v vs => exact ⟨hC i j x v (hD.imp id (·.1)) h.1, ih vs (j + 1) (hD.imp id (·.2)) h.2⟩
  have hV : ∀ (i : Nat) (x : AV) (v : Value), ((∀ b, Dp1 b → Dp2 b) ∨ DeepV x) → ResV ⟨ρ1, w2, Dp1, Dl1, hp1⟩ colr i x v → LimV ⟨ρ2, w2, Dp2, Dl2, hp2⟩ colE i x v := by
    intro i x v hD h
    cases x with
    | agg cs => obtain ⟨vs, e, h⟩ := h; exact ⟨vs, e, hCs i cs vs 0 hD h⟩
    | t y => exact hC i 0 (.t y) v hD h
    | own y => exact hC i 0 (.own y) v hD h
    | ptr k i' j =>
      by_cases hp : passO (.ptr k i' j) = true
      · simp only [ResV, hp, if_true] at h; obtain ⟨b, h1, _⟩ := h; exact absurd ((hρ0 k).symm.trans h1) (by simp)
      · simp only [ResV, hp] at h; exact h.elim
    | refw k =>
      by_cases hp : passO (.refw k) = true
      · simp only [ResV, hp, if_true] at h; obtain ⟨sz, rs, h1, _⟩ := h; exact absurd ((hh0 k).symm.trans h1) (by simp)
      · simp only [ResV, hp] at h; exact h.elim
    | ref k i' j =>
      by_cases hp : passO (.ref k i' j) = true
      · simp only [ResV, hp, if_true] at h; obtain ⟨sz, rs, h1, _⟩ := h; exact absurd ((hh0 k).symm.trans h1) (by simp)
      · simp only [ResV, hp] at h; exact h.elim
    | rop l row j =>
      cases l
      · rcases hD with hD | hD
        · simp only [ResV, passO, if_true] at h
          obtain ⟨b, off, h1, h2, h3⟩ := h
          simp only [Bool.false_eq_true, if_false] at h2 h3
          simp only [LimV, passL, if_true]
          refine ⟨b, off, h1, by simpa using hD b h2, fun q x hq => ?_⟩
          obtain ⟨u, h4, h5⟩ := h3 q x hq
          exact ⟨u, h4, by simp only [Bool.false_eq_true, if_false]; exact h5.mono (fun _ _ => rfl) hD⟩
        · exact hD.elim
      · exact h.elim
    | undef => trivial
    | _ => exact h.elim
  have hVs : ∀ (xs : List AV) (vs : List Value) (i : Nat), ((∀ b, Dp1 b → Dp2 b) ∨ DeepVs xs) → ResVs ⟨ρ1, w2, Dp1, Dl1, hp1⟩ colr i xs vs → LimVs ⟨ρ2, w2, Dp2, Dl2, hp2⟩ colE i xs vs := by
    intro xs
    induction xs with
    | nil => intro vs i _ h; cases vs <;> first | trivial | exact h.elim
    | cons x xs ih =>
      intro vs i hD h
      cases vs with
      | nil => exact h.elim
      | cons v vs => exact ⟨hV i x v (hD.imp id (·.1)) h.1, ih vs (i + 1) (hD.imp id (·.2)) h.2⟩
  cases r with
  | tup xs => obtain ⟨vs, e, h⟩ := h; exact ⟨vs, e, hVs xs vs 0 hD h⟩
  | agg cs => exact hV 0 (.agg cs) v hD h
  | t y => exact hV 0 (.t y) v hD h
  | own y => exact hV 0 (.own y) v hD h
  | ptr k i' j => exact hV 0 (.ptr k i' j) v hD h
  | refw k => exact hV 0 (.refw k) v hD h
  | ref k i' j => exact hV 0 (.ref k i' j) v hD h
  | rop l row j => exact hV 0 (.rop l row j) v hD h
  | undef => exact hV 0 .undef v hD h
  | _ => exact h.elim
theorem AVrs_split {c : Cx} {x : AV} {post : List AV} : ∀ {pre : List AV} {vs : List Value}, AVr.AVrs c (pre ++ x :: post) vs → ∃ vs1 v0 vs2, vs = vs1 ++ v0 :: vs2 ∧ AVr.AVrs c pre vs1 ∧ AVr c x v0 ∧ AVr.AVrs c post vs2
  | [], v :: vs, h => ⟨[], v, vs, rfl, trivial, h.1, h.2⟩
  | y :: pre, v :: vs, h => by
    obtain ⟨vs1, v0, vs2, rfl, h1, h2, h3⟩ := AVrs_split h.2
    exact ⟨v :: vs1, v0, vs2, rfl, ⟨h.1, h1⟩, h2, h3⟩
  | [], [], h => h.elim
  | _ :: _, [], h => h.elim
theorem SimR.layAt (h : SimR B ρ col s a w) {k g : Nat} (hg1 : w.heap.size ≤ g) (hg2 : g < w'.heap.size) (hk : hget s.hp k = none) (hp : k < pin) (hs : WStep w w' none) {blk : Blk} {i : Nat} {v : AV} {u : Value}
    (hb : (cx B ρ col w s.hp).le (cx B (setlab ρ k g) col w' (hput s.hp k blk)) (fun _ => True) → BlkR (cx B (setlab ρ k g) col w' (hput s.hp k blk)) col k blk)
    (hv : AVr (cx B (setlab ρ k g) col w' (hput s.hp k blk)) v u) : SimR B (setlab ρ k g) col ⟨pt s.tm i v, hput s.hp k blk⟩ (a.put (some i) u) w' := by
  obtain ⟨o1, o2, o3⟩ := own_blocks h hs (fun b e => by cases e)
  have hnew : ∀ b, b < w.heap.size → ∀ m, ρ m ≠ some b → setlab ρ k g m ≠ some b := by
    intro b hb m hm
    unfold setlab
    split
    · intro e; cases e; omega
    · exact hm
  have hle : (cx B ρ col w s.hp).le (cx B (setlab ρ k g) col w' (hput s.hp k blk)) fun _ => True := by
    refine ⟨fun m _ hm => ?_, fun m b _ hb => ⟨b, ?_, blk_sim_refl b⟩, fun b hb => ⟨⟨Nat.lt_of_lt_of_le hb.1 hs.size, hb.2.1, hb.2.2.1, fun m => hnew b hb.1 m (hb.2.2.2 m)⟩, o1 b hb⟩,
      fun b hb => ⟨⟨Nat.lt_of_lt_of_le hb.1 hs.size, fun m => hnew b hb.1 m (hb.2.1 m), hb.2.2⟩, o2 b hb⟩, fun m b _ hb => shape_same (hs.block b (h.lab m b hb).1 (by simp)), fun m b _ hb _ => hs.block b (h.lab m b hb).1 (by simp)⟩
    · have : m ≠ k := fun e => hm (by rw [e]; exact hk)
      simp [cx, setlab, this]
    · have hb' : hget s.hp m = some b := hb
      have : k ≠ m := fun e => by rw [e, hb'] at hk; cases hk
      show hget (hput s.hp k blk) m = some b
      rw [hget_hput, if_neg this]; exact hb'
  have hbase : SimR B (setlab ρ k g) col ⟨s.tm, hput s.hp k blk⟩ a w' := by
    refine ⟨h.defers, h.len, h.keep.step hs (fun b e => by cases e) (fun k b _ e => by cases e), fun i => AVr.mono hle _ _ (h.tm i), fun m b hm => ?_, fun m hm => ?_, fun m m' b h1 h2 => ?_, fun m b h1 => ?_, fun m b h1 => ?_, fun b p hb => ⟨Nat.lt_of_lt_of_le (h.colb b p hb).1 hs.size, (h.colb b p hb).2⟩, fun m hm => by rw [← h.pins m hm]; simp only [setlab]; rw [if_neg (by omega)], by rw [hget_hput, h.nolim, if_neg (ne_lim hp)]⟩
    · have hm' : hget (hput s.hp k blk) m = some b := hm
      rw [hget_hput] at hm'
      split at hm'
      · rename_i e; subst e; cases hm'; exact hb hle
      · rename_i e
        refine (h.hp m b hm').mono hle ?_ (fun b hb => hs.block b (h.lab m b hb).1 (by simp)) (fun b i j hc => ⟨hc, o3 b _ hc⟩)
        simp [cx, setlab, Ne.symm e]
    · have hm' : hget (hput s.hp k blk) m = none := hm
      rw [hget_hput] at hm'
      split at hm'
      · cases hm'
      · rename_i e; simp only [setlab, if_neg (Ne.symm e)]; exact h.dom m hm'
    · unfold setlab at h1 h2
      split at h1
      · split at h2
        · rename_i e1 e2; exact e1.trans e2.symm
        · cases h1; have := (h.lab m' _ h2).1; omega
      · split at h2
        · cases h2; have := (h.lab m _ h1).1; omega
        · exact h.inj m m' b h1 h2
    · unfold setlab at h1
      split at h1
      · cases h1
        cases hc : col g with
        | none => rfl
        | some p => have := (h.colb _ p hc).1; omega
      · exact h.sep m b h1
    · unfold setlab at h1
      split at h1
      · cases h1; exact ⟨hg2, .inr (Nat.le_trans h.keep.size hg1)⟩
      · exact ⟨Nat.lt_of_lt_of_le (h.lab m b h1).1 hs.size, (h.lab m b h1).2⟩
  exact hbase.put (d := some i) hv
theorem call0_ok (h : SimR B ρ col s a w) {f : FuncId} {avs : List AV} {vs : List Value} {d : Option Tmp} {K : St → Prop} (hv : AVr.AVrs (cx B ρ col w s.hp) avs vs) (hc : CallW0 P Γ f avs d K s) :
    Plain P f ∧ Calls P f vs.toArray w fun e w' => ∃ v s', e = .returned v ∧ K s' ∧ Sim B s' (a.put d v) w' ∧ (Γ.opn f = false → WStep w w' none) := by
  have key : ∀ (args : List AV) (Q : AV → Prop) (D : Dm), DmOk w D → AVr.AVrs (inCx w D) args vs → Spec P f args Q → ((∀ b, D b → (cx B ρ col w s.hp).Dp b) ∨ ∀ r, Q r → DeepR r) → (∀ r, Q r → Sm (bindR s d r) K) →
      Calls P f vs.toArray w fun e w' => ∃ v s', e = .returned v ∧ K s' ∧ Sim B s' (a.put d v) w' ∧ (Γ.opn f = false → WStep w w' none) := by
    intro args Q D hD ha hs hmode hK
    refine (hs w D vs hD ha).mono fun e w' => ?_
    rintro ⟨v, r, rfl, hq, hws, colr, hcr, hres⟩
    obtain ⟨s', hb, hk⟩ := hK r hq
    obtain ⟨g1, g2⟩ := h.after hws hcr
    refine ⟨v, s', rfl, hk, g1.bindR ?_ hb, fun _ => hws⟩
    refine lim_of_res (c := outCx w D w' colr) (c' := cx B ρ _ w' s.hp) rfl (fun _ => rfl) (fun _ => rfl) (fun b i j hb => ?_) ?_ hres
    · have := (hcr b _ hb).1
      rw [if_neg (by omega), hb]
      simp
    · rcases hmode with hm | hm
      · refine .inl fun b hb => ?_
        obtain ⟨b1, b2, b3⟩ := hb
        rcases b2 with b2 | b2
        · exact g2 b (hm b b2)
        · refine ⟨b1, .inr (Nat.le_trans h.keep.size b2), ?_, fun k e => ?_⟩
          · show (if b < w.heap.size then col b else match colr b with | some (k, i, j) => if k = resKey then some (limKey, i, j) else none | none => none) = none
            rw [if_neg (by omega), b3]
          · have := (h.lab k b e).1; omega
      · exact .inr (hm r hq)
  cases hc with
  | perm args Q h1 h2 h3 h4 h5 =>
    exact ⟨h3, key args Q (cx B ρ col w s.hp).Dp ⟨fun b hb => hb.1, h.keep.glob⟩ (argAVs_r (c := cx B ρ col w s.hp) h1 hv (fun z t v hz ht hp => toA_perm hz ht (hp h2))) h4 (.inl fun _ h => h) h5⟩
  | any args Q h1 h3 h4 h5 h6 =>
    exact ⟨h3, key args Q (fun b => b < w.heap.size) ⟨fun _ h => h, h.keep.glob⟩ (argAVs_r (c := cx B ρ col w s.hp) h1 hv (fun z t v hz ht _ => toA_any h hz ht)) h4 (.inr h5) h6⟩
  | anyS args Q h1 h3 h4 h5 h6 =>
    refine ⟨h3, (h4 w (fun b => b < w.heap.size) vs ⟨fun _ h => h, h.keep.glob⟩ (argAVs_r (c := cx B ρ col w s.hp) h1 hv (fun z t v hz ht _ => toA_any h hz ht))).mono fun e w' => ?_⟩
    rintro ⟨v, r, rfl, hq, hws, colr, hcr, hres⟩
    obtain ⟨s', hb, hk⟩ := h6 r hq
    obtain ⟨g1, g2⟩ := h.after hws (colr := fun _ => none) (fun b p e => by cases e)
    have hres' : ResR (outCx w (fun _ => False) w' fun _ => none) (fun _ => none) (shareR r) v :=
      ResR.share (c := outCx w (fun b => b < w.heap.size) w' colr) (c' := outCx w (fun _ => False) w' fun _ => none) rfl (fun _ => rfl) (fun _ => rfl) (fun b p e => ⟨(hcr b p e).2, .inr (hcr b p e).1, rfl⟩) (.inr (h5 r hq)) hres
    refine ⟨v, s', rfl, hk, g1.bindR ?_ hb, fun _ => hws⟩
    refine lim_of_res (c := outCx w (fun _ => False) w' fun _ => none) (c' := cx B ρ _ w' s.hp) rfl (fun _ => rfl) (fun _ => rfl) (fun b i j hb => by cases hb) (.inl fun b hb => ?_) hres'
    obtain ⟨b1, b2, b3⟩ := hb
    rcases b2 with b2 | b2
    · exact b2.elim
    · refine ⟨b1, .inr (Nat.le_trans h.keep.size b2), ?_, fun k e => ?_⟩
      · show (if b < w.heap.size then col b else none) = none
        rw [if_neg (by omega)]
      · have := (h.lab k b e).1; omega
  | box args cs i h1 h2 h3 h4 hcs hd hk hp hK =>
    subst hd
    refine ⟨h3, (h4 w (cx B ρ col w s.hp).Dp vs ⟨fun b hb => hb.1, h.keep.glob⟩ (argAVs_r (c := cx B ρ col w s.hp) h1 hv (fun z t v hz ht hp => toA_perm hz ht (hp h2)))).mono fun e w' => ?_⟩
    rintro ⟨g, us, e', fr, rfl, hws, g1, g2, g3, g4, g5⟩
    refine ⟨_, _, rfl, hK, ⟨setlab ρ (8 * i + 1) g, col, h.layAt g1 g2 hk hp hws (u := .pointer (some ⟨g, 0, none⟩)) (fun hle => ?_) ?_⟩, fun _ => hws⟩
    · refine ⟨g, us, e', fr, by simp [cx, setlab], g3, g4, permCs_mono (c := bCx w (cx B ρ col w s.hp).Dp w' g) (c' := cx B (setlab ρ (8 * i + 1) g) col w' (hput s.hp (8 * i + 1) (.box cs))) rfl (fun b hb => ?_) hcs g5⟩
      obtain ⟨b1, b2, b3⟩ := hb
      rcases b2 with b2 | b2
      · refine ⟨b1, b2.2.1, b2.2.2.1, fun m => ?_⟩
        simp only [setlab]
        split
        · intro e; cases e; exact b3 rfl
        · exact b2.2.2.2 m
      · refine ⟨b1, .inr (Nat.le_trans h.keep.size b2), ?_, fun m => ?_⟩
        · cases hc : col b with
          | none => rfl
          | some p => have := (h.colb b p hc).1; omega
        · simp only [setlab]
          split
          · intro e; cases e; exact b3 rfl
          · intro e; have := (h.lab m b e).1; omega
    · refine ⟨g, by simp [cx, setlab], ?_⟩
      simp only [cx, hget_hput, if_true]
      exact ⟨trivial, trivial⟩
  | opn σ hc Q ho hσ hl hp hsp hK =>
    obtain ⟨g1, g2⟩ := h.lend hσ hl
    refine ⟨hp, (hsp w _ _ _ vs g1 (g2 _ _ hv)).mono fun e w' => ?_⟩
    rintro ⟨v, r, hc', colO, rfl, hq, hO⟩
    obtain ⟨s', hb, hk⟩ := hK r hc' hq
    obtain ⟨f1, f2, _⟩ := h.unlend hσ hl hO
    exact ⟨v, s', rfl, hk, f1.bindR f2 hb, fun e => by rw [ho] at e; cases e⟩
  | nest σ hc Q pre post x m k i j s1 ho hσ hav hf hkσ hl hp hsp hK =>
    subst hav
    obtain ⟨vs1, v0, vs2, rfl, hv1, hv0, hv2⟩ : ∃ vs1 v0 vs2, vs = vs1 ++ v0 :: vs2 ∧ AVr.AVrs (cx B ρ col w s.hp) pre vs1 ∧ AVr (cx B ρ col w s.hp) (.ls x (some (k, i, j))) v0 ∧ AVr.AVrs (cx B ρ col w s.hp) post vs2 := AVrs_split hv
    obtain ⟨ρ1, col1, g1, g2, g3, _, g5⟩ := h.focus hf hv0.2
    have hav1 : AVr.AVrs (cx B ρ1 col1 w s1.hp) (AV.lsk.lsks pre ++ .refw m :: AV.lsk.lsks post) (vs1 ++ v0 :: vs2) :=
      AVrs_append (AVrs.lsk g3 _ _ hv1) ⟨g2, AVrs.lsk g3 _ _ hv2⟩
    have htie : Tie (cx B ρ1 col1 w s1.hp) (some (k, i, j)) v0 := by
      obtain ⟨b, sz, rs, t1, t2, t3, t4, t5⟩ := hv0.2
      obtain ⟨b', e1, e2⟩ := g3.hp k _ t2
      cases b' with
      | box => exact e2.elim
      | rows sz' rs' =>
        obtain ⟨rfl, hl⟩ := e2
        exact ⟨b, sz, rs', by rw [g3.ρ k (by simp [t2])]; exact t1, e1, by omega, t4, t5⟩
    obtain ⟨q1, q2⟩ := g1.lend hσ hl
    refine ⟨hp, (hsp w _ _ _ _ q1 (q2 _ _ hav1)).mono fun e w' => ?_⟩
    rintro ⟨v, r, hc', colO, rfl, hq, hO⟩
    obtain ⟨s', hb, hk⟩ := hK r hc' hq
    obtain ⟨f1, f2, f3, f4, f5⟩ := g1.unlend hσ hl hO
    unfold nestS at hb
    split at hb
    · rename_i hnp
      simp only [Option.bind_eq_some_iff] at hb
      obtain ⟨s3, hu, hb⟩ := hb
      have hr3 : AVr (cx B ρ1 (col2 σ ρ1 col1 w.heap.size colO) w' (openS0 s1 σ hc').hp) (.refw m) v0 := AVr.lsk f3 (.refw m) v0 g2
      have htie3 : Tie (cx B ρ1 (col2 σ ρ1 col1 w.heap.size colO) w' (openS0 s1 σ hc').hp) (some (k, i, j)) v0 := by
        obtain ⟨b, sz, rs, t1, t2, t3, t4, t5⟩ := htie
        obtain ⟨b', e1, e2⟩ := f3.hp k _ t2
        cases b' with
        | box => exact e2.elim
        | rows sz' rs' =>
          obtain ⟨rfl, hl⟩ := e2
          exact ⟨b, sz, rs', t1, e1, by omega, t4, by
            show w'.cell? _ = _
            rw [cell_same (f4 k b hkσ t1)]; exact t5⟩
      obtain ⟨ρ4, col4, h1, h2, h3⟩ := f1.unfocus hu hr3 htie3
      have hml : limKey ≠ m := by
        obtain ⟨_, _, _, _, _, _, _, _, _, hmp, _⟩ := focus_some hf
        exact (ne_lim hmp).symm
      refine ⟨v, s', rfl, hk, h1.bindR (LimR.mono0 (fun b hb => ⟨h2 b hb, rfl⟩) (fun b i' j' hb => ⟨h3 b _ hml hb, rfl⟩) hnp f2) hb, fun e => by rw [ho] at e; cases e⟩
    · cases hb
theorem frzSt_ok {avs avs1 : List AV} {s1 : St} {vs : List Value} : ∀ {ks : List Nat} {s : St} {avs : List AV} {ρ : Nat → Option Nat} {col : Col}, SimR B ρ col s a w → AVr.AVrs (cx B ρ col w s.hp) avs vs → frzSt s avs ks = some (s1, avs1) → ∃ ρ1 col1, SimR B ρ1 col1 s1 a w ∧ AVr.AVrs (cx B ρ1 col1 w s1.hp) avs1 vs := by
  intro ks
  induction ks with
  | nil => intro s avs ρ col h hv hf; simp [frzSt] at hf; obtain ⟨rfl, rfl⟩ := hf; exact ⟨ρ, col, h, hv⟩
  | cons k ks ih =>
    intro s avs ρ col h hv hf
    unfold frzSt at hf
    split at hf
    · split at hf
      · rename_i sz rs hk
        simp only [Option.bind_eq_some_iff] at hf
        obtain ⟨s3, e1, e2⟩ := hf
        obtain ⟨sz', rs', hk', hn, hp, rfl⟩ := freeze_some e1
        rw [hk] at hk'; cases hk'
        obtain ⟨g1, g2, g3⟩ := h.freeze hk hn hp
        exact ih g1 (AVrs.frz (k := k) hk g2 g3 _ _ hv) e2
      · cases hf
    · simp only [Option.bind_eq_some_iff] at hf
      obtain ⟨s3, e1, e2⟩ := hf
      obtain ⟨sz', rs', hk', hn, hp, rfl⟩ := rfz_some e1
      obtain ⟨g1, g2⟩ := h.rfz hk' hn hp
      exact ih g1 (AVrs.mono g2 _ _ hv) e2
theorem call_ok (h : SimR B ρ col s a w) {f : FuncId} {avs : List AV} {vs : List Value} {d : Option Tmp} {K : St → Prop} (hv : AVr.AVrs (cx B ρ col w s.hp) avs vs) (hc : CallW P Γ f avs d K s) :
    Plain P f ∧ Calls P f vs.toArray w fun e w' => ∃ v s', e = .returned v ∧ K s' ∧ Sim B s' (a.put d v) w' ∧ (Γ.opn f = false → WStep w w' none) := by
  obtain ⟨ks, s1, avs1, e1, e2⟩ := hc
  obtain ⟨ρ1, col1, g1, g2⟩ := frzSt_ok (avs := avs) h hv e1
  exact call0_ok g1 g2 e2
end
end Go.Proofs.YtcpfhonmdbhdbaaGreatDoor.Am
namespace Go.Proofs.YtcpfhonmdbhdbaaGreatDoor.Am
open Go
set_option linter.unusedVariables false
section
variable {P : Program} {Γ : Env} {B : Base} {ρ ρ' : Nat → Option Nat} {col col' : Col} {s s' : St} {a : Act} {w w' : World}
theorem least {p : Nat → Prop} (h : ∃ n, p n) : ∃ n, p n ∧ ∀ m, p m → n ≤ m := by
  obtain ⟨n, hn⟩ := h
  induction n using Nat.strongRecOn with
  | _ n ih =>
    by_cases hc : ∃ m, m < n ∧ p m
    · obtain ⟨m, h1, h2⟩ := hc; exact ih m h1 h2
    · exact ⟨n, hn, fun m hm => Nat.le_of_not_lt fun hlt => hc ⟨m, hlt, hm⟩⟩
theorem upon_done {o : Oper} {next : Act → World → Prop} {Q : Exit → Act → World → Prop} (h : Done P Γ B s' a w o) (hn : ∀ a' w', Sim B s' a' w' → (soft Γ o.op = true → WStep w w' none) → next a' w') : o.wp P a w next Q := by
  obtain ⟨n, w', h1, hws, h2⟩ := h
  unfold Oper.wp
  rw [h1]
  rcases h2 with ⟨u, rfl, h2⟩ | ⟨rfl, h2⟩
  · exact hn _ _ h2 hws
  · exact hn _ _ h2 hws
theorem op_ok (hΓ : TysOk P Γ) (h : Sim B s a w) {o : Oper} {K : St → Prop} (ho : opW P Γ o.dst o.op K s) {next : Act → World → Prop} {Q : Exit → Act → World → Prop} (hn : ∀ s' a' w', K s' → Sim B s' a' w' → (soft Γ o.op = true → WStep w w' none) → next a' w') : o.wp P a w next Q := by
  have hstep : Sm (stepOp Γ s o.dst o.op) K → o.wp P a w next Q := by
    rintro ⟨s', h1, h2⟩
    exact upon_done (step_ok hΓ h h1) (fun a' w' h' hw => hn s' a' w' h2 h' hw)
  unfold opW at ho
  split at ho
  · rename_i f args tys hop
    split at ho
    · rename_i fid cap hf
      obtain ⟨ρ, col, h⟩ := h
      have hx := h.ev f
      rw [hf] at hx
      obtain ⟨cvs, he, hcap⟩ := hx
      have hv : AVr.AVrs (cx B ρ col w s.hp) (s.evs args.toList ++ cap) (args.toList.map a.eval ++ cvs) := AVrs_append (h.evs args.toList) hcap
      obtain ⟨⟨fn, hfn, hbody, hname⟩, hcalls⟩ := call_ok h (P := P) hv ho
      unfold Oper.wp
      have hrun : (execOp a.eval o).run P w = .ok (.enter fid (args.toList.map a.eval ++ cvs).toArray) w := by
        have harr : args.map a.eval ++ cvs.toArray = (args.toList.map a.eval ++ cvs).toArray := by
          apply Array.ext'; simp
        simp only [execOp, hop, resolve, he, Deferred.ofValue, Sem.run_bind, Sem.run_pure, Result.andThen_ok, invoke, callFunc, run_program, hfn, hname, hbody, Bool.false_eq_true, if_false, ← harr]
        simp
      rw [hrun]
      simp only [Oper.upon]
      refine hcalls.mono fun e w' => ?_
      rintro ⟨v, s', rfl, hk, hs, hws⟩
      refine hn s' _ _ hk hs (fun hsf => hws ?_)
      rw [hop] at hsf
      cases f with
      | func g =>
        have e1 : AV.fn g [] = AV.fn fid cap := hf
        cases e1
        simpa [soft] using hsf
      | _ => simp [soft] at hsf
    · exact ho.elim
  · exact hstep ho
theorem guard_ok (h : Sim B s a w) {ops : Array Oper} {j : Nat} {want : Bool} {X Y : St → Prop} (hg : guardW (gt s.tm (dstAt ops.toList j)) s (dstAt ops.toList j) want X Y) (hd : ((ops[j]?).bind (·.dst)).isSome) :
    ∃ s', Sim B s' a w ∧ ((yielded ops a.tmps j = some want ∧ X s') ∨ (yielded ops a.tmps j ≠ some want ∧ Y s')) := by
  obtain ⟨ρ, col, h⟩ := h
  obtain ⟨d, hdd⟩ := Option.isSome_iff_exists.1 hd
  have hdst : dstAt ops.toList j = d := by
    have : ∀ (l : List Oper) (j : Nat), (l[j]?).bind (·.dst) = some d → dstAt l j = d := by
      intro l
      induction l with
      | nil => intro j h; simp at h
      | cons o l ih => intro j h; cases j with
        | zero => simp at h; simp [dstAt, h]
        | succ j => exact ih j (by simpa using h)
    exact this ops.toList j (by simpa using hdd)
  rw [hdst] at hg
  have ht := h.tm d
  have hy : yielded ops a.tmps j = match a.tmps[d]? with | some (.bool b) => some b | _ => none := by
    simp [yielded, hdd]
    rfl
  unfold guardW at hg
  split at hg
  · rename_i b he
    rw [he] at ht
    generalize hu : a.tmps.getD d Go.undef = u at ht
    cases ht
    have hlt : d < a.tmps.size := by
      rcases Nat.lt_or_ge d a.tmps.size with hlt | hge
      · exact hlt
      · rw [Array.getD_eq_getD_getElem?, Array.getElem?_eq_none hge] at hu; cases hu
    have hu' : a.tmps[d]? = some (.bool b) := by
      rw [Array.getD_eq_getD_getElem?, Array.getElem?_eq_getElem hlt] at hu
      rw [Array.getElem?_eq_getElem hlt]; simpa using hu
    rw [hu'] at hy
    have hsim : ∀ b', b = b' → SimR B ρ col ⟨pt s.tm d (.t (.bool b')), s.hp⟩ a w := by
      intro b' e
      subst e
      have := h.put (d := some d) (x := .t (.bool b)) (v := .bool b) (.bool b)
      have hact : a.put (some d) (.bool b) = a := by
        cases a
        simp only [Act.put]
        congr 1
        apply Array.ext_getElem?
        intro i
        rw [Array.getElem?_setIfInBounds]
        split
        · rename_i e; subst e; exact hu'.symm
        · rfl
      rw [hact] at this
      exact this
    cases want
    · obtain ⟨g1, g2⟩ := hg
      cases b
      · exact ⟨_, ⟨ρ, col, hsim false rfl⟩, by rw [hy]; exact .inl ⟨rfl, g2 rfl⟩⟩
      · exact ⟨_, ⟨ρ, col, hsim true rfl⟩, by rw [hy]; exact .inr ⟨by simp, g1 rfl⟩⟩
    · obtain ⟨g1, g2⟩ := hg
      cases b
      · exact ⟨_, ⟨ρ, col, hsim false rfl⟩, by rw [hy]; exact .inr ⟨by simp, g2 rfl⟩⟩
      · exact ⟨_, ⟨ρ, col, hsim true rfl⟩, by rw [hy]; exact .inl ⟨rfl, g1 rfl⟩⟩
  · rename_i he
    rw [he] at ht
    have hu : a.tmps.getD d Go.undef = Go.undef := ht
    refine ⟨s, ⟨ρ, col, h⟩, .inr ⟨?_, hg⟩⟩
    rw [hy]
    have : ∀ b, a.tmps[d]? ≠ some (.bool b) := by
      intro b e
      rw [Array.getD_eq_getD_getElem?, e] at hu
      cases hu
    split
    · rename_i b e; exact absurd e (this b)
    · simp
  · exact hg.elim
def guardsB (ops : Array Oper) : Bool := ops.toList.all fun o => match o.guard with
  | none => true
  | some (j, _) => ((ops[j]?).bind (·.dst)).isSome
theorem wops_ok (hΓ : TysOk P Γ) {ops : Array Oper} (hg : guardsB ops = true) {K : St → Prop} {Q : Exit → Act → World → Prop} : ∀ (l : List Oper) (s : St) (a : Act) (w : World), (∀ o ∈ l, o ∈ ops.toList) → Sim B s a w → Wops P Γ ops.toList l K s → (∀ s' a' w', K s' → Sim B s' a' w' → Q .normal a' w') →
    wpList P ops Q l a w := by
  intro l
  induction l with
  | nil => intro s a w _ h hw hn; exact hn s a w hw h
  | cons o l ih =>
    intro s a w hm h hw hn
    have ihl := fun s a w (h : Sim B s a w) hw => ih s a w (fun o ho => hm o (by simp [ho])) h hw hn
    unfold wpList
    unfold Wops at hw
    split at hw
    · rename_i hgd
      have : Region.wanted o (yielded ops a.tmps) = true := by simp [Region.wanted, hgd]
      rw [if_pos this]
      exact .inl (op_ok hΓ h hw (fun s' a' w' hk hs _ => ihl s' a' w' hs hk))
    · rename_i j want hgd
      have hd : ((ops[j]?).bind (·.dst)).isSome := by
        have := List.all_eq_true.1 hg o (hm o (by simp))
        rw [hgd] at this
        exact this
      obtain ⟨s', hs', hx | hx⟩ := guard_ok h hw hd
      · have : Region.wanted o (yielded ops a.tmps) = true := by simp [Region.wanted, hgd, hx.1]
        rw [if_pos this]
        exact .inl (op_ok hΓ hs' hx.2 (fun s' a' w' hk hs _ => ihl s' a' w' hs hk))
      · have : ¬ Region.wanted o (yielded ops a.tmps) = true := by simp [Region.wanted, hgd, hx.1]
        rw [if_neg this]
        obtain ⟨ρ, col, hs'⟩ := hs'
        exact ihl _ _ _ ⟨ρ, col, hs'.put (x := .skip) (v := Go.undef) rfl o.dst⟩ hx.2
def codeB : Code → Bool
  | .region _ ops _ => guardsB ops
  | .seq a b => codeB a && codeB b
  | .cond _ x y => codeB x && codeB y
  | .block _ c => codeB c
  | .loop c => codeB c
  | _ => true
theorem W_sound (hΓ : TysOk P Γ) (hm : P.follows .mixedOrders = true) : ∀ (c : Code), codeB c = true → ∀ (K : Exit → St → Prop) (s : St) (a : Act) (w : World), W P Γ c K s → Sim B s a w → c.wp P (fun e a' w' => ∃ s', K e s' ∧ Sim B s' a' w') a w := by
  intro c
  induction c with
  | skip => intro _ K s a w h hs; exact wp_skip ⟨s, h, hs⟩
  | seq x y ihx ihy =>
    intro hb K s a w h hs
    simp only [codeB, Bool.and_eq_true] at hb
    refine wp_seq (wp_mono (ihx hb.1 _ s a w h hs) fun e a' w' => ?_)
    rintro ⟨s', hk, hs'⟩
    cases e with
    | normal => exact ihy hb.2 K s' a' w' hk hs'
    | _ => exact ⟨s', hk, hs'⟩
  | cond c x y ihx ihy =>
    intro hb K s a w h hs
    simp only [codeB, Bool.and_eq_true] at hb
    have h' : condW (s.ev c) (W P Γ x K) (W P Γ y K) s := h
    unfold condW at h'
    split at h'
    · rename_i b he
      obtain ⟨ρ, col, hsr⟩ := hs
      have ht := hsr.ev c
      rw [he] at ht
      generalize hu : a.eval c = u at ht
      cases ht
      refine wp_cond_split hu (fun hb' => ihx hb.1 K s a w (h'.1 hb') ⟨ρ, col, hsr⟩) (fun hb' => ihy hb.2 K s a w (h'.2 hb') ⟨ρ, col, hsr⟩)
    · exact h'.elim
  | block id c ih =>
    intro hb K s a w h hs
    refine wp_block (wp_mono (ih hb _ s a w h hs) fun e a' w' => ?_)
    rintro ⟨s', hk, hs'⟩
    cases e with
    | exit id' =>
      simp only [Kb] at hk
      simp only [Exit.inBlock]
      split at hk
      · rename_i e; rw [if_pos e]; exact ⟨s', hk, hs'⟩
      · rename_i e; rw [if_neg e]; exact ⟨s', hk, hs'⟩
    | _ => exact ⟨s', hk, hs'⟩
  | loop c ih =>
    intro hb K s a w h hs
    obtain ⟨I, ⟨s0, n0, hle, hI0⟩, hround⟩ := h
    have hex : ∀ (s : St) (n : Nat) (a : Act) (w : World), I s n → Sim B s a w → ∃ n, ∃ s, I s n ∧ Sim B s a w := fun s n a w h1 h2 => ⟨n, s, h1, h2⟩
    classical
    refine wp_loop (fun a w => ∃ n, ∃ s, I s n ∧ Sim B s a w) (fun a w => if h : ∃ n, ∃ s, I s n ∧ Sim B s a w then Classical.choose (least h) else 0) ⟨n0, s0, hI0, hle B a w hs⟩ ?_
    intro a1 w1 h1
    obtain ⟨s1, hI1, hs1⟩ := (Classical.choose_spec (least h1)).1
    refine wp_mono (ih hb _ s1 a1 w1 (hround s1 _ hI1) hs1) fun e a' w' => ?_
    rintro ⟨s', hk, hs'⟩
    cases e with
    | normal =>
      obtain ⟨s2, m, hle2, hm, hI2⟩ := hk
      have h2 : ∃ n, ∃ s, I s n ∧ Sim B s a' w' := ⟨m, s2, hI2, hle2 B a' w' hs'⟩
      refine ⟨h2, ?_⟩
      rw [dif_pos h2, dif_pos h1]
      exact Nat.lt_of_le_of_lt ((Classical.choose_spec (least h2)).2 m ⟨s2, hI2, hle2 B a' w' hs'⟩) hm
    | _ => exact ⟨s', hk, hs'⟩
  | exit id => intro _ K s a w h hs; exact wp_exit ⟨s, h, hs⟩
  | ret => intro _ K s a w h hs; exact wp_ret ⟨s, h, hs⟩
  | region id ops draw =>
    intro hb K s a w h hs
    cases draw with
    | false => exact wp_region_list (wops_ok hΓ hb ops.toList s a w (fun _ h => h) hs h (fun s' a' w' hk hs' => ⟨s', hk, hs'⟩))
    | true =>
      refine wp_mono (wp_region_any hm (h B a w (fun e a' w' => e = .normal ∧ ∃ s', K .normal s' ∧ Sim B s' a' w') hs (fun c a w h => by cases h.1) (fun s' a' w' hk hs' => ⟨rfl, s', hk, hs'⟩))) fun e a' w' => ?_
      rintro ⟨rfl, h⟩
      exact h
  | _ => intro _ K s a w h _; exact h.elim
theorem Spec.of (hΓ : TysOk P Γ) (hm : P.follows .mixedOrders = true) {f : FuncId} {fn : Func} {c : Code} (hf : P.funcs[f]? = some fn) (hb : fn.body = some c) (hB : codeB c = true) {args : List AV} {Q : AV → Prop}
    (h : W P Γ c (Kf Γ fn.results Q) ⟨args ++ undefs (fn.ntmps - args.length), []⟩) : Spec P f args Q := by
  intro w D vs hD hv
  have hs : Sim (entry w D) ⟨args ++ undefs (fn.ntmps - args.length), []⟩ { tmps := vs.toArray ++ Array.replicate (fn.ntmps - vs.toArray.size) Go.undef, defers := [] } w := ⟨_, _, SimR.enter hD hv fn.ntmps⟩
  refine calls_of_wp hf hb (wp_mono (W_sound hΓ hm c hB _ _ _ _ h hs) fun e a' w' => ?_)
  rintro ⟨s', hk, hs'⟩
  have hret : RetW Γ fn.results Q s' → a'.defers = [] ∧ ∃ v, (results fn a'.tmps).run P w' = .ok v w' ∧ ∃ v' r, Ending.returned v = .returned v' ∧ Q r ∧ Out w D w' r v' := by
    intro hr
    obtain ⟨h1, v, h2, r, h3, h4⟩ := ret_ok hΓ hs' hr
    exact ⟨h1, v, h2, v, r, rfl, h3, h4⟩
  cases e with
  | normal => exact hret hk
  | ret => exact hret hk
  | _ => exact hk.elim
theorem SpecO.of (hΓ : TysOk P Γ) (hm : P.follows .mixedOrders = true) {f : FuncId} {fn : Func} {c : Code} (hf : P.funcs[f]? = some fn) (hb : fn.body = some c) (hB : codeB c = true) {args : List AV} {hp : Hp} {Q : AV → Hp → Prop}
    (h : W P Γ c (KfO Γ fn.results hp Q) ⟨args ++ undefs (fn.ntmps - args.length), hp⟩) : SpecO P f args hp Q := by
  intro w D ρ col vs hh hv
  have hs : Sim (entryO w D ρ col) ⟨args ++ undefs (fn.ntmps - args.length), hp⟩ { tmps := vs.toArray ++ Array.replicate (fn.ntmps - vs.toArray.size) Go.undef, defers := [] } w := ⟨_, _, SimR.enterO hh hv fn.ntmps⟩
  refine calls_of_wp hf hb (wp_mono (W_sound hΓ hm c hB _ _ _ _ h hs) fun e a' w' => ?_)
  rintro ⟨s', hk, hs'⟩
  have hret : RetO Γ fn.results hp Q s' → a'.defers = [] ∧ ∃ v, (results fn a'.tmps).run P w' = .ok v w' ∧ ∃ v' r hp' col', Ending.returned v = .returned v' ∧ Q r hp' ∧ OutO w D ρ col hp w' r v' hp' col' := by
    intro hr
    obtain ⟨h1, v, h2, r, hp', col', h3, h4⟩ := retO_ok hΓ hh hs' hr
    exact ⟨h1, v, h2, v, r, hp', col', rfl, h3, h4⟩
  cases e with
  | normal => exact hret hk
  | ret => exact hret hk
  | _ => exact hk.elim
def RetB (rs : Array ResultVar) (cs : List AV) (s : St) : Prop := ∃ t k, rs = #[.tmp t] ∧ gt s.tm t = .ptr k 0 0 ∧ k < pin ∧ hget s.hp k = some (.box cs)
def KfB (rs : Array ResultVar) (cs : List AV) : Exit → St → Prop
  | .normal, s => RetB rs cs s
  | .ret, s => RetB rs cs s
  | _, _ => False
theorem SpecB.of (hΓ : TysOk P Γ) (hm : P.follows .mixedOrders = true) {f : FuncId} {fn : Func} {c : Code} (hf : P.funcs[f]? = some fn) (hb : fn.body = some c) (hB : codeB c = true) {args cs : List AV} (hcs : permCs cs = true)
    (h : W P Γ c (KfB fn.results cs) ⟨args ++ undefs (fn.ntmps - args.length), []⟩) : SpecB P f args cs := by
  intro w D vs hD hv
  have hs : Sim (entry w D) ⟨args ++ undefs (fn.ntmps - args.length), []⟩ { tmps := vs.toArray ++ Array.replicate (fn.ntmps - vs.toArray.size) Go.undef, defers := [] } w := ⟨_, _, SimR.enter hD hv fn.ntmps⟩
  refine calls_of_wp hf hb (wp_mono (W_sound hΓ hm c hB _ _ _ _ h hs) fun e a' w' => ?_)
  rintro ⟨s', hk, ρ, col, h⟩
  have hret : RetB fn.results cs s' → a'.defers = [] ∧ ∃ v, (results fn a'.tmps).run P w' = .ok v w' ∧ ∃ b, ∃ us : List Value, ∃ e' fr, Ending.returned v = .returned (.pointer (some ⟨b, 0, none⟩)) ∧ WStep w w' none ∧ w.heap.size ≤ b ∧ b < w'.heap.size ∧ w'.heap[b]? = some (.cells us.toArray e' fr) ∧ frOk fr us.length ∧ AVr.AVrs (bCx w D w' b) cs us := by
    rintro ⟨t, k, hrs, ht, hk, hbx⟩
    have h1 := h.tm t
    rw [ht] at h1
    obtain ⟨b, hb1, hb2⟩ := h1
    have hbx' : hget (cx (entry w D) ρ col w' s'.hp).hp k = some (.box cs) := hbx
    rw [hbx'] at hb2
    obtain ⟨b', us, e', fr, q1, q2, q3, q4⟩ := h.hp k _ hbx
    have : b' = b := by
      have q1' : ρ k = some b' := q1
      have hb1' : ρ k = some b := hb1
      rw [hb1'] at q1'; exact (Option.some.inj q1').symm
    subst this
    have hlab := h.lab k b' hb1
    refine ⟨h.defers, .pointer (some ⟨b', 0, none⟩), ?_, b', us, e', fr, rfl, ⟨h.keep.os, h.keep.tape, h.keep.output, h.keep.drawn, h.keep.size, fun b hb _ => h.keep.block b hb (fun hf => hf)⟩, hlab.2.resolve_left (fun hf => hf), hlab.1, q2, q3, ?_⟩
    · have hres : results fn a'.tmps = (do let vs ← fn.results.mapM (resSem a'); pure (if h : vs.size = 1 then vs[0] else .tuple vs)) := rfl
      rw [hres, hrs]
      simp only [List.mapM_toArray, List.mapM_cons, List.mapM_nil, Sem.run_bind, Sem.run_map, resSem, Sem.run_pure, Result.andThen_ok, hb2.1]
      rfl
    · refine permCs_mono (c := cx (entry w D) ρ col w' s'.hp) (c' := bCx w D w' b') rfl (fun b hb => ⟨hb.1, hb.2.1, fun e => ?_⟩) hcs q4
      subst e
      exact hb.2.2.2 k hb1
  cases e with
  | normal => exact hret hk
  | ret => exact hret hk
  | _ => exact hk.elim
end
end Go.Proofs.YtcpfhonmdbhdbaaGreatDoor.Am
namespace Go.Proofs.YtcpfhonmdbhdbaaGreatDoor.Am
open Go
set_option linter.unusedVariables false
section
variable (P : Program) (Γ : Env) (K : Exit → St → Prop) (s : St) (a b c : Code) (o : Oper) (os all : List Oper) (X : St → Prop) (id : Nat)
theorem W_skip : W P Γ .skip K s = K .normal s := rfl
theorem W_seq : W P Γ (.seq a b) K s = W P Γ a (Ks (W P Γ b K) K) s := rfl
theorem W_cond (c : Operand) : W P Γ (.cond c a b) K s = condW (s.ev c) (W P Γ a K) (W P Γ b K) s := rfl
theorem W_block : W P Γ (.block id c) K s = W P Γ c (Kb id K) s := rfl
theorem W_loop : W P Γ (.loop c) K s = LoopW (W P Γ c) K s := rfl
theorem W_exit : W P Γ (.exit id) K s = K (.exit id) s := rfl
theorem W_ret : W P Γ .ret K s = K .ret s := rfl
theorem W_reg (ops : Array Oper) : W P Γ (.region id ops false) K s = Wops P Γ ops.toList ops.toList (K .normal) s := rfl
theorem W_regD (ops : Array Oper) : W P Γ (.region id ops true) K s = RegD P id ops (K .normal) s := rfl
theorem Wops_nil : Wops P Γ all [] X s = X s := rfl
theorem Wops_none (op : Op) (d : Option Tmp) (ty : TypeId) (ps : String) (af : Array Edge) :
    Wops P Γ all (⟨d, op, ty, ps, af, none⟩ :: os) X s = opW P Γ d op (Wops P Γ all os X) s := rfl
theorem Wops_some (op : Op) (d : Option Tmp) (ty : TypeId) (ps : String) (af : Array Edge) (j : Nat) (want : Bool) :
    Wops P Γ all (⟨d, op, ty, ps, af, some (j, want)⟩ :: os) X s =
      guardW (gt s.tm (dstAt all j)) s (dstAt all j) want (opW P Γ d op (Wops P Γ all os X)) (Uk (Wops P Γ all os X) d) := rfl
theorem opW_call (d : Option Tmp) (f : Operand) (args : Array Operand) (tys : Array TypeId) :
    opW P Γ d (.call ⟨.value f, args, tys⟩) X s = (match s.ev f with | .fn f cap => CallW P Γ f (s.evs args.toList ++ cap) d X s | _ => False) := rfl
theorem opW_move (d : Option Tmp) (x : Operand) : opW P Γ d (.move x) X s = X (s.put d (s.ev x)) := by
  show Sm _ X = _
  simp [stepOp, valOf, Sm_some]
theorem opW_assign (d : Option Tmp) (x : Operand) : opW P Γ d (.assign x) X s = X (s.put d (s.ev x)) := by
  show Sm _ X = _
  simp [stepOp, valOf, Sm_some]
theorem opW_pick (d : Option Tmp) (c a b : Operand) : opW P Γ d (.pick c a b) X s = Sm (valOf Γ s (.pick c a b)) (Pk X s d) := Sm_map ..
theorem opW_load (d : Option Tmp) (t : TypeId) (a : Operand) : opW P Γ d (.load t a) X s = Sm (valOf Γ s (.load t a)) (Pk X s d) := Sm_map ..
theorem opW_nilCheck (d : Option Tmp) (x : Operand) : opW P Γ d (.nilCheck x) X s = Sm (valOf Γ s (.nilCheck x)) (Pk X s d) := Sm_map ..
theorem opW_binOp (d : Option Tmp) (o : BinOp) (t : TypeId) (x y : Operand) (u : TypeId) : opW P Γ d (.binOp o t x y u) X s = Sm (valOf Γ s (.binOp o t x y u)) (Pk X s d) := Sm_map ..
theorem opW_unOp (d : Option Tmp) (o : UnOp) (t : TypeId) (x : Operand) : opW P Γ d (.unOp o t x) X s = Sm (valOf Γ s (.unOp o t x)) (Pk X s d) := Sm_map ..
theorem opW_convert (d : Option Tmp) (t d2 : TypeId) (x : Operand) : opW P Γ d (.convert t d2 x) X s = Sm (valOf Γ s (.convert t d2 x)) (Pk X s d) := Sm_map ..
theorem opW_fieldAddr (d : Option Tmp) (t : TypeId) (x : Operand) (f : Nat) : opW P Γ d (.fieldAddr t x f) X s = Sm (valOf Γ s (.fieldAddr t x f)) (Pk X s d) := Sm_map ..
theorem opW_indexAddr (d : Option Tmp) (t : TypeId) (x i : Operand) : opW P Γ d (.indexAddr t x i) X s = Sm (valOf Γ s (.indexAddr t x i)) (Pk X s d) := Sm_map ..
theorem opW_index (d : Option Tmp) (t : TypeId) (x i : Operand) : opW P Γ d (.index t x i) X s = Sm (valOf Γ s (.index t x i)) (Pk X s d) := Sm_map ..
theorem opW_slice (d : Option Tmp) (t : TypeId) (x : Operand) (lo hi mx : Option Operand) : opW P Γ d (.slice t x lo hi mx) X s = Sm (valOf Γ s (.slice t x lo hi mx)) (Pk X s d) := Sm_map ..
theorem opW_extract (d : Option Tmp) (x : Operand) (i : Nat) : opW P Γ d (.extract x i) X s = Sm (valOf Γ s (.extract x i)) (Pk X s d) := Sm_map ..
theorem opW_field (d : Option Tmp) (t : TypeId) (x : Operand) (f : Nat) : opW P Γ d (.field t x f) X s = Sm (valOf Γ s (.field t x f)) (Pk X s d) := Sm_map ..
theorem opW_lookup (d : Option Tmp) (t : TypeId) (x i : Operand) (ok : Bool) : opW P Γ d (.lookup t x i ok) X s = Sm (valOf Γ s (.lookup t x i ok)) (Pk X s d) := Sm_map ..
theorem opW_makeFunc (d : Option Tmp) (f : Fn) (a b : Array Operand) : opW P Γ d (.makeFunc f a b) X s = Sm (valOf Γ s (.makeFunc f a b)) (Pk X s d) := Sm_map ..
theorem opW_build (d : Option Tmp) (t : TypeId) (ps : Array (Nat × Operand)) : opW P Γ d (.build t ps) X s = Sm (valOf Γ s (.build t ps)) (Pk X s d) := Sm_map ..
theorem opW_alloc (d : Option Tmp) (e : TypeId) : opW P Γ d (.alloc e) X s = Sm (stepOp Γ s d (.alloc e)) X := rfl
theorem opW_box (d : Option Tmp) (e : TypeId) (x : Operand) : opW P Γ d (.box e x) X s = Sm (stepOp Γ s d (.box e x)) X := rfl
theorem opW_buildSlice (d : Option Tmp) (t : TypeId) (n : Nat) (ps : Array (Nat × Operand)) : opW P Γ d (.buildSlice t n ps) X s = Sm (stepOp Γ s d (.buildSlice t n ps)) X := rfl
theorem opW_makeSlice (d : Option Tmp) (t : TypeId) (l c : Operand) : opW P Γ d (.makeSlice t l c) X s = Sm (stepOp Γ s d (.makeSlice t l c)) X := rfl
theorem opW_store (d : Option Tmp) (t : TypeId) (a x : Operand) : opW P Γ d (.store t a x) X s = Sm (stepOp Γ s d (.store t a x)) X := rfl
theorem opW_append (d : Option Tmp) (args : Array Operand) (tys : Array TypeId) : opW P Γ d (.call ⟨.builtin .append, args, tys⟩) X s = Sm (stepOp Γ s d (.call ⟨.builtin .append, args, tys⟩)) X := rfl
theorem opW_len (d : Option Tmp) (args : Array Operand) (tys : Array TypeId) : opW P Γ d (.call ⟨.builtin .len, args, tys⟩) X s = Sm (valOf Γ s (.call ⟨.builtin .len, args, tys⟩)) (Pk X s d) := Sm_map ..
theorem opW_min (d : Option Tmp) (args : Array Operand) (tys : Array TypeId) : opW P Γ d (.call ⟨.builtin .min, args, tys⟩) X s = Sm (valOf Γ s (.call ⟨.builtin .min, args, tys⟩)) (Pk X s d) := Sm_map ..
theorem opW_max (d : Option Tmp) (args : Array Operand) (tys : Array TypeId) : opW P Γ d (.call ⟨.builtin .max, args, tys⟩) X s = Sm (valOf Γ s (.call ⟨.builtin .max, args, tys⟩)) (Pk X s d) := Sm_map ..
end
theorem St_ev_tmp (s : St) (i : Nat) : s.ev (.tmp i) = gt s.tm i := rfl
theorem St_ev_const (s : St) (v : Value) : s.ev (.const v) = ofV v := rfl
theorem St_ev_func (s : St) (f : FuncId) : s.ev (.func f) = .fn f [] := rfl
theorem St_put_some (s : St) (i : Nat) (v : AV) : s.put (some i) v = ⟨pt s.tm i v, s.hp⟩ := rfl
theorem St_put_none (s : St) (v : AV) : s.put none v = s := rfl
section
variable (b : Bool) (s : St) (j : Nat) (X Y : St → Prop)
theorem condW_b : condW (.t (.bool b)) X Y s = BrA b X Y s s := rfl
theorem guardW_bt : guardW (.t (.bool b)) s j true X Y = BrA b X Y ⟨pt s.tm j (.t (.bool true)), s.hp⟩ ⟨pt s.tm j (.t (.bool false)), s.hp⟩ := rfl
theorem guardW_bf : guardW (.t (.bool b)) s j false X Y = BrA b Y X ⟨pt s.tm j (.t (.bool true)), s.hp⟩ ⟨pt s.tm j (.t (.bool false)), s.hp⟩ := rfl
theorem guardW_s (w : Bool) : guardW .skip s j w X Y = Y s := rfl
end
attribute [go_sem] AV.unorg AV.unorg.unorgs hunorg AV.lsk AV.lsk.lsks hlsk gtT ptT focus AV.frz AV.frz.frzs hfrz noPins St.freeze St.freezes refC refL appendTo appendC bytesR Ty.isBytes passO lkF lkI okS AV.lend AV.lend.lends Blk.lend lendH AV.back AV.back.backs Blk.back backH openS0 openS unfocus noPL passL nestS KfO RetO pinsOf plO plOs plH SimH Blk.sim decide_true decide_false Bool.not_false Bool.not_true List.all_cons List.all_nil Option.isNone_none Option.isNone_some
attribute [go_sem] resKey W_skip W_seq W_cond W_block W_loop W_exit W_ret W_reg W_regD Wops_nil Wops_none Wops_some opW_call opW_move opW_assign opW_pick opW_load opW_nilCheck opW_binOp opW_unOp opW_convert opW_fieldAddr opW_indexAddr opW_index opW_slice opW_extract opW_field fldV opW_lookup opW_makeFunc opW_build opW_alloc opW_box opW_buildSlice opW_makeSlice opW_store opW_append opW_len opW_min opW_max St_ev_tmp St_ev_const St_ev_func St_put_some St_put_none gt pt hget hput hdel ofV St.evs stepOp valOf Sm_some Sm_none Sm_map Sm_bind Sm_ite Sm_nite BrA_true BrA_false BrA_not Pk_eq Uk_eq Mk_eq Bk_eq guardW_bt guardW_bf guardW_s condW_b dstAt Ks_normal Ks_exit Ks_ret Kb_normal Kb_exit Kb_ret binAV binInt binStr eqAV unAV pickAV convAV asB asI one nth Kf RetW resAVs resAV resVals resVal resCells tupOf undefs loadAV mkAV cut rdT rdC rdRow rdRop St.rfz Ty.agg Ty.isMap lookAV fnAV ppAV Ty.isStr Ty.isSlice Ty.isBool Ty.isPtr fldAddr nilAV idxAV mnmx fillAV St.parts repl AV.cells AV.stb stbs St.len lenAV bnd sliceAV indexAV cellsEq scalEq closeCells closeRows inOrder lay storeOp retags retag retag1 makeOp appendOp addRows zeroT AV.kill AV.kill.kills hkill St.kill St.drop St.drops bindR bindVal bindVals bindCells T.shared rowT toA argCells argAV argAVs permC permCs permV permVs toT Option.getD_some Option.getD_none true_and and_true List.length_cons List.length_nil Nat.zero_add Nat.reduceAdd List.cons_append List.nil_append List.getElem?_cons_zero List.getElem?_cons_succ and_self cond_true cond_false List.any_nil List.any_cons List.contains_nil Bool.or_false Bool.false_or Bool.or_self Bool.false_eq_true not_false_eq_true List.getElem?_toArray ite_true ite_false pin Bool.and_self Bool.and_true Bool.true_and Nat.reduceMul Nat.reduceLT Nat.reduceLeDiff Nat.reduceEqDiff Nat.reduceSub List.not_mem_nil List.mem_cons or_false false_or or_self not_false_eq_true List.contains_cons Nat.reduceBEq List.mem_singleton not_or ne_eq
end Go.Proofs.YtcpfhonmdbhdbaaGreatDoor.Am
namespace Go.Proofs.YtcpfhonmdbhdbaaGreatDoor.Am
open Go
set_option linter.unusedVariables false
def kindB : AV → Value → Bool
  | .t (.int k n), .int k' m => k == k' && n == m
  | .t (.bool a), .bool b => a == b
  | .t (.str a), .string b => a.data == b.data
  | .t .nilp, .pointer none => true
  | .t .nilfn, .nilFunc => true
  | .nils _, .slice none 0 0 => true
  | .undef, .map none => true
  | _, _ => false
def kindsB : List AV → List Value → Bool
  | [], [] => true
  | x :: xs, v :: vs => kindB x v && kindsB xs vs
  | _, _ => false
theorem kindB_ok {c : Cx} {x : AV} {v : Value} (h : kindB x v = true) : AVr c x v := by
  unfold kindB at h
  split at h
  · simp at h; obtain ⟨rfl, rfl⟩ := h; exact Rd.int _ _
  · simp at h; subst h; exact Rd.bool _
  · rename_i a b
    simp at h
    have : a = b := by cases a; cases b; simp_all
    subst this; exact Rd.str _
  · exact Rd.nilp
  · exact Rd.nilfn
  · exact rfl
  · trivial
  · cases h
theorem kindsB_ok {c : Cx} : ∀ {xs : List AV} {vs : List Value}, kindsB xs vs = true → AVr.AVrs c xs vs
  | [], [], _ => trivial
  | x :: xs, v :: vs, h => by
    simp [kindsB] at h
    exact ⟨kindB_ok h.1, kindsB_ok h.2⟩
  | [], _ :: _, h => by cases h
  | _ :: _, [], h => by cases h
def eqFs (g : TypeId → Option (List AV)) (P : Program) : Nat → List Field → Option (List AV)
  | _, [] => some []
  | off, f :: l => if f.name = "_" ∨ f.offset ≠ off ∨ (P.info? f.type).isNone then none else (g f.type).bind fun z => if z.length = P.cellsOf f.type then (eqFs g P (off + z.length) l).map (z ++ ·) else none
def eqZ (P : Program) : Nat → TypeId → Option (List AV)
  | 0, _ => none
  | d + 1, t => match P.underlying t with
    | some .bool => some [.t (.bool false)]
    | some (.int k) => some [.t (.int k 0)]
    | some .string => some [.t (.str ⟨#[]⟩)]
    | some (.struct fs) => if P.stoodInHeld t then none else eqFs (eqZ P d) P 0 fs.toList
    | _ => none
theorem cellsEq_nil {a : List AV} {q : Bool} (h : cellsEq [] a = some q) : a = [] := by cases a <;> simp [cellsEq] at h ⊢
theorem cellsEq_cons {z a : List AV} {x : AV} {q : Bool} (h : cellsEq (x :: z) a = some q) : ∃ t u a' r p, x = .t t ∧ a = .t u :: a' ∧ scalEq t u = some r ∧ cellsEq z a' = some p ∧ q = (r && p) := by
  cases a with
  | nil => simp [cellsEq] at h
  | cons b a =>
    cases x with
    | t t => cases b with
      | t u =>
        simp only [cellsEq, Option.bind_eq_some_iff, Option.map_eq_some_iff] at h
        obtain ⟨r, h1, p, h2, rfl⟩ := h
        exact ⟨t, u, a, r, p, rfl, rfl, h1, h2, rfl⟩
      | _ => simp [cellsEq] at h
    | _ => simp [cellsEq] at h
theorem cellsEq_app : ∀ {z1 z2 a : List AV} {q : Bool}, cellsEq (z1 ++ z2) a = some q → ∃ a1 a2 q1 q2, a = a1 ++ a2 ∧ a1.length = z1.length ∧ cellsEq z1 a1 = some q1 ∧ cellsEq z2 a2 = some q2 ∧ q = (q1 && q2) := by
  intro z1
  induction z1 with
  | nil => intro z2 a q h; exact ⟨[], a, true, q, rfl, rfl, rfl, h, by simp⟩
  | cons x z1 ih =>
    intro z2 a q h
    obtain ⟨t, u, a', r, p, rfl, rfl, h1, h2, rfl⟩ := cellsEq_cons h
    obtain ⟨a1, a2, q1, q2, rfl, hl, g1, g2, rfl⟩ := ih h2
    exact ⟨.t u :: a1, a2, r && q1, q2, rfl, by simp [hl], by simp [cellsEq, h1, g1], g2, by simp [Bool.and_assoc]⟩
theorem scalEq_kind {x y z : T} {p q : Bool} (h1 : scalEq x y = some p) (h2 : scalEq y z = some q) : ∃ r, scalEq x z = some r := by
  cases x <;> cases y <;> simp [scalEq] at h1 <;> cases z <;> simp [scalEq] at h2 ⊢
  all_goals (obtain ⟨rfl, _⟩ := h1; exact h2.1)
theorem cellsEq_trans : ∀ {x y z : List AV} {p q : Bool}, cellsEq x y = some p → cellsEq y z = some q → ∃ r, cellsEq x z = some r := by
  intro x
  induction x with
  | nil => intro y z p q h1 h2; rw [cellsEq_nil h1] at h2; rw [cellsEq_nil h2]; exact ⟨_, rfl⟩
  | cons a x ih =>
    intro y z p q h1 h2
    obtain ⟨t, u, y', r, p', rfl, rfl, e1, e2, rfl⟩ := cellsEq_cons h1
    obtain ⟨t', u', z', r', q', e0, rfl, e3, e4, rfl⟩ := cellsEq_cons h2
    cases e0
    obtain ⟨r1, e5⟩ := scalEq_kind e1 e3
    obtain ⟨r2, e6⟩ := ih e2 e4
    exact ⟨r1 && r2, by simp [cellsEq, e5, e6]⟩
theorem AVrs_app {c : Cx} : ∀ {a b : List AV} {vs : List Value}, AVr.AVrs c (a ++ b) vs → ∃ v1 v2, vs = v1 ++ v2 ∧ v1.length = a.length ∧ AVr.AVrs c a v1 ∧ AVr.AVrs c b v2 := by
  intro a
  induction a with
  | nil => intro b vs h; exact ⟨[], vs, rfl, rfl, trivial, h⟩
  | cons x a ih =>
    intro b vs h
    cases vs with
    | nil => exact h.elim
    | cons v vs =>
      obtain ⟨v1, v2, rfl, hl, h1, h2⟩ := ih h.2
      exact ⟨v :: v1, v2, rfl, by simp [hl], ⟨h.1, h1⟩, h2⟩
def EqV (P : Program) (d : Nat) (t : TypeId) (z : List AV) : Prop :=
  ∀ (w : World) (c c' : Cx) (as_ bs : List AV) (xs ys : List Value) (p q : Bool) (k : Nat) (pre pre' post post' : List Value), cellsEq z as_ = some p → cellsEq as_ bs = some q → AVr.AVrs c as_ xs → AVr.AVrs c' bs ys → pre.length = k → pre'.length = k → z.length = P.cellsOf t →
    ∃ a b, (part t (pre ++ (xs ++ post)).toArray k).run P w = .ok a w ∧ (part t (pre' ++ (ys ++ post')).toArray k).run P w = .ok b w ∧ (Op.equalIn d t a b).run P w = .ok q w
def EqA (P : Program) (d : Nat) (t : TypeId) (z : List AV) : Prop :=
  ∀ (w : World) (c c' : Cx) (as_ bs : List AV) (xs ys : List Value) (p q : Bool), cellsEq z as_ = some p → cellsEq as_ bs = some q → AVr.AVrs c as_ xs → AVr.AVrs c' bs ys →
    (Op.equalIn d t (.agg xs.toArray) (.agg ys.toArray)).run P w = .ok q w
theorem rd_eq {w w' : World} {D D' : Dm} {x y : T} {v u : Value} {z : T} {p q : Bool} (h0 : scalEq z x = some p) (h : scalEq x y = some q) (hv : Rd w D x v) (hu : Rd w' D' y u) :
    (∃ k a, z = .int k a ∧ ∃ m n, v = .int k m ∧ u = .int k n ∧ q = (m == n)) ∨ (∃ a, z = .bool a ∧ ∃ m n, v = .bool m ∧ u = .bool n ∧ q = (m == n)) ∨ (∃ a, z = .str a ∧ ∃ m n, v = .string m ∧ u = .string n ∧ q = (m.toList == n.toList)) := by
  cases z <;> cases x <;> simp [scalEq] at h0 <;> cases y <;> simp [scalEq] at h
  · obtain ⟨rfl, _⟩ := h0; obtain ⟨rfl, rfl⟩ := h; cases hv; cases hu; exact .inl ⟨_, _, rfl, _, _, rfl, rfl, rfl⟩
  · subst h; cases hv; cases hu; exact .inr (.inl ⟨_, rfl, _, _, rfl, rfl, rfl⟩)
  · subst h; cases hv; cases hu; exact .inr (.inr ⟨_, rfl, _, _, rfl, rfl, rfl⟩)
theorem one_av {c : Cx} {z : T} {as_ : List AV} {xs : List Value} {p : Bool} (h : cellsEq [.t z] as_ = some p) (hx : AVr.AVrs c as_ xs) : ∃ x v, as_ = [.t x] ∧ xs = [v] ∧ scalEq z x = some p ∧ Rd c.w c.Dp x v := by
  obtain ⟨t, u, a', r, p', e0, rfl, e1, e2, rfl⟩ := cellsEq_cons h
  cases e0
  rw [cellsEq_nil e2] at hx ⊢
  cases xs with
  | nil => exact hx.elim
  | cons v xs => cases xs with
    | nil => exact ⟨u, v, rfl, rfl, by rw [cellsEq_nil e2] at e2; simp [cellsEq] at e2; subst e2; simpa using e1, hx.1⟩
    | cons => exact hx.2.elim
theorem EqFs_ok {P : Program} {g : TypeId → Option (List AV)} {d : Nat} (hg : ∀ t z, g t = some z → z.length = P.cellsOf t → (P.info? t).isNone = false → EqV P d t z) :
    ∀ (fs : List Field) (off : Nat) (z : List AV), eqFs g P off fs = some z → ∀ (w : World) (c c' : Cx) (as_ bs : List AV) (xs ys : List Value) (p q : Bool) (pre pre' : List Value), cellsEq z as_ = some p → cellsEq as_ bs = some q → AVr.AVrs c as_ xs → AVr.AVrs c' bs ys → pre.length = off → pre'.length = off →
      (Op.eqFields d (pre ++ xs).toArray (pre' ++ ys).toArray fs).run P w = .ok q w := by
  intro fs
  induction fs with
  | nil =>
    intro off z hz w c c' as_ bs xs ys p q pre pre' h0 h1 _ _ _ _
    simp [eqFs] at hz
    subst hz
    rw [cellsEq_nil h0] at h1
    cases bs with
    | nil => cases h1; simp [Op.eqFields]
    | cons => simp [cellsEq] at h1
  | cons f fs ih =>
    intro off z hz w c c' as_ bs xs ys p q pre pre' h0 h1 hx hy hl hl'
    unfold eqFs at hz
    split at hz
    · cases hz
    · rename_i hn
      have hn1 : f.name ≠ "_" := fun e => hn (.inl e)
      have hn2 : f.offset = off := Decidable.byContradiction fun e => hn (.inr (.inl e))
      have hn3 : (P.info? f.type).isNone = false := by
        cases he : (P.info? f.type).isNone
        · rfl
        · exact absurd (.inr (.inr he)) hn
      simp only [Option.bind_eq_some_iff] at hz
      obtain ⟨z1, hz1, hz⟩ := hz
      split at hz
      · rename_i hlen
        simp only [Option.map_eq_some_iff] at hz
        obtain ⟨z2, hz2, rfl⟩ := hz
        obtain ⟨a1, a2, p1, p2, rfl, la, g1, g2, _⟩ := cellsEq_app h0
        obtain ⟨b1, b2, q1, q2, rfl, lb, g3, g4, rfl⟩ := cellsEq_app h1
        obtain ⟨x1, x2, rfl, lx, hx1, hx2⟩ := AVrs_app hx
        obtain ⟨y1, y2, rfl, ly, hy1, hy2⟩ := AVrs_app hy
        obtain ⟨va, vb, e1, e2, e3⟩ := hg _ _ hz1 hlen hn3 w c c' a1 b1 x1 y1 p1 q1 off pre pre' x2 y2 g1 g3 hx1 hy1 hl hl' hlen
        have hrest := ih (off + z1.length) z2 hz2 w c c' a2 b2 x2 y2 p2 q2 (pre ++ x1) (pre' ++ y1) g2 g4 hx2 hy2 (by simp [hl, lx, la]) (by simp [hl', ly, lb, la])
        simp only [List.append_assoc] at hrest
        unfold Op.eqFields
        rw [if_pos hn1, hn2]
        simp only [Sem.run_bind, e1, e2, e3, Result.andThen_ok]
        cases q1
        · simp
        · simpa using hrest
      · cases hz
theorem run_part_one {P : Program} {t : TypeId} {d : TypeDesc} (hu : P.underlying t = some d) (hd : (match d with | .struct _ | .array _ _ => true | _ => false) = false) (pre post : List Value) (v : Value) (w : World) :
    (part t (pre ++ ([v] ++ post)).toArray pre.length).run P w = .ok v w := by
  cases d <;> simp at hd <;> simp [part, isAgg, run_underlying hu]
theorem run_part_agg {P : Program} {t : TypeId} {fs : Array Field} (hu : P.underlying t = some (.struct fs)) (pre xs post : List Value) (hl : xs.length = P.cellsOf t) (w : World) :
    (part t (pre ++ (xs ++ post)).toArray pre.length).run P w = .ok (.agg xs.toArray) w := by
  obtain ⟨i, hi⟩ := info_of_underlying hu
  simp only [part, isAgg, Sem.run_bind, run_underlying hu, Result.andThen_ok, Sem.run_pure, if_true, run_sizeOf w hi]
  congr 2
  apply Array.ext'
  simp [← hl]
theorem cellsEq_length : ∀ {a b : List AV} {q : Bool}, cellsEq a b = some q → b.length = a.length := by
  intro a
  induction a with
  | nil => intro b q h; rw [cellsEq_nil h]
  | cons x a ih =>
    intro b q h
    obtain ⟨t, u, a', r, p, rfl, rfl, h1, h2, rfl⟩ := cellsEq_cons h
    simp [ih h2]
theorem eqZ_ok {P : Program} : ∀ (m d : Nat) (t : TypeId) (z : List AV), eqZ P m t = some z → EqV P (d + m) t z ∧ ((∃ fs, P.underlying t = some (.struct fs)) → EqA P (d + m) t z) := by
  intro m
  induction m with
  | zero => intro d t z h; simp [eqZ] at h
  | succ m ih =>
    intro d t z h
    unfold eqZ at h
    split at h
    · rename_i hu
      cases h
      refine ⟨fun w c c' as_ bs xs ys p q k pre pre' post post' h0 h1 hx hy hl hl' _ => ?_, fun ⟨fs, e⟩ => by rw [hu] at e; cases e⟩
      obtain ⟨x, v, rfl, rfl, s0, r0⟩ := one_av h0 hx
      obtain ⟨y, u, rfl, rfl, s1, r1⟩ := one_av h1 hy
      rcases rd_eq s0 s1 r0 r1 with ⟨_, _, e, _⟩ | ⟨_, e, a, b, rfl, rfl, rfl⟩ | ⟨_, e, _⟩ <;> cases e
      refine ⟨.bool a, .bool b, by rw [← hl]; exact run_part_one hu rfl _ _ _ w, by rw [← hl']; exact run_part_one hu rfl _ _ _ w, run_equalIn_bool' w (d + m) t a b hu⟩
    · rename_i kk hu
      cases h
      refine ⟨fun w c c' as_ bs xs ys p q k pre pre' post post' h0 h1 hx hy hl hl' _ => ?_, fun ⟨fs, e⟩ => by rw [hu] at e; cases e⟩
      obtain ⟨x, v, rfl, rfl, s0, r0⟩ := one_av h0 hx
      obtain ⟨y, u, rfl, rfl, s1, r1⟩ := one_av h1 hy
      rcases rd_eq s0 s1 r0 r1 with ⟨_, _, e, a, b, rfl, rfl, rfl⟩ | ⟨_, e, _⟩ | ⟨_, e, _⟩ <;> cases e
      refine ⟨.int kk a, .int kk b, by rw [← hl]; exact run_part_one hu rfl _ _ _ w, by rw [← hl']; exact run_part_one hu rfl _ _ _ w, run_equalIn_int w (d + m) t kk kk a b hu⟩
    · rename_i hu
      cases h
      refine ⟨fun w c c' as_ bs xs ys p q k pre pre' post post' h0 h1 hx hy hl hl' _ => ?_, fun ⟨fs, e⟩ => by rw [hu] at e; cases e⟩
      obtain ⟨x, v, rfl, rfl, s0, r0⟩ := one_av h0 hx
      obtain ⟨y, u, rfl, rfl, s1, r1⟩ := one_av h1 hy
      rcases rd_eq s0 s1 r0 r1 with ⟨_, _, e, _⟩ | ⟨_, e, _⟩ | ⟨_, e, a, b, rfl, rfl, rfl⟩ <;> cases e
      refine ⟨.string a, .string b, by rw [← hl]; exact run_part_one hu rfl _ _ _ w, by rw [← hl']; exact run_part_one hu rfl _ _ _ w, run_equalIn_string w (d + m) t a b hu⟩
    · rename_i fs hu
      split at h
      · cases h
      · rename_i hst
        have hst : P.stoodInHeld t = false := by simpa using hst
        have hfo : P.fieldsOf t = fs := by simp [Program.fieldsOf, hu]
        have hA : EqA P (d + (m + 1)) t z := by
          intro w c c' as_ bs xs ys p q h0 h1 hx hy
          have := EqFs_ok (fun t z hz _ _ => (ih d t z hz).1) fs.toList 0 z h w c c' as_ bs xs ys p q [] [] h0 h1 hx hy rfl rfl
          rw [show d + (m + 1) = (d + m) + 1 by omega, run_equalIn_struct w (d + m) t _ _ (by rw [hfo]; exact hu) hst, hfo]
          simpa using this
        refine ⟨fun w c c' as_ bs xs ys p q k pre pre' post post' h0 h1 hx hy hl hl' hlen => ?_, fun _ => hA⟩
        have lx : xs.length = P.cellsOf t := by rw [← hlen, ← AVrs_length hx]; exact cellsEq_length h0
        have ly : ys.length = P.cellsOf t := by rw [← hlen, ← AVrs_length hy, cellsEq_length h1]; exact cellsEq_length h0
        exact ⟨.agg xs.toArray, .agg ys.toArray, by rw [← hl]; exact run_part_agg hu _ _ _ lx w, by rw [← hl']; exact run_part_agg hu _ _ _ ly w, hA w c c' as_ bs xs ys p q h0 h1 hx hy⟩
    · cases h
def fsB (P : Program) : List (Nat × Nat) → List Field → Bool
  | [], [] => true
  | p :: l, f :: m => p.1 == f.offset && p.2 == f.type && (P.info? f.type).isSome && fsB P l m
  | _, _ => false
def tkB (P : Program) (t : Nat) (y : Ty) : Bool :=
  match y.k, P.underlying t with
  | .struct, some (.struct fs) => fsB P y.fs fs.toList && y.esz == 0
  | .slice, some (.slice e) => e == y.elem && (match P.info? e with | some i => i.size == y.esz && i.bytes == y.ebytes && (match i.zero with | some z => z.cells.size == y.esz | none => false) | none => false) && y.fs.isEmpty && (decide (0 < y.esz))
  | .int k, some (.int k') => k == k' && y.fs.isEmpty && y.esz == 0
  | .bool, some .bool => y.fs.isEmpty && y.esz == 0
  | .str, some .string => y.fs.isEmpty && y.esz == 0
  | .ptr, some (.pointer _) => y.fs.isEmpty && y.esz == 0
  | .map, some (.map k e) => e == y.elem && (match P.underlying k with | some .string => true | _ => false) && y.fs.isEmpty && y.esz == 0
  | .other, some (.struct _) => false
  | .other, some (.array _ _) => false
  | .other, some _ => y.fs.isEmpty && y.esz == 0
  | _, _ => false
def someB {α : Type} : Option α → Bool
  | some _ => true
  | none => false
def eqTB (P : Program) (t : Nat) (y : Ty) : Bool :=
  !y.eq || ((match P.underlying t with | some (.struct _) => true | _ => false) && !P.eqGuardType P.depth t && (match eqZ P 8 t with | some z => someB (cellsEq z y.zero) | none => false))
def tyB (P : Program) (p : Nat × Ty) : Bool :=
  (match P.info? p.1 with | some i => i.size == p.2.size && (match i.zero with | some z => kindsB p.2.zero z.cells.toList | none => false) | none => false) && tkB P p.1 p.2 && eqTB P p.1 p.2
theorem fsB_ok {P : Program} : ∀ {l : List (Nat × Nat)} {fs : List Field}, fsB P l fs = true → (l = fs.map fun f => (f.offset, f.type)) ∧ ∀ f ∈ fs, ∃ i, P.info? f.type = some i
  | [], [], _ => ⟨rfl, fun f hf => by cases hf⟩
  | p :: l, f :: m, h => by
    simp [fsB] at h
    obtain ⟨⟨⟨h1, h2⟩, h3⟩, h4⟩ := h
    obtain ⟨g1, g2⟩ := fsB_ok h4
    refine ⟨by rw [g1]; simp [← h1, ← h2], fun f' hf => ?_⟩
    rcases List.mem_cons.1 hf with rfl | hf
    · exact Option.isSome_iff_exists.1 h3
    · exact g2 f' hf
  | [], _ :: _, h => by cases h
  | _ :: _, [], h => by cases h
theorem tyB_ok {P : Program} {t : Nat} {y : Ty} (h : tyB P (t, y) = true) : TyOk P t y := by
  simp only [tyB, Bool.and_eq_true] at h
  obtain ⟨⟨h1, h2⟩, h3⟩ := h
  have hinfo : ∃ i, P.info? t = some i ∧ i.size = y.size ∧ ∃ z, i.zero = some z ∧ ∀ c : Cx, AVr.AVrs c y.zero z.cells.toList := by
    split at h1
    · rename_i i hi
      simp only [Bool.and_eq_true, beq_iff_eq] at h1
      obtain ⟨e1, e2⟩ := h1
      split at e2
      · rename_i z hz
        exact ⟨i, hi, e1, z, hz, fun c => kindsB_ok e2⟩
      · cases e2
    · cases h1
  have heq : y.eq = true → ∀ (xs ys : List Value) (c : Cx) (as_ bs : List AV) (q r : Bool) (op : BinOp) (v : AV) (o1 o2 : Operand), AVr.AVrs c as_ xs → AVr.AVrs c bs ys → as_.length = y.size → cellsEq y.zero as_ = some q → cellsEq as_ bs = some r → eqAV op r = some v →
      ∃ u, (∀ w : World, (do eqGuard op t o1 o2 (.agg xs.toArray) (.agg ys.toArray); binOp op t (.agg xs.toArray) (.agg ys.toArray)).run P w = .ok u w) ∧ AVr c v u := by
    intro he xs ys c as_ bs q r op v o1 o2 hx hy hl hq hr hv
    simp only [eqTB, he, Bool.not_true, Bool.false_or, Bool.and_eq_true, Bool.not_eq_true'] at h3
    obtain ⟨⟨hs, hg⟩, hz⟩ := h3
    split at hz
    · rename_i z hz'
      cases hzz : cellsEq z y.zero with
      | none => simp [hzz, someB] at hz
      | some b =>
        obtain ⟨p, hp⟩ := cellsEq_trans hzz hq
        have hst : ∃ fs, P.underlying t = some (.struct fs) := by
          split at hs
          · rename_i fs e; exact ⟨fs, e⟩
          · cases hs
        have this := fun w => (eqZ_ok 8 9992 t z hz').2 hst w c c as_ bs xs ys p r hp hr hx hy
        cases op <;> simp [eqAV] at hv
        · subst hv
          exact ⟨.bool r, fun w => by simp only [Sem.run_bind, run_eqGuard_agg w _ t o1 o2 _ _ hg, Result.andThen_ok, run_eql_struct, this], Rd.bool _⟩
        · subst hv
          exact ⟨.bool (!r), fun w => by simp only [Sem.run_bind, run_eqGuard_agg w _ t o1 o2 _ _ hg, Result.andThen_ok, run_neq_struct, this], Rd.bool _⟩
    · cases hz
  unfold tkB at h2
  split at h2
  · rename_i fs hk hu
    simp only [Bool.and_eq_true, beq_iff_eq] at h2
    exact ⟨hinfo, by rw [hk]; exact ⟨fs, hu, (fsB_ok h2.1).1, (fsB_ok h2.1).2⟩, ⟨fun _ => trivial, fun h => absurd hk h⟩, fun _ => h2.2, fun e => (by rw [hk] at e; cases e), heq⟩
  · rename_i e hk hu
    simp only [Bool.and_eq_true, beq_iff_eq] at h2
    obtain ⟨⟨⟨rfl, h3⟩, h4⟩, h5⟩ := h2
    refine ⟨hinfo, ?_, ⟨fun h => (by rw [hk] at h; cases h), fun _ => by simpa using h4⟩, fun h => absurd hk h, fun _ => by simpa using h5, heq⟩
    rw [hk]
    refine ⟨hu, ?_⟩
    split at h3
    · rename_i i hi
      simp only [Bool.and_eq_true, beq_iff_eq] at h3
      obtain ⟨⟨e1, e2⟩, e3⟩ := h3
      split at e3
      · rename_i z hz
        exact ⟨i, hi, e1, e2, z, hz, by simpa using e3⟩
      · cases e3
    · cases h3
  · rename_i k k' hk hu
    simp only [Bool.and_eq_true, beq_iff_eq] at h2
    obtain ⟨⟨rfl, h4⟩, h5⟩ := h2
    exact ⟨hinfo, by rw [hk]; exact hu, ⟨fun h => (by rw [hk] at h; cases h), fun _ => by simpa using h4⟩, fun _ => h5, fun e => (by rw [hk] at e; cases e), heq⟩
  · rename_i hk hu
    simp only [Bool.and_eq_true, beq_iff_eq] at h2
    exact ⟨hinfo, by rw [hk]; exact hu, ⟨fun h => (by rw [hk] at h; cases h), fun _ => by simpa using h2.1⟩, fun _ => h2.2, fun e => (by rw [hk] at e; cases e), heq⟩
  · rename_i hk hu
    simp only [Bool.and_eq_true, beq_iff_eq] at h2
    exact ⟨hinfo, by rw [hk]; exact hu, ⟨fun h => (by rw [hk] at h; cases h), fun _ => by simpa using h2.1⟩, fun _ => h2.2, fun e => (by rw [hk] at e; cases e), heq⟩
  · rename_i e hk hu
    simp only [Bool.and_eq_true, beq_iff_eq] at h2
    exact ⟨hinfo, by rw [hk]; exact ⟨_, hu⟩, ⟨fun h => (by rw [hk] at h; cases h), fun _ => by simpa using h2.1⟩, fun _ => h2.2, fun e => (by rw [hk] at e; cases e), heq⟩
  · rename_i k e hk hu
    simp only [Bool.and_eq_true, beq_iff_eq] at h2
    obtain ⟨⟨⟨rfl, g1⟩, g2⟩, g3⟩ := h2
    have g1' : P.underlying k = some .string := by
      split at g1
      · assumption
      · cases g1
    exact ⟨hinfo, by rw [hk]; exact ⟨k, hu, g1'⟩, ⟨fun h => (by rw [hk] at h; cases h), fun _ => by simpa using g2⟩, fun _ => g3, fun e => (by rw [hk] at e; cases e), heq⟩
  · cases h2
  · cases h2
  · rename_i d n1 n2 hk hu
    simp only [Bool.and_eq_true, beq_iff_eq] at h2
    exact ⟨hinfo, by rw [hk]; exact ⟨d, hu, fun fs e => n1 fs e, fun n e' e => n2 n e' e⟩, ⟨fun h => (by rw [hk] at h; cases h), fun _ => by simpa using h2.1⟩, fun _ => h2.2, fun e => (by rw [hk] at e; cases e), heq⟩
  · cases h2
def look (l : List (Nat × Ty)) (t : Nat) : Option Ty :=
  match l with
  | [] => none
  | p :: l => if p.1 = t then some p.2 else look l t
theorem TysOk_of {P : Program} {l : List (Nat × Ty)} {o : FuncId → Bool} (h : l.all (tyB P) = true) : TysOk P ⟨look l, o⟩ := by
  intro t y hy
  have hy : look l t = some y := hy
  induction l with
  | nil => cases hy
  | cons p l ih =>
    simp only [List.all_cons, Bool.and_eq_true] at h
    unfold look at hy
    split at hy
    · rename_i e
      cases hy
      subst e
      exact tyB_ok h.1
    · exact ih h.2 hy hy
end Go.Proofs.YtcpfhonmdbhdbaaGreatDoor.Am
namespace Go.Proofs.YtcpfhonmdbhdbaaGreatDoor.Am
open Go
set_option maxRecDepth 100000
def tab : List (Nat × Ty) := [
  (2, ⟨1, .int .i64, [.t (.int .i64 0)], [], 0, 0, 0, false⟩),
  (3, ⟨1, .int .i64, [.t (.int .i64 0)], [], 0, 0, 0, false⟩),
  (4, ⟨1, .bool, [.t (.bool false)], [], 0, 0, 0, false⟩),
  (5, ⟨1, .int .u8, [.t (.int .u8 0)], [], 0, 0, 0, false⟩),
  (6, ⟨1, .int .u8, [.t (.int .u8 0)], [], 0, 0, 0, false⟩),
  (8, ⟨4, .struct, [.t (.int .i64 0), .t (.int .i64 0), .t (.bool false), .t (.int .u8 0)], [(0, 2), (1, 3), (2, 4), (3, 6)], 0, 0, 0, false⟩),
  (9, ⟨1, .str, [.t (.str ⟨#[]⟩)], [], 0, 0, 0, false⟩),
  (10, ⟨1, .str, [.t (.str ⟨#[]⟩)], [], 0, 0, 0, false⟩),
  (11, ⟨1, .str, [.t (.str ⟨#[]⟩)], [], 0, 0, 0, false⟩),
  (12, ⟨1, .int .u64, [.t (.int .u64 0)], [], 0, 0, 0, false⟩),
  (14, ⟨2, .struct, [.t (.str ⟨#[]⟩), .t (.int .u64 0)], [(0, 9), (1, 12)], 0, 0, 0, false⟩),
  (15, ⟨1, .ptr, [.t .nilp], [], 0, 0, 0, false⟩),
  (16, ⟨1, .ptr, [.t .nilp], [], 0, 0, 0, false⟩),
  (17, ⟨1, .ptr, [.t .nilp], [], 0, 0, 0, false⟩),
  (19, ⟨1, .struct, [.t .nilp], [(0, 17)], 0, 0, 0, false⟩),
  (21, ⟨1, .int .i32, [.t (.int .i32 0)], [], 0, 0, 0, false⟩),
  (22, ⟨1, .slice, [.nils 1], [], 5, 1, 1, false⟩),
  (24, ⟨1, .slice, [.nils 7], [], 80, 7, 120, false⟩),
  (26, ⟨2, .struct, [.t (.int .i64 0), .nils 7], [(0, 3), (1, 24)], 0, 0, 0, false⟩),
  (27, ⟨1, .slice, [.nils 6], [], 71, 6, 88, false⟩),
  (29, ⟨4, .struct, [.t (.int .i64 0), .nils 7, .t (.str ⟨#[]⟩), .nils 6], [(0, 26), (2, 9), (3, 27)], 0, 0, 0, false⟩),
  (31, ⟨5, .struct, [.t (.int .i64 0), .nils 7, .t (.str ⟨#[]⟩), .nils 6, .t (.int .i64 0)], [(0, 29), (4, 3)], 0, 0, 0, false⟩),
  (35, ⟨5, .struct, [.t (.bool false), .t (.int .i64 0), .t (.int .i64 0), .t (.str ⟨#[]⟩), .t (.int .i64 0)], [(0, 4), (1, 3), (2, 3), (3, 9), (4, 3)], 0, 0, 0, true⟩),
  (38, ⟨4, .struct, [.t (.int .i64 0), .t (.str ⟨#[]⟩), .t (.int .i64 0), .nils 7], [(0, 3), (1, 9), (2, 26)], 0, 0, 0, false⟩),
  (42, ⟨1, .slice, [.nils 7], [], 95, 7, 120, false⟩),
  (44, ⟨2, .struct, [.t (.int .i64 0), .nils 7], [(0, 3), (1, 42)], 0, 0, 0, false⟩),
  (46, ⟨4, .struct, [.t (.int .i64 0), .t (.str ⟨#[]⟩), .t (.int .i64 0), .nils 7], [(0, 3), (1, 9), (2, 44)], 0, 0, 0, false⟩),
  (52, ⟨1, .ptr, [.t .nilp], [], 0, 0, 0, false⟩),
  (67, ⟨2, .struct, [.nils 1, .t (.int .i64 0)], [(0, 22), (1, 3)], 0, 0, 0, false⟩),
  (68, ⟨1, .slice, [.nils 1], [], 69, 1, 24, false⟩),
  (69, ⟨1, .slice, [.nils 1], [], 9, 1, 16, false⟩),
  (71, ⟨6, .struct, [.t (.bool false), .t (.bool false), .nils 1, .nils 1, .t (.bool false), .nils 1], [(0, 4), (1, 4), (2, 68), (3, 69), (4, 4), (5, 69)], 0, 0, 0, false⟩),
  (76, ⟨1, .other, [.t .nilfn], [], 0, 0, 0, false⟩),
  (77, ⟨1, .slice, [.nils 2], [], 97, 2, 24, false⟩),
  (78, ⟨1, .slice, [.nils 2], [], 99, 2, 32, false⟩),
  (80, ⟨7, .struct, [.t (.str ⟨#[]⟩), .t (.int .i64 0), .t (.int .i64 0), .t (.str ⟨#[]⟩), .nils 1, .nils 2, .nils 2], [(0, 9), (1, 3), (2, 3), (3, 9), (4, 69), (5, 77), (6, 78)], 0, 0, 0, false⟩),
  (81, ⟨1, .other, [.t .nilfn], [], 0, 0, 0, false⟩),
  (92, ⟨1, .slice, [.nils 2], [], 134, 2, 24, false⟩),
  (93, ⟨1, .slice, [.nils 2], [], 136, 2, 32, false⟩),
  (95, ⟨7, .struct, [.t (.str ⟨#[]⟩), .t (.int .i64 0), .t (.int .i64 0), .t (.str ⟨#[]⟩), .nils 1, .nils 2, .nils 2], [(0, 9), (1, 3), (2, 3), (3, 9), (4, 69), (5, 92), (6, 93)], 0, 0, 0, false⟩),
  (97, ⟨2, .struct, [.t (.str ⟨#[]⟩), .t (.int .i64 0)], [(0, 9), (1, 3)], 0, 0, 0, true⟩),
  (99, ⟨2, .struct, [.t (.str ⟨#[]⟩), .t (.str ⟨#[]⟩)], [(0, 9), (1, 9)], 0, 0, 0, true⟩),
  (104, ⟨1, .slice, [.nils 5], [], 106, 5, 80, false⟩),
  (106, ⟨5, .struct, [.t (.int .i64 0), .t (.int .i64 0), .t (.str ⟨#[]⟩), .nils 1, .nils 5], [(0, 3), (1, 3), (2, 9), (3, 69), (4, 104)], 0, 0, 0, false⟩),
  (134, ⟨2, .struct, [.t (.str ⟨#[]⟩), .t (.int .i64 0)], [(0, 9), (1, 3)], 0, 0, 0, true⟩),
  (136, ⟨2, .struct, [.t (.str ⟨#[]⟩), .t (.str ⟨#[]⟩)], [(0, 9), (1, 9)], 0, 0, 0, true⟩),
  (180, ⟨1, .other, [.t .nilfn], [], 0, 0, 0, false⟩),
  (181, ⟨1, .ptr, [.t .nilp], [], 0, 0, 0, false⟩),
  (183, ⟨4, .struct, [.t (.str ⟨#[]⟩), .t (.int .i64 0), .t (.bool false), .t (.bool false)], [(0, 9), (1, 3), (2, 4), (3, 4)], 0, 0, 0, true⟩),
  (190, ⟨1, .other, [.t .nilfn], [], 0, 0, 0, false⟩),
  (192, ⟨3, .struct, [.t (.str ⟨#[]⟩), .t (.int .i64 0), .t .nilfn], [(0, 9), (1, 3), (2, 190)], 0, 0, 0, false⟩),
  (194, ⟨1, .map, [.undef], [], 192, 0, 0, false⟩),
  (197, ⟨1, .ptr, [.t .nilp], [], 0, 0, 0, false⟩),
  (198, ⟨1, .slice, [.nils 1], [], 3, 1, 8, false⟩),
  (200, ⟨11, .struct, [.t (.int .i64 0), .nils 7, .nils 1, .nils 1, .t (.str ⟨#[]⟩), .t (.int .i64 0), .t (.int .i64 0), .t (.str ⟨#[]⟩), .nils 1, .nils 2, .nils 2], [(0, 26), (2, 69), (3, 198), (4, 80)], 0, 0, 0, false⟩),
  (214, ⟨1, .other, [.t .nilfn], [], 0, 0, 0, false⟩),
  (231, ⟨1, .int .i64, [.t (.int .i64 0)], [], 0, 0, 0, false⟩),
  (234, ⟨1, .ptr, [.t .nilp], [], 0, 0, 0, false⟩),
  (244, ⟨1, .int .u64, [.t (.int .u64 0)], [], 0, 0, 0, false⟩),
  (247, ⟨1, .int .u64, [.t (.int .u64 0)], [], 0, 0, 0, false⟩),
  (258, ⟨1, .other, [.t .nilfn], [], 0, 0, 0, false⟩),
  (262, ⟨1, .other, [.t .nilfn], [], 0, 0, 0, false⟩),
  (264, ⟨1, .other, [.t .nilfn], [], 0, 0, 0, false⟩),
  (265, ⟨1, .slice, [.nils 1], [], 4, 1, 1, false⟩),
  (267, ⟨1, .ptr, [.t .nilp], [], 0, 0, 0, false⟩),
  (268, ⟨1, .ptr, [.t .nilp], [], 0, 0, 0, false⟩),
  (270, ⟨1, .struct, [.t (.str ⟨#[]⟩)], [(0, 9)], 0, 0, 0, false⟩),
  (273, ⟨1, .int .u32, [.t (.int .u32 0)], [], 0, 0, 0, false⟩),
  (283, ⟨1, .int .i64, [.t (.int .i64 0)], [], 0, 0, 0, false⟩),
  (306, ⟨1, .int .u64, [.t (.int .u64 0)], [], 0, 0, 0, false⟩),
  (310, ⟨1, .ptr, [.t .nilp], [], 0, 0, 0, false⟩),
  (318, ⟨1, .ptr, [.t .nilp], [], 0, 0, 0, false⟩),
  (331, ⟨1, .int .u8, [.t (.int .u8 0)], [], 0, 0, 0, false⟩)]
def opns : List Nat := [18, 155, 156, 186, 190, 221, 284, 289, 292, 293, 304, 306, 307, 308, 309, 310, 322, 326, 327, 328, 331, 332, 333, 334, 335, 336, 337, 338, 341, 350, 351, 352, 353, 354, 355, 356, 357, 358, 359, 360, 361, 362, 363, 364, 365, 366, 368, 369, 370, 374, 375, 376, 377, 378, 379, 380, 382, 383, 392, 393, 394, 395, 396, 400, 401]
def Γ : Env := ⟨look tab, fun f => opns.contains f⟩
theorem tysOk : TysOk Tryz.prog Γ := TysOk_of (by kernel_rfl)
theorem mixed : Tryz.prog.follows .mixedOrders = true := by kernel_rfl
@[go_sem] theorem g2 : Γ.ty 2 = some ⟨1, .int .i64, [.t (.int .i64 0)], [], 0, 0, 0, false⟩ := rfl
@[go_sem] theorem g3 : Γ.ty 3 = some ⟨1, .int .i64, [.t (.int .i64 0)], [], 0, 0, 0, false⟩ := rfl
@[go_sem] theorem g4 : Γ.ty 4 = some ⟨1, .bool, [.t (.bool false)], [], 0, 0, 0, false⟩ := rfl
@[go_sem] theorem g5 : Γ.ty 5 = some ⟨1, .int .u8, [.t (.int .u8 0)], [], 0, 0, 0, false⟩ := rfl
@[go_sem] theorem g6 : Γ.ty 6 = some ⟨1, .int .u8, [.t (.int .u8 0)], [], 0, 0, 0, false⟩ := rfl
@[go_sem] theorem g8 : Γ.ty 8 = some ⟨4, .struct, [.t (.int .i64 0), .t (.int .i64 0), .t (.bool false), .t (.int .u8 0)], [(0, 2), (1, 3), (2, 4), (3, 6)], 0, 0, 0, false⟩ := rfl
@[go_sem] theorem g9 : Γ.ty 9 = some ⟨1, .str, [.t (.str ⟨#[]⟩)], [], 0, 0, 0, false⟩ := rfl
@[go_sem] theorem g10 : Γ.ty 10 = some ⟨1, .str, [.t (.str ⟨#[]⟩)], [], 0, 0, 0, false⟩ := rfl
@[go_sem] theorem g11 : Γ.ty 11 = some ⟨1, .str, [.t (.str ⟨#[]⟩)], [], 0, 0, 0, false⟩ := rfl
@[go_sem] theorem g12 : Γ.ty 12 = some ⟨1, .int .u64, [.t (.int .u64 0)], [], 0, 0, 0, false⟩ := rfl
@[go_sem] theorem g14 : Γ.ty 14 = some ⟨2, .struct, [.t (.str ⟨#[]⟩), .t (.int .u64 0)], [(0, 9), (1, 12)], 0, 0, 0, false⟩ := rfl
@[go_sem] theorem g15 : Γ.ty 15 = some ⟨1, .ptr, [.t .nilp], [], 0, 0, 0, false⟩ := rfl
@[go_sem] theorem g16 : Γ.ty 16 = some ⟨1, .ptr, [.t .nilp], [], 0, 0, 0, false⟩ := rfl
@[go_sem] theorem g17 : Γ.ty 17 = some ⟨1, .ptr, [.t .nilp], [], 0, 0, 0, false⟩ := rfl
@[go_sem] theorem g19 : Γ.ty 19 = some ⟨1, .struct, [.t .nilp], [(0, 17)], 0, 0, 0, false⟩ := rfl
@[go_sem] theorem g21 : Γ.ty 21 = some ⟨1, .int .i32, [.t (.int .i32 0)], [], 0, 0, 0, false⟩ := rfl
@[go_sem] theorem g22 : Γ.ty 22 = some ⟨1, .slice, [.nils 1], [], 5, 1, 1, false⟩ := rfl
@[go_sem] theorem g24 : Γ.ty 24 = some ⟨1, .slice, [.nils 7], [], 80, 7, 120, false⟩ := rfl
@[go_sem] theorem g26 : Γ.ty 26 = some ⟨2, .struct, [.t (.int .i64 0), .nils 7], [(0, 3), (1, 24)], 0, 0, 0, false⟩ := rfl
@[go_sem] theorem g27 : Γ.ty 27 = some ⟨1, .slice, [.nils 6], [], 71, 6, 88, false⟩ := rfl
@[go_sem] theorem g29 : Γ.ty 29 = some ⟨4, .struct, [.t (.int .i64 0), .nils 7, .t (.str ⟨#[]⟩), .nils 6], [(0, 26), (2, 9), (3, 27)], 0, 0, 0, false⟩ := rfl
@[go_sem] theorem g31 : Γ.ty 31 = some ⟨5, .struct, [.t (.int .i64 0), .nils 7, .t (.str ⟨#[]⟩), .nils 6, .t (.int .i64 0)], [(0, 29), (4, 3)], 0, 0, 0, false⟩ := rfl
@[go_sem] theorem g35 : Γ.ty 35 = some ⟨5, .struct, [.t (.bool false), .t (.int .i64 0), .t (.int .i64 0), .t (.str ⟨#[]⟩), .t (.int .i64 0)], [(0, 4), (1, 3), (2, 3), (3, 9), (4, 3)], 0, 0, 0, true⟩ := rfl
@[go_sem] theorem g38 : Γ.ty 38 = some ⟨4, .struct, [.t (.int .i64 0), .t (.str ⟨#[]⟩), .t (.int .i64 0), .nils 7], [(0, 3), (1, 9), (2, 26)], 0, 0, 0, false⟩ := rfl
@[go_sem] theorem g42 : Γ.ty 42 = some ⟨1, .slice, [.nils 7], [], 95, 7, 120, false⟩ := rfl
@[go_sem] theorem g44 : Γ.ty 44 = some ⟨2, .struct, [.t (.int .i64 0), .nils 7], [(0, 3), (1, 42)], 0, 0, 0, false⟩ := rfl
@[go_sem] theorem g46 : Γ.ty 46 = some ⟨4, .struct, [.t (.int .i64 0), .t (.str ⟨#[]⟩), .t (.int .i64 0), .nils 7], [(0, 3), (1, 9), (2, 44)], 0, 0, 0, false⟩ := rfl
@[go_sem] theorem g52 : Γ.ty 52 = some ⟨1, .ptr, [.t .nilp], [], 0, 0, 0, false⟩ := rfl
@[go_sem] theorem g67 : Γ.ty 67 = some ⟨2, .struct, [.nils 1, .t (.int .i64 0)], [(0, 22), (1, 3)], 0, 0, 0, false⟩ := rfl
@[go_sem] theorem g68 : Γ.ty 68 = some ⟨1, .slice, [.nils 1], [], 69, 1, 24, false⟩ := rfl
@[go_sem] theorem g69 : Γ.ty 69 = some ⟨1, .slice, [.nils 1], [], 9, 1, 16, false⟩ := rfl
@[go_sem] theorem g71 : Γ.ty 71 = some ⟨6, .struct, [.t (.bool false), .t (.bool false), .nils 1, .nils 1, .t (.bool false), .nils 1], [(0, 4), (1, 4), (2, 68), (3, 69), (4, 4), (5, 69)], 0, 0, 0, false⟩ := rfl
@[go_sem] theorem g76 : Γ.ty 76 = some ⟨1, .other, [.t .nilfn], [], 0, 0, 0, false⟩ := rfl
@[go_sem] theorem g77 : Γ.ty 77 = some ⟨1, .slice, [.nils 2], [], 97, 2, 24, false⟩ := rfl
@[go_sem] theorem g78 : Γ.ty 78 = some ⟨1, .slice, [.nils 2], [], 99, 2, 32, false⟩ := rfl
@[go_sem] theorem g80 : Γ.ty 80 = some ⟨7, .struct, [.t (.str ⟨#[]⟩), .t (.int .i64 0), .t (.int .i64 0), .t (.str ⟨#[]⟩), .nils 1, .nils 2, .nils 2], [(0, 9), (1, 3), (2, 3), (3, 9), (4, 69), (5, 77), (6, 78)], 0, 0, 0, false⟩ := rfl
@[go_sem] theorem g81 : Γ.ty 81 = some ⟨1, .other, [.t .nilfn], [], 0, 0, 0, false⟩ := rfl
@[go_sem] theorem g92 : Γ.ty 92 = some ⟨1, .slice, [.nils 2], [], 134, 2, 24, false⟩ := rfl
@[go_sem] theorem g93 : Γ.ty 93 = some ⟨1, .slice, [.nils 2], [], 136, 2, 32, false⟩ := rfl
@[go_sem] theorem g95 : Γ.ty 95 = some ⟨7, .struct, [.t (.str ⟨#[]⟩), .t (.int .i64 0), .t (.int .i64 0), .t (.str ⟨#[]⟩), .nils 1, .nils 2, .nils 2], [(0, 9), (1, 3), (2, 3), (3, 9), (4, 69), (5, 92), (6, 93)], 0, 0, 0, false⟩ := rfl
@[go_sem] theorem g97 : Γ.ty 97 = some ⟨2, .struct, [.t (.str ⟨#[]⟩), .t (.int .i64 0)], [(0, 9), (1, 3)], 0, 0, 0, true⟩ := rfl
@[go_sem] theorem g99 : Γ.ty 99 = some ⟨2, .struct, [.t (.str ⟨#[]⟩), .t (.str ⟨#[]⟩)], [(0, 9), (1, 9)], 0, 0, 0, true⟩ := rfl
@[go_sem] theorem g104 : Γ.ty 104 = some ⟨1, .slice, [.nils 5], [], 106, 5, 80, false⟩ := rfl
@[go_sem] theorem g106 : Γ.ty 106 = some ⟨5, .struct, [.t (.int .i64 0), .t (.int .i64 0), .t (.str ⟨#[]⟩), .nils 1, .nils 5], [(0, 3), (1, 3), (2, 9), (3, 69), (4, 104)], 0, 0, 0, false⟩ := rfl
@[go_sem] theorem g134 : Γ.ty 134 = some ⟨2, .struct, [.t (.str ⟨#[]⟩), .t (.int .i64 0)], [(0, 9), (1, 3)], 0, 0, 0, true⟩ := rfl
@[go_sem] theorem g136 : Γ.ty 136 = some ⟨2, .struct, [.t (.str ⟨#[]⟩), .t (.str ⟨#[]⟩)], [(0, 9), (1, 9)], 0, 0, 0, true⟩ := rfl
@[go_sem] theorem g180 : Γ.ty 180 = some ⟨1, .other, [.t .nilfn], [], 0, 0, 0, false⟩ := rfl
@[go_sem] theorem g181 : Γ.ty 181 = some ⟨1, .ptr, [.t .nilp], [], 0, 0, 0, false⟩ := rfl
@[go_sem] theorem g183 : Γ.ty 183 = some ⟨4, .struct, [.t (.str ⟨#[]⟩), .t (.int .i64 0), .t (.bool false), .t (.bool false)], [(0, 9), (1, 3), (2, 4), (3, 4)], 0, 0, 0, true⟩ := rfl
@[go_sem] theorem g190 : Γ.ty 190 = some ⟨1, .other, [.t .nilfn], [], 0, 0, 0, false⟩ := rfl
@[go_sem] theorem g192 : Γ.ty 192 = some ⟨3, .struct, [.t (.str ⟨#[]⟩), .t (.int .i64 0), .t .nilfn], [(0, 9), (1, 3), (2, 190)], 0, 0, 0, false⟩ := rfl
@[go_sem] theorem g194 : Γ.ty 194 = some ⟨1, .map, [.undef], [], 192, 0, 0, false⟩ := rfl
@[go_sem] theorem g197 : Γ.ty 197 = some ⟨1, .ptr, [.t .nilp], [], 0, 0, 0, false⟩ := rfl
@[go_sem] theorem g198 : Γ.ty 198 = some ⟨1, .slice, [.nils 1], [], 3, 1, 8, false⟩ := rfl
@[go_sem] theorem g200 : Γ.ty 200 = some ⟨11, .struct, [.t (.int .i64 0), .nils 7, .nils 1, .nils 1, .t (.str ⟨#[]⟩), .t (.int .i64 0), .t (.int .i64 0), .t (.str ⟨#[]⟩), .nils 1, .nils 2, .nils 2], [(0, 26), (2, 69), (3, 198), (4, 80)], 0, 0, 0, false⟩ := rfl
@[go_sem] theorem g214 : Γ.ty 214 = some ⟨1, .other, [.t .nilfn], [], 0, 0, 0, false⟩ := rfl
@[go_sem] theorem g231 : Γ.ty 231 = some ⟨1, .int .i64, [.t (.int .i64 0)], [], 0, 0, 0, false⟩ := rfl
@[go_sem] theorem g234 : Γ.ty 234 = some ⟨1, .ptr, [.t .nilp], [], 0, 0, 0, false⟩ := rfl
@[go_sem] theorem g244 : Γ.ty 244 = some ⟨1, .int .u64, [.t (.int .u64 0)], [], 0, 0, 0, false⟩ := rfl
@[go_sem] theorem g247 : Γ.ty 247 = some ⟨1, .int .u64, [.t (.int .u64 0)], [], 0, 0, 0, false⟩ := rfl
@[go_sem] theorem g258 : Γ.ty 258 = some ⟨1, .other, [.t .nilfn], [], 0, 0, 0, false⟩ := rfl
@[go_sem] theorem g262 : Γ.ty 262 = some ⟨1, .other, [.t .nilfn], [], 0, 0, 0, false⟩ := rfl
@[go_sem] theorem g264 : Γ.ty 264 = some ⟨1, .other, [.t .nilfn], [], 0, 0, 0, false⟩ := rfl
@[go_sem] theorem g265 : Γ.ty 265 = some ⟨1, .slice, [.nils 1], [], 4, 1, 1, false⟩ := rfl
@[go_sem] theorem g267 : Γ.ty 267 = some ⟨1, .ptr, [.t .nilp], [], 0, 0, 0, false⟩ := rfl
@[go_sem] theorem g268 : Γ.ty 268 = some ⟨1, .ptr, [.t .nilp], [], 0, 0, 0, false⟩ := rfl
@[go_sem] theorem g270 : Γ.ty 270 = some ⟨1, .struct, [.t (.str ⟨#[]⟩)], [(0, 9)], 0, 0, 0, false⟩ := rfl
@[go_sem] theorem g273 : Γ.ty 273 = some ⟨1, .int .u32, [.t (.int .u32 0)], [], 0, 0, 0, false⟩ := rfl
@[go_sem] theorem g283 : Γ.ty 283 = some ⟨1, .int .i64, [.t (.int .i64 0)], [], 0, 0, 0, false⟩ := rfl
@[go_sem] theorem g306 : Γ.ty 306 = some ⟨1, .int .u64, [.t (.int .u64 0)], [], 0, 0, 0, false⟩ := rfl
@[go_sem] theorem g310 : Γ.ty 310 = some ⟨1, .ptr, [.t .nilp], [], 0, 0, 0, false⟩ := rfl
@[go_sem] theorem g318 : Γ.ty 318 = some ⟨1, .ptr, [.t .nilp], [], 0, 0, 0, false⟩ := rfl
@[go_sem] theorem g331 : Γ.ty 331 = some ⟨1, .int .u8, [.t (.int .u8 0)], [], 0, 0, 0, false⟩ := rfl
theorem o18 : Γ.opn 18 = true := rfl
theorem o155 : Γ.opn 155 = true := rfl
theorem o156 : Γ.opn 156 = true := rfl
end Go.Proofs.YtcpfhonmdbhdbaaGreatDoor.Am
namespace Go.Proofs.YtcpfhonmdbhdbaaGreatDoor.Am
open Go
set_option linter.unusedVariables false
inductive Sch where
  | done
  | one (i : Nat) (r : Sch)
  | all (l : List (Nat × Sch))
def isVal : Op → Bool
  | .move _ => true
  | .assign _ => true
  | .pick .. => true
  | .load .. => true
  | .nilCheck _ => true
  | .binOp .. => true
  | .unOp .. => true
  | .convert .. => true
  | .fieldAddr .. => true
  | .indexAddr .. => true
  | .index .. => true
  | .field .. => true
  | .slice .. => true
  | .extract .. => true
  | .makeFunc .. => true
  | .build .. => true
  | .call ⟨.builtin .len, _, _⟩ => true
  | .call ⟨.builtin .min, _, _⟩ => true
  | .call ⟨.builtin .max, _, _⟩ => true
  | _ => false
def getOp : List Oper → Nat → Option Oper
  | [], _ => none
  | o :: _, 0 => some o
  | _ :: l, i + 1 => getOp l i
theorem getOp_eq : ∀ (l : List Oper) (i : Nat), getOp l i = l[i]?
  | [], _ => by simp [getOp]
  | o :: _, 0 => by simp [getOp]
  | _ :: l, i + 1 => by simp [getOp, getOp_eq l i]
def stepG (P : Program) (Γ : Env) (all : List Oper) (o : Oper) (X : St → Prop) (s : St) : Prop :=
  match o.guard with
  | none => opW P Γ o.dst o.op X s
  | some (j, want) => guardW (gt s.tm (dstAt all j)) s (dstAt all j) want (opW P Γ o.dst o.op X) (Uk X o.dst)
def stepI (P : Program) (Γ : Env) (all : List Oper) (o : Option Oper) (X : St → Prop) (s : St) : Prop :=
  match o with
  | some o => stepG P Γ all o X s
  | none => False
mutual
def Wsch (P : Program) (Γ : Env) (all : List Oper) : Sch → (St → Prop) → St → Prop
  | .done, K, s => K s
  | .one i r, K, s => stepI P Γ all (getOp all i) (Wsch P Γ all r K) s
  | .all l, K, s => Wschs P Γ all l K s
def Wschs (P : Program) (Γ : Env) (all : List Oper) : List (Nat × Sch) → (St → Prop) → St → Prop
  | [], _, _ => True
  | p :: l, K, s => stepI P Γ all (getOp all p.1) (Wsch P Γ all p.2 K) s ∧ Wschs P Γ all l K s
end
def reach (ops : Array Oper) : Nat → Nat → Nat → Bool
  | 0, _, _ => false
  | n + 1, i, e => match ops[e]? with
    | some o => o.after.any fun g => Region.binds .any g && (g.on == i || reach ops n i g.on)
    | none => false
def loadB (Γ : Env) (ops : Array Oper) (L : Array Bool) (i : Nat) : Bool :=
  (List.range ops.size).all fun e => L.getD e true || match ops[e]? with
    | some o => soft Γ o.op || reach ops ops.size i e
    | none => true
mutual
def schB (Γ : Env) (ops : Array Oper) : Nat → Array Bool → Sch → Bool
  | _, L, .done => (Region.ready .any ops L).isEmpty
  | 0, _, _ => false
  | f + 1, L, .one i r => (Region.ready .any ops L).contains i && Region.free .any ops L i && (match ops[i]? with | some o => isVal o.op && (!isLoad o.op || loadB Γ ops L i) | none => false) && schB Γ ops f (L.setIfInBounds i true) r
  | f + 1, L, .all l => !l.isEmpty && (Region.ready .any ops L == l.map (·.1)) && schsB Γ ops f L l
def schsB (Γ : Env) (ops : Array Oper) : Nat → Array Bool → List (Nat × Sch) → Bool
  | _, _, [] => true
  | f, L, p :: l => schB Γ ops f (L.setIfInBounds p.1 true) p.2 && schsB Γ ops f L l
end
section
variable {P : Program} {Γ : Env} {B : Base} {ρ ρ' : Nat → Option Nat} {col col' : Col} {s s' : St} {a : Act} {w w' : World} {ops : Array Oper} {Q : Exit → Act → World → Prop}
def softAt (Γ : Env) (ops : Array Oper) (i : Nat) : Bool := match ops[i]? with
  | some o => soft Γ o.op
  | none => true
def wpJ (P : Program) (Γ : Env) (ops : Array Oper) (Q : Exit → Act → World → Prop) : Nat → Array Bool → Act → World → Prop
  | 0, listed, a, w => Region.ready .any ops listed = [] ∧ Q .normal a w
  | fuel + 1, listed, a, w =>
    (Region.ready .any ops listed = [] → Q .normal a w) ∧
    ∀ i ∈ Region.ready .any ops listed, wpOp P ops Q i (fun a' w' => (softAt Γ ops i = true → WStep w w' none) ∧ wpJ P Γ ops Q fuel (listed.setIfInBounds i true) a' w') a w
theorem wpAny_of_J : ∀ (fuel : Nat) (listed : Array Bool) (a : Act) (w : World), wpJ P Γ ops Q fuel listed a w → wpAny P .any ops Q fuel listed a w
  | 0, _, _, _, h => h
  | fuel + 1, _, _, _, h => ⟨h.1, fun i hi => wpOp_mono (fun a' w' h' => wpAny_of_J fuel _ a' w' h'.2) (h.2 i hi)⟩
def Down (ops : Array Oper) (L : Array Bool) : Prop := ∀ e o, ops[e]? = some o → L.getD e false = true → ∀ g ∈ o.after, Region.binds .any g = true → L.getD g.on false = true
theorem Down.start (n : Nat) : Down ops (Array.replicate n false) := by
  intro e o _ h
  exfalso
  rw [Array.getD_eq_getD_getElem?, Array.getElem?_replicate] at h
  split at h <;> simp at h
theorem Down.set {L : Array Bool} (h : Down ops L) {i : Nat} (hi : i ∈ Region.ready .any ops L) : Down ops (L.setIfInBounds i true) := by
  intro e o he hl g hg hb
  obtain ⟨_, oi, hoi, hall⟩ := mem_ready.1 hi
  by_cases hei : i = e
  · subst hei
    rw [hoi] at he; cases he
    exact getD_set_true (hall g hg hb)
  · rw [getD_set_ne false hei] at hl
    exact getD_set_true (h e o he hl g hg hb)
theorem Down.reach {L : Array Bool} (h : Down ops L) {i : Nat} : ∀ (n e : Nat), Am.reach ops n i e = true → (∀ o, ops[e]? = some o → ∀ g ∈ o.after, Region.binds .any g = true → L.getD g.on false = true) → L.getD i false = true := by
  intro n
  induction n with
  | zero => intro e hr; cases hr
  | succ n ih =>
    intro e hr hall
    unfold Am.reach at hr
    split at hr
    · rename_i o ho
      obtain ⟨g, hg, hgb⟩ := Array.any_eq_true'.1 hr
      simp only [Bool.and_eq_true, Bool.or_eq_true, beq_iff_eq] at hgb
      have hl := hall o ho g hg hgb.1
      rcases hgb.2 with rfl | hr'
      · exact hl
      · exact ih _ hr' (fun o' ho' => h _ o' ho' hl)
    · cases hr
theorem wpJ_first {i : Nat} {oi : Oper} {v : Value} {S : World → Prop} (hi : ops[i]? = some oi) (hsel : ∀ (j : Nat) (o : Oper) cs b, ops[j]? = some o → o.op ≠ .select cs b)
    (hQ : ∀ c a w, Q (.panic c) (a.put oi.dst v) w → Q (.panic c) a w) (hsoft : softAt Γ ops i = true) :
    ∀ (fuel : Nat) (listed : Array Bool) (a : Act) (w : World), Down ops listed →
      (∀ j oj, ops[j]? = some oj → j ≠ i → listed.getD j true = false → (∀ e ∈ oj.after, Region.binds .any e = true → e.on ≠ i) → oi.apart ops oj = true) →
      (∀ e, softAt Γ ops e = false → listed.getD e true = false → Am.reach ops ops.size i e = true ∨ ∀ w, S w) →
      (∀ w w', S w → WStep w w' none → S w') →
      i ∈ Region.ready .any ops listed → YieldsIf P ops S oi v a → S w →
      wpJ P Γ ops Q fuel (listed.setIfInBounds i true) (a.put oi.dst v) w → wpJ P Γ ops Q (fuel + 1) listed a w := by
  intro fuel
  induction fuel with
  | zero =>
    intro listed a w hdown _ _ hSt hr hy hS H
    refine ⟨fun h => (by rw [h] at hr; cases hr), fun j hj => ?_⟩
    by_cases hji : j = i
    · subst hji; exact hy.wpOp hi hS ⟨fun _ => WStep.same w, H⟩
    · have := ready_mono hj hji
      rw [H.1] at this
      cases this
  | succ fuel ih =>
    intro listed a w hdown hfree hE hSt hr hy hS H
    refine ⟨fun h => (by rw [h] at hr; cases hr), fun j hj => ?_⟩
    by_cases hji : j = i
    · subst hji; exact hy.wpOp hi hS ⟨fun _ => WStep.same w, H⟩
    · have h1 := H.2 j (ready_mono hj hji)
      obtain ⟨hjun, oj, hoj, hall⟩ := mem_ready.1 hj
      have hiun := (mem_ready.1 hr).1
      have hif : ¬ listed.getD i false = true := by
        intro h1
        rcases Nat.lt_or_ge i listed.size with h' | h'
        · simp [h'] at hiun h1; rw [hiun] at h1; cases h1
        · simp [Array.getElem?_eq_none h'] at h1
      have hnot : ∀ e ∈ oj.after, Region.binds .any e = true → e.on ≠ i := fun e he hb heq => by
        have h1 := hall e he hb
        rw [heq] at h1
        exact hif h1
      have h2 := wpOp_putIf hoj (hfree j oj hoj hji hjun hnot) (fun cs b => hsel i oi cs b hi) (fun cs b => hsel j oj cs b hoj) hQ hy h1
      have hfree' : ∀ k ok, ops[k]? = some ok → k ≠ i → (listed.setIfInBounds j true).getD k true = false →
          (∀ e ∈ ok.after, Region.binds .any e = true → e.on ≠ i) → oi.apart ops ok = true := fun k ok hk hki hun hno => by
        refine hfree k ok hk hki ?_ hno
        by_cases hjk : j = k
        · subst hjk; exact hjun
        · rw [getD_set_ne true hjk] at hun; exact hun
      have hE' : ∀ e, softAt Γ ops e = false → (listed.setIfInBounds j true).getD e true = false → Am.reach ops ops.size i e = true ∨ ∀ w, S w := fun e he hun => by
        refine hE e he ?_
        by_cases hjk : j = e
        · subst hjk; exact hjun
        · rw [getD_set_ne true hjk] at hun; exact hun
      refine wpOp_mono (fun a' w' h3 => ?_) h2
      obtain ⟨hy', hws, hJ⟩ := h3
      have hS' : S w' := by
        by_cases hs : softAt Γ ops j = true
        · exact hSt _ _ hS (hws hs)
        · have hs' : softAt Γ ops j = false := by simpa using hs
          rcases hE j hs' hjun with hreach | hS
          · exact absurd (hdown.reach _ _ hreach (fun o ho g hg hb => by rw [hoj] at ho; cases ho; exact hall g hg hb)) hif
          · exact hS w'
      refine ⟨hws, ih (listed.setIfInBounds j true) a' w' (hdown.set hj) hfree' hE' hSt (ready_mono hr (Ne.symm hji)) hy' hS' ?_⟩
      rw [Array.setIfInBounds_comm _ _ hji]
      exact hJ
theorem val_step {o : Oper} {s s' : St} (hv : isVal o.op = true) (h : stepOp Γ s o.dst o.op = some s') : ∃ v, valOf Γ s o.op = some v ∧ s' = s.put o.dst v := by
  have : stepOp Γ s o.dst o.op = (valOf Γ s o.op).map fun v => s.put o.dst v := by
    cases ho : o.op with
    | call c =>
      obtain ⟨cal, args, tys⟩ := c
      rw [ho] at hv
      cases cal with
      | builtin b => cases b <;> first | rfl | (simp [isVal] at hv)
      | value f => simp [isVal] at hv
      | invoke r m => simp [isVal] at hv
    | _ => first | rfl | (rw [ho] at hv; simp [isVal] at hv)
  rw [this, Option.map_eq_some_iff] at h
  obtain ⟨v, h1, rfl⟩ := h
  exact ⟨v, h1, rfl⟩
theorem val_soft {op : Op} (h : isVal op = true) : soft Γ op = true := by
  cases op with
  | call c =>
    obtain ⟨cal, args, tys⟩ := c
    cases cal with
    | builtin b => cases b <;> first | rfl | (simp [isVal] at h)
    | value f => simp [isVal] at h
    | invoke r m => simp [isVal] at h
  | store => simp [isVal] at h
  | _ => rfl
theorem val_opW {o : Oper} {X : St → Prop} (hv : isVal o.op = true) (h : opW P Γ o.dst o.op X s) : Sm (stepOp Γ s o.dst o.op) X := by
  unfold opW at h
  split at h
  · rename_i f args tys ho
    rw [ho] at hv; simp [isVal] at hv
  · exact h
theorem step_J (hΓ : TysOk P Γ) (hg : guardsB ops = true) {i : Nat} {X : St → Prop} (hs : Sim B s a w) (hw : stepI P Γ ops.toList (getOp ops.toList i) X s) {J : Act → World → Prop} (hX : ∀ s' a' w', X s' → Sim B s' a' w' → J a' w') :
    wpOp P ops Q i (fun a' w' => (softAt Γ ops i = true → WStep w w' none) ∧ J a' w') a w := by
  rw [getOp_eq] at hw
  unfold wpOp
  cases hi : ops[i]? with
  | none => rw [show ops.toList[i]? = none by simpa using hi] at hw; exact hw.elim
  | some o =>
    have hmem : o ∈ ops.toList := by
      obtain ⟨h1, rfl⟩ := Array.getElem?_eq_some_iff.1 hi
      simp
    have hsa : softAt Γ ops i = soft Γ o.op := by simp [softAt, hi]
    rw [show ops.toList[i]? = some o by simpa using hi] at hw
    unfold stepI stepG at hw
    simp only at hw ⊢
    split at hw
    · rename_i hgd
      have : Region.wanted o (yielded ops a.tmps) = true := by simp [Region.wanted, hgd]
      rw [if_pos this]
      exact .inl (op_ok hΓ hs hw (fun s' a' w' hk hs' hws => ⟨fun h => hws (hsa ▸ h), hX s' a' w' hk hs'⟩))
    · rename_i j want hgd
      have hd : ((ops[j]?).bind (·.dst)).isSome := by
        have := List.all_eq_true.1 hg o hmem
        rw [hgd] at this
        exact this
      obtain ⟨s', hs', hx | hx⟩ := guard_ok hs hw hd
      · have : Region.wanted o (yielded ops a.tmps) = true := by simp [Region.wanted, hgd, hx.1]
        rw [if_pos this]
        exact .inl (op_ok hΓ hs' hx.2 (fun s' a' w' hk hs' hws => ⟨fun h => hws (hsa ▸ h), hX s' a' w' hk hs'⟩))
      · have : ¬ Region.wanted o (yielded ops a.tmps) = true := by simp [Region.wanted, hgd, hx.1]
        rw [if_neg this]
        obtain ⟨ρ, col, hs'⟩ := hs'
        exact ⟨fun _ => WStep.same w, hX _ _ _ hx.2 ⟨ρ, col, hs'.put (x := .skip) (v := Go.undef) rfl o.dst⟩⟩
theorem one_J (hΓ : TysOk P Γ) (hg : guardsB ops = true) (hsel : Region.noSelect ops = true) (hQ : ∀ c a w, ¬ Q (.panic c) a w) {i : Nat} {X : St → Prop} {fuel : Nat} {L : Array Bool} (hD : Down ops L) (hs : Sim B s a w)
    (hr : (Region.ready .any ops L).contains i = true) (hf : Region.free .any ops L i = true) (hv : (match ops[i]? with | some o => isVal o.op && (!isLoad o.op || loadB Γ ops L i) | none => false) = true)
    (hw : stepI P Γ ops.toList (getOp ops.toList i) X s) (hX : ∀ s' a' w', X s' → Sim B s' a' w' → wpJ P Γ ops Q fuel (L.setIfInBounds i true) a' w') : wpJ P Γ ops Q (fuel + 1) L a w := by
  rw [getOp_eq] at hw
  cases hi : ops[i]? with
  | none => rw [hi] at hv; cases hv
  | some o =>
    rw [hi] at hv
    simp only [Bool.and_eq_true] at hv
    obtain ⟨hv1, hv2⟩ := hv
    have hmem : o ∈ ops.toList := by
      obtain ⟨h1, rfl⟩ := Array.getElem?_eq_some_iff.1 hi
      simp
    rw [show ops.toList[i]? = some o by simpa using hi] at hw
    have hsoft : softAt Γ ops i = true := by simp [softAt, hi, val_soft hv1]
    have fin : ∀ (v : Value) (s' : St), YieldsIf P ops (fun w' => isLoad o.op = true → ∀ b, b < w.heap.size → w'.heap[b]? = w.heap[b]?) o v a → Sim B s' (a.put o.dst v) w → X s' → wpJ P Γ ops Q (fuel + 1) L a w := by
      intro v s' hy hs' hx
      refine wpJ_first (S := fun w' => isLoad o.op = true → w.heap.size ≤ w'.heap.size ∧ ∀ b, b < w.heap.size → w'.heap[b]? = w.heap[b]?) hi (Region.noSelect_spec hsel) (fun c a w h => absurd h (hQ c _ w)) hsoft fuel L a w hD (Region.free_spec hi hf) (fun e he hun => ?_) (fun w1 w2 h1 hws hl => ?_) (by simpa using hr) ?_ (fun _ => ⟨Nat.le_refl _, fun _ _ => rfl⟩) (hX s' _ _ hx hs')
      · by_cases hl : isLoad o.op = true
        · left
          simp only [hl, Bool.not_true, Bool.false_or] at hv2
          unfold loadB at hv2
          cases he' : ops[e]? with
          | none => simp [softAt, he'] at he
          | some oe =>
            have hlt := (Array.getElem?_eq_some_iff.1 he').1
            have := List.all_eq_true.1 hv2 e (List.mem_range.2 hlt)
            simp only [hun, Bool.false_or, he'] at this
            simp only [softAt, he'] at he
            simpa [he] using this
        · exact .inr fun w hl' => absurd hl' hl
      · obtain ⟨g1, g2⟩ := h1 hl
        exact ⟨Nat.le_trans g1 hws.size, fun b hb => (hws.block b (Nat.lt_of_lt_of_le hb g1) (by simp)).trans (g2 b hb)⟩
      · rcases hy with ⟨h1, h2⟩ | h
        · exact .inl ⟨h1, fun w' hw' => h2 w' fun hl => (hw' hl).2⟩
        · exact .inr h
    have yes : ∀ s0, Sim B s0 a w → opW P Γ o.dst o.op X s0 → Region.wanted o (yielded ops a.tmps) = true → wpJ P Γ ops Q (fuel + 1) L a w := by
      rintro s0 ⟨ρ, col, h0⟩ ho hwant
      obtain ⟨s', h1, hx⟩ := val_opW hv1 ho
      obtain ⟨v, hval, rfl⟩ := val_step hv1 h1
      obtain ⟨u, hu, hr⟩ := val_ok hΓ h0 hval
      exact fin u _ (.inl ⟨hwant, hu⟩) ⟨ρ, col, h0.put hr o.dst⟩ hx
    unfold stepI stepG at hw
    simp only at hw
    split at hw
    · rename_i hgd
      exact yes s hs hw (by simp [Region.wanted, hgd])
    · rename_i j want hgd
      have hd : ((ops[j]?).bind (·.dst)).isSome := by
        have := List.all_eq_true.1 hg o hmem
        rw [hgd] at this
        exact this
      obtain ⟨s', hs', hx | hx⟩ := guard_ok hs hw hd
      · exact yes s' hs' hx.2 (by simp [Region.wanted, hgd, hx.1])
      · obtain ⟨ρ, col, hs'⟩ := hs'
        exact fin Go.undef _ (.inr ⟨by simp [Region.wanted, hgd, hx.1], rfl⟩) ⟨ρ, col, hs'.put (x := .skip) (v := Go.undef) rfl o.dst⟩ hx.2
theorem wpJ_done {L : Array Bool} (hr : Region.ready .any ops L = []) (h : Q .normal a w) : ∀ fuel, wpJ P Γ ops Q fuel L a w
  | 0 => ⟨hr, h⟩
  | _ + 1 => ⟨fun _ => h, by rw [hr]; simp⟩
theorem sch_ok (hΓ : TysOk P Γ) (hg : guardsB ops = true) (hsel : Region.noSelect ops = true) (hQ : ∀ c a w, ¬ Q (.panic c) a w) {K : St → Prop} (hn : ∀ s' a' w', K s' → Sim B s' a' w' → Q .normal a' w') : ∀ (fuel : Nat) (t : Sch) (L : Array Bool) (s : St) (a : Act) (w : World), Down ops L → Sim B s a w → schB Γ ops fuel L t = true → Wsch P Γ ops.toList t K s → wpJ P Γ ops Q fuel L a w := by
  intro fuel
  induction fuel with
  | zero =>
    intro t L s a w hD hs hb hw
    cases t with
    | done =>
      simp only [schB] at hb
      exact wpJ_done (by simpa using hb) (hn s a w hw hs) 0
    | _ => simp [schB] at hb
  | succ fuel ih =>
    intro t L s a w hD hs hb hw
    cases t with
    | done =>
      simp only [schB] at hb
      exact wpJ_done (by simpa using hb) (hn s a w hw hs) _
    | one i r =>
      simp only [schB, Bool.and_eq_true] at hb
      obtain ⟨⟨⟨hr, hf⟩, hv⟩, hrest⟩ := hb
      have hD' : Down ops (L.setIfInBounds i true) := hD.set (by simpa using hr)
      exact one_J hΓ hg hsel hQ hD hs hr hf (by simpa using hv) hw (fun s' a' w' hx hs' => ih r _ s' a' w' hD' hs' hrest hx)
    | all l =>
      simp only [schB, Bool.and_eq_true] at hb
      obtain ⟨⟨hne, hr⟩, hrest⟩ := hb
      have hr' : Region.ready .any ops L = l.map (·.1) := by simpa using hr
      have hw' : Wschs P Γ ops.toList l K s := hw
      have key : ∀ (l : List (Nat × Sch)), schsB Γ ops fuel L l = true → Wschs P Γ ops.toList l K s → ∀ p ∈ l, schB Γ ops fuel (L.setIfInBounds p.1 true) p.2 = true ∧ stepI P Γ ops.toList (getOp ops.toList p.1) (Wsch P Γ ops.toList p.2 K) s := by
        intro l
        induction l with
        | nil => intro _ _ p hp; cases hp
        | cons q l ihl =>
          intro h1 h2 p hp
          simp only [schsB, Bool.and_eq_true] at h1
          simp only [Wschs] at h2
          rcases List.mem_cons.1 hp with rfl | hp
          · exact ⟨h1.1, h2.1⟩
          · exact ihl h1.2 h2.2 p hp
      refine ⟨fun h => ?_, fun i hi => ?_⟩
      · rw [hr'] at h
        cases l with
        | nil => simp at hne
        | cons => simp at h
      · have hi' := hi
        rw [hr'] at hi'
        obtain ⟨p, hp, rfl⟩ := List.mem_map.1 hi'
        obtain ⟨k1, k2⟩ := key l hrest hw' p hp
        exact step_J hΓ hg hs k2 (fun s' a' w' hx hs' => ih p.2 _ s' a' w' (hD.set hi) hs' k1 hx)
theorem RegD_of {id : Nat} {K : St → Prop} (t : Sch) (hΓ : TysOk P Γ) (hb : (guardsB ops && Region.noSelect ops && schB Γ ops ops.size (Array.replicate ops.size false) t) = true) (h : Wsch P Γ ops.toList t K s) : RegD P id ops K s := by
  simp only [Bool.and_eq_true] at hb
  intro B a w Q hs hQ hn
  obtain ⟨ρ, col, hs⟩ := hs
  have hws : WStep w { w with drawn := w.drawn + 1 } none := ⟨rfl, rfl, rfl, DrLe.of_le (Nat.le_succ _), Nat.le_refl _, fun _ _ _ => rfl⟩
  obtain ⟨h1, _⟩ := hs.after hws (colr := fun _ => none) (fun b p e => by cases e)
  exact wpAny_of_J _ _ _ _ (sch_ok hΓ hb.1.1 hb.1.2 hQ hn _ t _ s a _ (Down.start _) ⟨_, _, h1⟩ hb.2 h)
end
section
variable (P : Program) (Γ : Env) (all : List Oper) (K : St → Prop) (s : St)
theorem Wsch_done : Wsch P Γ all .done K s = K s := rfl
theorem Wsch_one (i : Nat) (r : Sch) : Wsch P Γ all (.one i r) K s = stepI P Γ all (getOp all i) (Wsch P Γ all r K) s := rfl
theorem Wsch_all (l : List (Nat × Sch)) : Wsch P Γ all (.all l) K s = Wschs P Γ all l K s := rfl
theorem Wschs_nil : Wschs P Γ all [] K s = True := rfl
theorem Wschs_cons (i : Nat) (r : Sch) (l : List (Nat × Sch)) : Wschs P Γ all ((i, r) :: l) K s = (stepI P Γ all (getOp all i) (Wsch P Γ all r K) s ∧ Wschs P Γ all l K s) := rfl
theorem stepI_none (op : Op) (d : Option Tmp) (ty : TypeId) (ps : String) (af : Array Edge) : stepI P Γ all (some ⟨d, op, ty, ps, af, none⟩) K s = opW P Γ d op K s := rfl
theorem stepI_some (op : Op) (d : Option Tmp) (ty : TypeId) (ps : String) (af : Array Edge) (j : Nat) (want : Bool) : stepI P Γ all (some ⟨d, op, ty, ps, af, some (j, want)⟩) K s = guardW (gt s.tm (dstAt all j)) s (dstAt all j) want (opW P Γ d op K) (Uk K d) := rfl
end
attribute [go_sem] Wsch_done Wsch_one Wsch_all Wschs_nil Wschs_cons stepI_none stepI_some getOp
end Go.Proofs.YtcpfhonmdbhdbaaGreatDoor.Am
