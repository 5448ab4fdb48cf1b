/- A row of bytes that a conversion made ([]byte(s)), or that an append made out of it: read, appended to, stored into, turned into a string. Conditions: what each theorem states. -/
import Derived.Test.YtpokafkkfdponaaWMore
import Derived.Test.YtpokafkkfdponaaWLast
import Derived.Lib.ConvBytes
import Derived.ArgAppend
import Derived.Laws.IdiomCopy
namespace Go.Proofs.Ytpokafkkfdponaa.Conv
open Go.RowKit Go.Proofs.YtpokafkkfdponaaW.PrintWords Go.Proofs.YtpokafkkfdponaaW.PrintLast Go.Proofs.YtpokafkkfdponaaW.PrintMore

/-- v is a row of bytes that begins its block, which came after w0. -/
def RowC (e : TypeId) (w0 w : World) (v : Value) (xs : List Int) : Prop :=
  ∃ g cap cur fr, v = .slice (some ⟨g, 0, none⟩) xs.length cap ∧ w0.heap.size ≤ g ∧ w.heap[g]? = some (.cells cur e fr) ∧ xs.length ≤ cap ∧ cap ≤ maxLen ∧ cur.size = cap ∧ (fr = (0, 0) ∨ cap ≤ fr.1) ∧ cur.toList.take xs.length = nums .u8 xs

section
variable {e : TypeId} {w0 w w1 : World} {v : Value} {xs : List Int}
theorem RowC.move (h : RowC e w0 w v xs) (hb : ∀ k, k < w.heap.size → w1.heap[k]? = w.heap[k]?) : RowC e w0 w1 v xs := by
  obtain ⟨g, cap, cur, fr, h1, h2, h3, h4⟩ := h
  have hg : g < w.heap.size := by
    rcases Nat.lt_or_ge g w.heap.size with h' | h'
    · exact h'
    · simp [Array.getElem?_eq_none h'] at h3
  exact ⟨g, cap, cur, fr, h1, h2, (hb g hg).trans h3, h4⟩
theorem RowC.below (h : RowC e w0 w v xs) (hb : Below w.heap.size w w1) : RowC e w0 w1 v xs := h.move (fun k hk => hb.block k hk)
theorem RowC.alloc (h : RowC e w0 w v xs) (o : Obj) : RowC e w0 (w.alloc o) v xs := h.below (below_alloc (Below.refl _ _) o)
theorem RowC.drewN (h : RowC e w0 w v xs) (m : Nat) : RowC e w0 (w.drewN m) v xs := h
theorem nums_get {xs : List Int} {j : Nat} {u : Value} (h : (nums .u8 xs)[j]? = some u) : ∃ x, xs[j]? = some x ∧ u = .int .u8 x := by
  unfold nums at h
  rw [List.getElem?_map, Option.map_eq_some_iff] at h
  obtain ⟨x, h1, h2⟩ := h
  exact ⟨x, h1, h2.symm⟩
theorem RowC.form (h : RowC e w0 w v xs) : ∃ g cap, v = .slice (some ⟨g, 0, none⟩) xs.length cap ∧ w0.heap.size ≤ g ∧ xs.length ≤ cap ∧ cap ≤ maxLen ∧
    (∀ j x, xs[j]? = some x → w.cell? ⟨g, j, none⟩ = some (.int .u8 x)) ∧ (∀ j, j < cap → (w.cell? ⟨g, j, none⟩).isSome = true ∧ w.frozen? ⟨g, j, none⟩ = false) := by
  obtain ⟨g, cap, cur, fr, h1, h2, h3, h4, h5, h6, h7, h8⟩ := h
  refine ⟨g, cap, h1, h2, h4, h5, fun j x hj => ?_, fun j hj => ⟨?_, ?_⟩⟩
  · have hl := (List.getElem?_eq_some_iff.1 hj).1
    have : cur.toList[j]? = some (.int .u8 x) := by
      have q : (cur.toList.take xs.length)[j]? = cur.toList[j]? := List.getElem?_take_of_lt hl
      rw [← q, h8]
      simp [nums, hj]
    rw [Array.getElem?_toList] at this
    simp [World.cell?, h3, this]
  · simp [World.cell?, h3, h6, hj]
  · simp only [World.frozen?, h3]
    rcases h7 with rfl | h7
    · simp
    · have : ¬ fr.1 ≤ j := by omega
      simp [this]
/-- []byte(s). -/
theorem RowC.conv (s : ByteArray) (W : World) (hs : s.size ≤ 1000) : RowC e W (Lib.bytesWorld W e s) (.slice (some ⟨W.heap.size, 0, none⟩) s.size (grownCap W s.size 0 e)) (bytesOf s) ∧ Below W.heap.size W (Lib.bytesWorld W e s) := by
  constructor
  · have hc : (Lib.bytesCells W e s).size = grownCap W s.size 0 e := by
      have := grownCap_ge W s.size 0 e
      simp [Lib.bytesCells]
      show s.size + _ = _
      omega
    refine ⟨W.heap.size, grownCap W s.size 0 e, _, _, by rw [bytesOf_length], Nat.le_refl _, Lib.bytesWorld_at_new W e s, ?_, ?_, hc, .inr (by rw [hc]; exact Nat.le_refl _), ?_⟩
    · rw [bytesOf_length]
      exact grownCap_ge W s.size 0 e
    · exact grownCap_le_maxLen _ _ _ _ (by unfold maxLen; omega)
    · rw [bytesOf_length]
      have e1 : (s.data.map fun b => Value.int .u8 b.toNat).toList = nums .u8 (bytesOf s) := by simp [nums, bytesOf]
      have e2 : (nums .u8 (bytesOf s)).length = s.size := by rw [nums_length, bytesOf_length]
      rw [Lib.bytesCells, Array.toList_append, e1, List.take_left' e2]
  · exact ⟨rfl, rfl, rfl, by rw [Lib.bytesWorld_size]; omega, fun k hk => Lib.bytesWorld_at_old W e s k hk⟩
/-- A store into element i. -/
theorem RowC.set (h : RowC e w0 w v xs) {g cap n : Nat} (hv : v = .slice (some ⟨g, 0, none⟩) n cap) (i : Nat) (y : Int) : RowC e w0 (w.setCell ⟨g, i, none⟩ (.int .u8 y)) v (xs.set i y) := by
  obtain ⟨g', cap', cur, fr, h1, h2, h3, h4, h5, h6, h7, h8⟩ := h
  have eg : g' = g ∧ cap' = cap := by
    rw [h1] at hv
    injection hv with e1 e3 e2
    injection e1 with e1
    injection e1 with e1
    exact ⟨e1, e2⟩
  obtain ⟨rfl, rfl⟩ := eg
  have hg : g' < w.heap.size := by
    rcases Nat.lt_or_ge g' w.heap.size with h' | h'
    · exact h'
    · simp [Array.getElem?_eq_none h'] at h3
  have hset : (w.setCell ⟨g', i, none⟩ (.int .u8 y)).heap[g']? = some (.cells (cur.setIfInBounds i (.int .u8 y)) e fr) := by
    simp only [World.setCell, Array.getElem?_modify, h3]
    simp
  refine ⟨g', cap', _, fr, by rw [List.length_set]; exact h1, h2, hset, by rw [List.length_set]; exact h4, h5, by simp [h6], h7, ?_⟩
  rw [List.length_set, Array.toList_setIfInBounds, List.take_set, h8]
  simp [nums, List.map_set]
theorem RowC.set_below (h : RowC e w0 w v xs) (hB : Below w0.heap.size w0 w) {g cap n : Nat} (hv : v = .slice (some ⟨g, 0, none⟩) n cap) (i : Nat) (u : Value) : Below w0.heap.size w0 (w.setCell ⟨g, i, none⟩ u) := by
  obtain ⟨g', cap', cur, fr, h1, h2, _⟩ := h
  have eg : g' = g := by
    rw [h1] at hv
    injection hv with e1 _ e2
    injection e1 with e1
    injection e1 with e1
  subst eg
  exact below_set hB h2
theorem setCells_one (w : World) (b o : Nat) (u : Value) : w.setCells b o [u] = w.setCell ⟨b, o, none⟩ u := rfl
/-- append(xs, y) -/
theorem RowC.append {P : Program} {ops : Array Oper} {rest : List Oper} {o : Oper} {a : Act} {Q : Exit → Act → World → Prop} {W : World}
    (hg : o.guard = none) (s x : Operand) (t : TypeId) (hop : o.op = Op.call { callee := Callee.builtin Builtin.append, args := #[s, x], argTypes := #[t, t] })
    (ht : P.underlying t = some (.slice e)) (hinfo : (P.info? e).map (fun i => (i.zero, i.size, i.bytes)) = some (some (.int .u8 0), 1, 1))
    (hs : a.eval s = v) (h : RowC e w0 W v xs) (hB : Below w0.heap.size w0 W) (hl : xs.length ≤ 100000) (ad : Addr) (m c : Nat) (y : Int) (hx : a.eval x = .slice (some ad) m c) (hm : m = 1) (hy : W.cell? ad = some (.int .u8 y))
    (hK : ∀ v1 w1, RowC e w0 w1 v1 (xs ++ [y]) → Below w0.heap.size w0 w1 → wpList P ops Q rest (a.put o.dst v1) w1) : wpList P ops Q (o :: rest) a W := by
  obtain ⟨g, cap, hv, hg0, hlc, hcm, hcell, hroom⟩ := h.form
  obtain ⟨i0, hi, hzz⟩ := Option.map_eq_some_iff.1 hinfo
  simp only [Prod.mk.injEq] at hzz
  obtain ⟨hz0, hz1, hz2⟩ := hzz
  subst hm
  have h0 := h
  obtain ⟨g', cap', cur, fr, h1, h2, h3, h4, h5, h6, h7, h8⟩ := h0
  have eg : g' = g ∧ cap' = cap := by
    rw [h1] at hv
    injection hv with e1 _ e2
    injection e1 with e1
    injection e1 with e1
    exact ⟨e1, e2⟩
  obtain ⟨rfl, rfl⟩ := eg
  refine wpList_append_arg W hg s x t hop e i0 (.int .u8 0) 1 1 ht hi hz0 hz1 hz2 rfl (by decide) g' 0 xs.length cap' (nums .u8 xs) (by rw [hs, hv]) (by simp [nums_length]) ?_ ad 1 c [.int .u8 y] hx rfl ?_ ?_ ?_ (by unfold maxLen; omega) (by omega) ?_ ?_
  · intro j u hj
    obtain ⟨z, hz, rfl⟩ := nums_get hj
    rw [Nat.zero_add]
    exact hcell j z hz
  · intro j u hj
    have hj0 : j = 0 := by
      have := (List.getElem?_eq_some_iff.1 hj).1
      simpa using this
    subst hj0
    obtain rfl : Value.int .u8 y = u := by simpa using hj
    simpa [Addr.add] using hy
  · intro u hu
    obtain rfl := List.mem_singleton.1 hu
    rfl
  · intro hr j hj
    have hj0 : j = 0 := by simpa using hj
    subst hj0
    have := hroom xs.length (by omega)
    simpa using this
  · intro hr
    rw [setCells_one, Nat.zero_add, Nat.mul_one]
    have hg' : g' < W.heap.size := by
      rcases Nat.lt_or_ge g' W.heap.size with h' | h'
      · exact h'
      · simp [Array.getElem?_eq_none h'] at h3
    refine hK _ _ ⟨g', cap', cur.setIfInBounds xs.length (.int .u8 y), fr, by simp, h2, ?_, by simp; omega, h5, by simp [h6], h7, ?_⟩ (below_set hB h2)
    · simp only [World.setCell, Array.getElem?_modify, h3]
      simp
    · rw [Array.toList_setIfInBounds, nums_append, ← h8, List.length_append, List.length_singleton]
      have hc : xs.length < cur.toList.length := by simp [h6]; omega
      rw [List.take_succ_eq_append_getElem (by simpa using hc)]
      simp [nums, List.take_set]
      rw [List.set_eq_of_length_le (by simp; omega)]
  · intro hr v1 w1 hown hgr
    refine hK v1 w1 ?_ (hB.grown hgr hB.size (fun k hk => by cases hk))
    obtain ⟨hlen, ho⟩ := hown
    rcases ho with ⟨_, h0⟩ | ⟨g2, cap2, cur2, hv2, hb2, hh2, hn2, hm2, hc2, ht2⟩
    · omega
    · refine ⟨g2, cap2, cur2, (0, 0), by rw [hv2]; simp, by have := hB.size; omega, hh2, by simp; omega, hm2, by simpa using hc2, .inl rfl, ?_⟩
      rw [List.length_append, List.length_singleton, nums_append]
      simpa [nums] using ht2
/-- Reading element i. -/
theorem RowC.at_ (h : RowC e w0 w v xs) {g cap : Nat} (hv : v = .slice (some ⟨g, 0, none⟩) xs.length cap) (i : Nat) (hi : i < xs.length) : w.cell? ⟨g, i, none⟩ = some (.int .u8 xs[i]) ∧ w.frozen? ⟨g, i, none⟩ = false := by
  obtain ⟨g', cap', hv2, _, hlc, _, hcell, hroom⟩ := h.form
  have eg : g' = g := by
    rw [hv2] at hv
    injection hv with e1 _ e2
    injection e1 with e1
    injection e1 with e1
  subst eg
  exact ⟨hcell i _ (List.getElem?_eq_getElem hi), (hroom i (by omega)).2⟩
theorem RowC.rd_ (h : RowC e w0 w v xs) {g cap n : Nat} (hv : v = .slice (some ⟨g, 0, none⟩) n cap) (i : Int) (h0 : 0 ≤ i) (hi : i < xs.length) : w.cell? ⟨g, i.toNat, none⟩ = some (.int .u8 (rd xs i)) ∧ w.frozen? ⟨g, i.toNat, none⟩ = false := by
  have hn : n = xs.length := by
    obtain ⟨g', cap', hv2, _⟩ := h.form
    rw [hv2] at hv
    injection hv with _ e1 _
    exact e1.symm
  subst hn
  have := h.at_ hv i.toNat (by omega)
  refine ⟨this.1.trans ?_, this.2⟩
  unfold rd
  rw [List.getD_eq_getElem?_getD, List.getElem?_eq_getElem (by omega)]
  rfl
theorem RowC.reads (h : RowC e w0 w v xs) : ∃ A c, v = .slice A xs.length c ∧ xs.length ≤ c ∧ (Kd.int .u8).C w A xs.length xs := by
  obtain ⟨g, cap, hv, _, hlc, hcm, hcell, _⟩ := h.form
  refine ⟨_, cap, hv, hlc, rfl, by unfold maxLen at hcm; omega, fun _ => ⟨_, rfl, fun j p hj => ⟨[.int .u8 p], rfl, rfl, fun i u hu => ?_⟩⟩⟩
  have hi0 : i = 0 := by
    have := (List.getElem?_eq_some_iff.1 hu).1
    simpa using this
  subst hi0
  obtain rfl : Value.int .u8 p = u := by simpa using hu
  have := hcell j p hj
  show w.cell? (Addr.add ⟨g, 0, none⟩ (j * 1 + 0)) = _
  rw [Addr.add_lit]
  simpa using this
theorem RowC.str {P : Program} {src dst : TypeId} (h : RowC e w0 w v xs) (hs : P.underlying src = some (.slice e)) (he : P.underlying e = some (.int .u8)) (hd : P.underlying dst = some .string) : (convert src dst v).run P w = .ok (.string (strOfNums xs)) w := by
  obtain ⟨A, c, rfl, _, hC⟩ := h.reads
  exact Kd.C_string (P := P) (A := A) (c := c) hs he hd hC
end
end Go.Proofs.Ytpokafkkfdponaa.Conv
