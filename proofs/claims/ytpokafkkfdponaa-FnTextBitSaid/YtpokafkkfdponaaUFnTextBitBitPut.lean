/- Putting a bit: the text that TextBitPut returns, byte by byte, in the program and in the reference. Conditions: a text of at most 40 bytes, a place in 0..319, a bit 0 or 1. -/
import Derived.Test.YtpokafkkfdponaaUFnTextBitBits
import Derived.Test.YtpokafkkfdponaaPFnTextBitx2
import Derived.Test.YtpokafkkfdponaaPFnTextBitx2
namespace Go.Proofs.Ytpokafkkfdponaa.UFnTextBit
open Go.RowKit Go.Proofs.YtpokafkkfdponaaW.PrintWords Go.Proofs.YtpokafkkfdponaaW.PrintLast Go.Proofs.YtpokafkkfdponaaW.PrintMore Go.Proofs.Ytpokafkkfdponaa.PFnTextBit Go.Proofs.Ytpokafkkfdponaa.Base

set_option maxRecDepth 100000 in
theorem one_table : ∀ y : Fin 256, ∀ j : Fin 8, ∀ b : Fin 2, ∀ k : Fin 8, impl_TextBitPut.one y.val j.val b.val / 2 ^ (7 - k.val) % 2 = if k = j then (b.val : Int) else (y.val : Int) / 2 ^ (7 - k.val) % 2 := by
  unfold impl_TextBitPut.one
  decide +kernel
set_option maxRecDepth 100000 in
theorem one_bound : ∀ y : Fin 256, ∀ j : Fin 8, ∀ b : Fin 2, 0 ≤ impl_TextBitPut.one y.val j.val b.val ∧ impl_TextBitPut.one y.val j.val b.val ≤ 255 := by
  unfold impl_TextBitPut.one
  decide +kernel
set_option maxRecDepth 100000 in
theorem one_same : ∀ y : Fin 256, ∀ j : Fin 8, ∀ b : Fin 2, spec_TextBitPut.one y.val j.val b.val = impl_TextBitPut.one y.val j.val b.val := by
  unfold impl_TextBitPut.one spec_TextBitPut.one wrap64
  decide +kernel
theorem one_mod (x i b : Int) : impl_TextBitPut.one x i b = impl_TextBitPut.one x (i % 8) b ∧ spec_TextBitPut.one x i b = spec_TextBitPut.one x (i % 8) b := by
  unfold impl_TextBitPut.one spec_TextBitPut.one
  rw [show i % 8 % 8 = i % 8 by omega]
  exact ⟨rfl, rfl⟩
theorem one_fin {x i b : Int} (hx : 0 ≤ x) (hx1 : x ≤ 255) (hb : 0 ≤ b) (hb1 : b ≤ 1) : ∃ (y : Fin 256) (j : Fin 8) (c : Fin 2), (y.val : Int) = x ∧ (j.val : Int) = i % 8 ∧ (c.val : Int) = b :=
  ⟨⟨x.toNat, by omega⟩, ⟨(i % 8).toNat, by omega⟩, ⟨b.toNat, by omega⟩, by simp; omega, by simp; omega, by simp; omega⟩
theorem one_eq {x i b : Int} (hx : 0 ≤ x) (hx1 : x ≤ 255) (hb : 0 ≤ b) (hb1 : b ≤ 1) : spec_TextBitPut.one x i b = impl_TextBitPut.one x i b := by
  obtain ⟨y, j, c, rfl, hj, rfl⟩ := one_fin (i := i) hx hx1 hb hb1
  rw [(one_mod _ i _).1, (one_mod _ i _).2, ← hj]
  exact one_same y j c
theorem one_le {x i b : Int} (hx : 0 ≤ x) (hx1 : x ≤ 255) (hb : 0 ≤ b) (hb1 : b ≤ 1) : 0 ≤ impl_TextBitPut.one x i b ∧ impl_TextBitPut.one x i b ≤ 255 := by
  obtain ⟨y, j, c, rfl, hj, rfl⟩ := one_fin (i := i) hx hx1 hb hb1
  rw [(one_mod _ i _).1, ← hj]
  exact one_bound y j c
theorem one_bit {x b : Int} {i : Nat} (hx : 0 ≤ x) (hx1 : x ≤ 255) (hb : 0 ≤ b) (hb1 : b ≤ 1) (k : Nat) (hk : k < 8) : impl_TextBitPut.one x i b / 2 ^ (7 - k) % 2 = if k = i % 8 then b else x / 2 ^ (7 - k) % 2 := by
  obtain ⟨y, j, c, rfl, hj, rfl⟩ := one_fin (i := (i : Int)) hx hx1 hb hb1
  rw [(one_mod _ (i : Int) _).1, ← hj]
  have h := one_table y j c ⟨k, hk⟩
  simp only at h
  rw [h]
  have : j.val = i % 8 := by omega
  by_cases e : k = i % 8
  · rw [if_pos e, if_pos (Fin.ext (by simp; omega))]
  · rw [if_neg e, if_neg (fun h2 => e (by have := congrArg Fin.val h2; simp at this; omega))]

/-- A list of bytes as a text. -/
theorem str_size (l : List Int) : (strOfNums l).size = l.length := by
  simp [strOfNums, ByteArray.size]
theorem str_bt (l : List Int) (h : ∀ x ∈ l, 0 ≤ x ∧ x ≤ 255) (j : Nat) (hj : j < l.length) : bt (strOfNums l) j = l[j] := by
  have hb := h l[j] (List.getElem_mem hj)
  unfold bt
  rw [dif_pos (by rw [str_size]; omega)]
  have e : (strOfNums l)[((j : Int)).toNat]'(by rw [str_size]; omega) = UInt8.ofNat (l[j]).toNat := by
    simp [strOfNums, ByteArray.getElem_eq_getElem_data]
  rw [e]
  have : (l[j]).toNat < 256 := by omega
  simp [Nat.mod_eq_of_lt this]
  omega
theorem pad_len (s : ByteArray) (i : Nat) : (impl_TextBitPut.pad s i).length = max s.size (i / 8 + 1) := by
  unfold impl_TextBitPut.pad
  simp [bytesOf_length]
  omega
theorem pad_get (s : ByteArray) (i j : Nat) (hj : j < (impl_TextBitPut.pad s i).length) : (impl_TextBitPut.pad s i)[j] = if j < s.size then bt s j else 0 := by
  have hl := bytesOf_length s
  unfold impl_TextBitPut.pad at hj
  simp only [impl_TextBitPut.pad]
  by_cases h : j < s.size
  · rw [if_pos h, List.getElem_append_left (by omega)]
    unfold bt
    rw [dif_pos (by omega)]
    simp [bytesOf, ByteArray.getElem_eq_getElem_data]
  · rw [if_neg h, List.getElem_append_right (by omega)]
    simp
theorem pad_byte (s : ByteArray) (i : Nat) : ∀ x ∈ impl_TextBitPut.pad s i, 0 ≤ x ∧ x ≤ 255 := by
  intro x hx
  obtain ⟨j, hj, rfl⟩ := List.getElem_of_mem hx
  rw [pad_get]
  have := bt_bound s j
  split <;> omega
/-- The text behind it. -/
def putb (s : ByteArray) (i : Nat) (b : Int) : ByteArray := strOfNums (impl_TextBitPut.upd (impl_TextBitPut.pad s i) i b)
theorem rd_pad (s : ByteArray) (i : Nat) : rd (impl_TextBitPut.pad s i) ((i : Int) / 8) = (if i / 8 < s.size then bt s (i / 8 : Nat) else 0) ∧ 0 ≤ rd (impl_TextBitPut.pad s i) ((i : Int) / 8) ∧ rd (impl_TextBitPut.pad s i) ((i : Int) / 8) ≤ 255 := by
  have hl := pad_len s i
  have e : rd (impl_TextBitPut.pad s i) ((i : Int) / 8) = (impl_TextBitPut.pad s i)[i / 8]'(by omega) := by
    unfold rd
    rw [show ((i : Int) / 8).toNat = i / 8 by omega, List.getD_eq_getElem?_getD, List.getElem?_eq_getElem (by omega)]
    rfl
  rw [e]
  exact ⟨pad_get s i _ _, pad_byte s i _ (List.getElem_mem _)⟩
theorem spec_put (s : ByteArray) (i : Nat) (b : Int) (hb : 0 ≤ b) (hb1 : b ≤ 1) : strOfNums (spec_TextBitPut.upd (impl_TextBitPut.pad s i) i b) = putb s i b := by
  have h := rd_pad s i
  unfold putb spec_TextBitPut.upd impl_TextBitPut.upd
  rw [one_eq h.2.1 h.2.2 hb hb1]
theorem putb_size (s : ByteArray) (i : Nat) (b : Int) : (putb s i b).size = max s.size (i / 8 + 1) := by
  unfold putb impl_TextBitPut.upd
  rw [str_size, List.length_set, pad_len]
theorem putb_bit (s : ByteArray) (i : Nat) (b : Int) (hb : 0 ≤ b) (hb1 : b ≤ 1) (n : Nat) : gb (putb s i b) n = if n = i then b else gb s n := by
  have hr := rd_pad s i
  have hl := pad_len s i
  have ho := one_le (i := (i : Int)) hr.2.1 hr.2.2 hb hb1
  have hbyte : ∀ x ∈ impl_TextBitPut.upd (impl_TextBitPut.pad s i) i b, 0 ≤ x ∧ x ≤ 255 := by
    intro x hx
    unfold impl_TextBitPut.upd at hx
    rcases List.mem_or_eq_of_mem_set hx with h | rfl
    · exact pad_byte s i x h
    · exact ho
  have hlen : (impl_TextBitPut.upd (impl_TextBitPut.pad s i) i b).length = max s.size (i / 8 + 1) := by
    unfold impl_TextBitPut.upd
    rw [List.length_set, hl]
  unfold gb
  rw [putb_size]
  by_cases hn : n / 8 < max s.size (i / 8 + 1)
  · rw [if_pos hn]
    have e : bt (putb s i b) (n / 8 : Nat) = if n / 8 = i / 8 then impl_TextBitPut.one (rd (impl_TextBitPut.pad s i) ((i : Int) / 8)) i b else if n / 8 < s.size then bt s (n / 8 : Nat) else 0 := by
      unfold putb
      rw [str_bt _ hbyte _ (by omega)]
      have : ((i : Int)).toNat / 8 = i / 8 := by omega
      simp only [impl_TextBitPut.upd, this]
      by_cases e : n / 8 = i / 8
      · rw [if_pos e]
        simp [e]
      · rw [if_neg e, List.getElem_set_ne (by omega), pad_get]
    rw [e]
    by_cases e1 : n / 8 = i / 8
    · rw [if_pos e1, one_bit hr.2.1 hr.2.2 hb hb1 (n % 8) (by omega)]
      by_cases e2 : n = i
      · subst e2
        rw [if_pos rfl, if_pos rfl]
      · rw [if_neg e2, if_neg (by omega), hr.1, ← e1]
        by_cases e3 : n / 8 < s.size
        · rw [if_pos e3, if_pos e3]
        · rw [if_neg e3, if_neg e3]
          simp
    · rw [if_neg e1, if_neg (show ¬ n = i by omega)]
      by_cases e3 : n / 8 < s.size
      · rw [if_pos e3, if_pos e3]
      · rw [if_neg e3, if_neg e3]
        simp
  · rw [if_neg hn, if_neg (show ¬ n = i by omega), if_neg (by omega)]
end Go.Proofs.Ytpokafkkfdponaa.UFnTextBit
