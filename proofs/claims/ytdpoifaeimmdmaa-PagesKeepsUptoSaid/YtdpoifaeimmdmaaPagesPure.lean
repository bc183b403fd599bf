/- The plain law of pages: what was packed is unpacked as it was; a byte that is turned is told. -/
import Derived.Test.YtdpoifaeimmdmaaUnpack2
namespace Go.Proofs.Ytdpoifaeimmdmaa.Pp
open Go.RowKit Go.Proofs.Ytdpoifaeimmdmaa.Hand Go.Proofs.Ytdpoifaeimmdmaa.Crc Go.Proofs.Ytdpoifaeimmdmaa.Pure
set_option linter.unusedVariables false
set_option linter.unusedSimpArgs false

theorem byteN_0 (a : Int) : byteN a 0 = a % 256 := by simp [byteN]
theorem byteN_1 (a : Int) : byteN a 1 = a / 256 % 256 := by simp [byteN]
theorem byteN_2 (a : Int) : byteN a 2 = a / 65536 % 256 := by simp [byteN]
theorem byteN_3 (a : Int) : byteN a 3 = a / 16777216 % 256 := by simp [byteN]
theorem ld32_le32 (a : Int) (h : 0 ≤ a ∧ a < 4294967296) (t : List Int) : ld32 (le32 a ++ t) = a := by
  unfold ld32 le32
  simp only [List.cons_append, List.getD_cons_zero, List.getD_cons_succ]
  rw [byteN_0, byteN_1, byteN_2, byteN_3]
  omega
theorem drop4 (a : Int) (t : List Int) : (le32 a ++ t).drop 4 = t := rfl
theorem packed_length (id : Int) (data : List Int) (h : data.length ≤ 116) : (packed id data).length = 128 := by
  rw [packed, List.length_append, rest_length id data h]; rfl
theorem packed_bytes (id : Int) (data : List Int) (hd : ∀ x ∈ data, 0 ≤ x ∧ x < 256) : ∀ x ∈ packed id data, 0 ≤ x ∧ x < 256 := by
  intro x hx
  rcases List.mem_append.1 hx with h | h
  · exact le32_bytes _ x h
  · exact rest_bytes id data hd x h
theorem unp_packed (id : Int) (data : List Int) (hid : 0 ≤ id ∧ id < 4294967296) (h : data.length ≤ 116) : unp (packed id data) = (id, data, 0) := by
  have h1 : ld32 (packed id data) = sumOf ((packed id data).drop 4) := by
    rw [packed, ld32_le32 _ (sumOf_range _), drop4]
  have h2 : (packed id data).drop 8 = le32 data.length ++ (data ++ zeros (116 - data.length)) := rfl
  have h3 : ld32 ((packed id data).drop 8) = data.length := by rw [h2, ld32_le32 _ (by omega)]
  have h4 : ld32 ((packed id data).drop 4) = id := by
    have : (packed id data).drop 4 = le32 id ++ (le32 data.length ++ (data ++ zeros (116 - data.length))) := rfl
    rw [this, ld32_le32 _ hid]
  have h5 : (packed id data).drop 12 = data ++ zeros (116 - data.length) := rfl
  have h6 : (packed id data).drop (12 + data.length) = zeros (116 - data.length) := by
    rw [← List.drop_drop, h5, List.drop_left]
  unfold unp
  rw [if_neg (by rw [packed_length id data h]; omega), if_neg (by rw [h3]; intro hh; rcases hh with hh | hh; exact hh h1; omega), h3, Int.toNat_natCast, h6, if_pos (List.all_eq_true.2 (fun x hx => by rw [List.eq_of_mem_replicate hx]; rfl)), h4, h5, List.take_left]
theorem by8_inj {a b : Int} (ha : 0 ≤ a ∧ a < 256) (hb : 0 ≤ b ∧ b < 256) (h : by8 a = by8 b) : a = b := by
  have h1 := by8_nat ha
  have h2 := by8_nat hb
  rw [h] at h1
  omega
theorem xor_cancel {a b c : BitVec 32} (h : a ^^^ b = a ^^^ c) : b = c := by
  have : a ^^^ (a ^^^ b) = a ^^^ (a ^^^ c) := by rw [h]
  rwa [← BitVec.xor_assoc, BitVec.xor_self, BitVec.zero_xor, ← BitVec.xor_assoc, BitVec.xor_self, BitVec.zero_xor] at this
theorem xor_zero_eq {a b : BitVec 32} (h : a ^^^ b = 0#32) : a = b := by
  have : a ^^^ b = a ^^^ a := by rw [h, BitVec.xor_self]
  exact (xor_cancel this).symm
theorem crc_inj_head (l : List Int) (r s : BitVec 32) (h : crc r l = crc s l) : r = s := by
  have h1 := crc_diff l r (r ^^^ s)
  rw [← BitVec.xor_assoc, BitVec.xor_self, BitVec.zero_xor, h] at h1
  have h2 : rn (8 * l.length) (r ^^^ s) = 0#32 := by
    have : crc s l ^^^ crc s l = crc s l ^^^ (crc s l ^^^ rn (8 * l.length) (r ^^^ s)) := by rw [← h1]
    rw [BitVec.xor_self, ← BitVec.xor_assoc, BitVec.xor_self, BitVec.zero_xor] at this
    exact this.symm
  exact xor_zero_eq (rn_ker _ _ h2)
theorem bstep_inj {r : BitVec 32} {a b : Int} (ha : 0 ≤ a ∧ a < 256) (hb : 0 ≤ b ∧ b < 256) (h : bstep r a = bstep r b) : a = b := by
  unfold bstep at h
  have h1 : rn 8 ((r ^^^ by8 a) ^^^ (r ^^^ by8 b)) = 0#32 := by rw [rn_xor, h, BitVec.xor_self]
  have h2 := xor_zero_eq (rn_ker _ _ h1)
  exact by8_inj ha hb (xor_cancel h2)
theorem sumOf_inj {a b : List Int} (h : sumOf a = sumOf b) : crc (BitVec.allOnes 32) a = crc (BitVec.allOnes 32) b := by
  unfold sumOf at h
  have : BitVec.allOnes 32 ^^^ crc (BitVec.allOnes 32) a = BitVec.allOnes 32 ^^^ crc (BitVec.allOnes 32) b := BitVec.eq_of_toNat_eq (by exact_mod_cast h)
  exact xor_cancel this
/-- The sum tells one byte that differs. -/
theorem sum_set (l : List Int) (hl : ∀ x ∈ l, 0 ≤ x ∧ x < 256) (k : Nat) (hk : k < l.length) (v : Int) (hv : 0 ≤ v ∧ v < 256) (h : sumOf (l.set k v) = sumOf l) : v = l[k] := by
  have h1 := sumOf_inj h
  have e1 : l = l.take k ++ l[k] :: l.drop (k + 1) := by rw [← List.drop_eq_getElem_cons hk, List.take_append_drop]
  have e2 : l.set k v = l.take k ++ v :: l.drop (k + 1) := by
    conv => lhs; rw [e1]
    rw [List.set_append_right _ _ (by rw [List.length_take]; exact Nat.min_le_left _ _), List.length_take, Nat.min_eq_left (by omega), Nat.sub_self]
    rfl
  rw [e2] at h1
  conv at h1 => rhs; rw [e1]
  rw [crc_append, crc_append, crc_cons, crc_cons] at h1
  exact bstep_inj hv (hl _ (List.getElem_mem hk)) (crc_inj_head _ _ _ h1)
theorem ld32_set (l : List Int) (hl : ∀ x ∈ l, 0 ≤ x ∧ x < 256) (hn : 4 ≤ l.length) (k : Nat) (hk : k < 4) (v : Int) (hv : 0 ≤ v ∧ v < 256) (h : ld32 (l.set k v) = ld32 l) : v = l[k]'(by omega) := by
  have r : ∀ j, j < 4 → 0 ≤ l.getD j 0 ∧ l.getD j 0 < 256 := by
    intro j hj
    have : l.getD j 0 = l[j]'(by omega) := by simp [show j < l.length by omega]
    rw [this]; exact hl _ (List.getElem_mem _)
  have r0 := r 0 (by omega)
  have r1 := r 1 (by omega)
  have r2 := r 2 (by omega)
  have r3 := r 3 (by omega)
  have hget : l.getD k 0 = l[k]'(by omega) := by simp [show k < l.length by omega]
  have hs : ∀ j, (l.set k v).getD j 0 = if k = j then v else l.getD j 0 := by
    intro j
    by_cases e : k = j
    · subst e; simp [show k < l.length by omega]
    · simp [e, List.getElem?_set_ne e]
  unfold ld32 at h
  rw [hs 0, hs 1, hs 2, hs 3] at h
  rw [← hget]
  obtain rfl | rfl | rfl | rfl : k = 0 ∨ k = 1 ∨ k = 2 ∨ k = 3 := by omega
  all_goals simp only [↓reduceIte, Nat.reduceEqDiff, Nat.zero_ne_one, Nat.one_ne_zero, reduceCtorEq] at h
  all_goals omega
theorem unp_turned (b : List Int) (hl : b.length = 128) (hb : ∀ x ∈ b, 0 ≤ x ∧ x < 256) (hs : ld32 b = sumOf (b.drop 4)) (k : Nat) (hk : k < 128) (v : Int) (hv : 0 ≤ v ∧ v < 256) (hne : v ≠ b[k]'(by omega)) : (unp (b.set k v)).2.2 = 5 := by
  have hbad : ld32 (b.set k v) ≠ sumOf ((b.set k v).drop 4) := by
    by_cases k4 : k < 4
    · rw [List.drop_set_of_lt (by omega), ← hs]
      intro h
      exact hne (ld32_set b hb (by omega) k k4 v hv h)
    · have e : (b.set k v).drop 4 = (b.drop 4).set (k - 4) v := by rw [List.drop_set, if_neg (by omega)]
      have e2 : ld32 (b.set k v) = ld32 b := by
        unfold ld32
        have : ∀ j, j < 4 → (b.set k v).getD j 0 = b.getD j 0 := by
          intro j hj
          rw [List.getD_eq_getElem?_getD, List.getElem?_set_ne (by omega), List.getD_eq_getElem?_getD]
        rw [this 0 (by omega), this 1 (by omega), this 2 (by omega), this 3 (by omega)]
      rw [e, e2, hs]
      intro h
      have h2 := sum_set (b.drop 4) (drop_bytes hb 4) (k - 4) (by rw [List.length_drop]; omega) v hv h.symm
      apply hne
      rw [h2, List.getElem_drop]
      congr 1
      omega
  unfold unp
  rw [if_neg (by rw [List.length_set]; omega), if_pos (.inl hbad)]
end Go.Proofs.Ytdpoifaeimmdmaa.Pp
