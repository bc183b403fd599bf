/- What was packed is unpacked as it was; with a byte changed ahead of the length, or behind it, it is told. No condition but that the values are of their kinds. -/
import Derived.Test.YtdpoifaeimmdmaaPPagesBackx1
import Derived.Test.YtdpoifaeimmdmaaPagesPure
namespace Go.Proofs.Ytdpoifaeimmdmaa.Pure
set_option linter.unusedVariables false
set_option linter.unusedSimpArgs false
open Go.RowKit Go.Proofs.YtdpoifaeimmdmaaW.PrintWords
namespace PagesBackP
open Go.Proofs.Ytdpoifaeimmdmaa.Hand Go.Proofs.Ytdpoifaeimmdmaa.Pp
theorem own_eq3 (xs : List Int) (hn : xs.length ≤ 140737488351232) : PPagesBack.quirelaw03_own.f xs = some xs := by
  unfold PPagesBack.quirelaw03_own.f
  rw [Option.bind_some, if_pos (by simp; omega)]
  rfl
theorem all_b {xs : List Int} (h : ∀ x ∈ xs, 0 ≤ x ∧ x < 256) : (xs.all fun x => decide (0 ≤ x) && decide (x < 256)) = true := by
  rw [List.all_eq_true]
  intro x hx
  have := h x hx
  simp [this]
theorem pack_f (a : Int) (xs : List Int) (ha : 0 ≤ a ∧ a < 4294967296) (h : ∀ x ∈ xs, 0 ≤ x ∧ x < 256) : PPagesBack.pages_Pack.f a xs = some (pck a xs) := by
  unfold PPagesBack.pages_Pack.f
  rw [if_pos ha.1, if_pos ha.2, if_pos (all_b h)]
theorem unpack_f (xs : List Int) (h : ∀ x ∈ xs, 0 ≤ x ∧ x < 256) : PPagesBack.pages_Unpack.f xs = some (unp xs) := by
  unfold PPagesBack.pages_Unpack.f
  rw [if_pos (all_b h)]
theorem awake3 : PPagesBack.quirelaw03_awake.f = some true := by
  unfold PPagesBack.quirelaw03_awake.f
  rw [pack_f 7 [1] (by omega) (by intro x hx; simp at hx; omega)]
  have hp : pck 7 [1] = (packed 7 [1], 0) := if_pos (by decide)
  have hl := packed_length 7 [1] (by decide)
  rw [hp]
  simp only [Option.bind_some, if_true]
  have hr : rd (packed 7 [1]) 4 = 7 := by decide
  rw [hl, if_pos (show ((128 : Nat) : Int) = 128 from rfl), if_pos (by decide), hr]
  rfl
theorem same_l0' (xs : List Int) (hn : xs.length ≤ 140737488355328) (d : Nat) : ∀ (k i : Nat), i + d = xs.length → d + 1 ≤ k → PPagesBack.quireref01_SameBytes.l0 k xs xs (i : Int) = some true := by
  induction d with
  | zero =>
    intro k i h hk
    obtain ⟨k, rfl⟩ : ∃ m, k = m + 1 := ⟨k - 1, by omega⟩
    rw [PPagesBack.quireref01_SameBytes.l0, if_neg (by omega)]
  | succ d ih =>
    intro k i h hk
    obtain ⟨k, rfl⟩ : ∃ m, k = m + 1 := ⟨k - 1, by omega⟩
    rw [PPagesBack.quireref01_SameBytes.l0, if_pos (by omega), if_pos (by omega), if_pos (by omega), if_pos rfl, w64 (by omega) (by omega), show (i : Int) + 1 = ((i + 1 : Nat) : Int) by omega]
    exact ih k (i + 1) (by omega) (by omega)
theorem same_self' (xs : List Int) (hn : xs.length ≤ 140737488355328) (k : Nat) (hk : xs.length + 1 ≤ k) : PPagesBack.quireref01_SameBytes.f k xs xs = some true := by
  unfold PPagesBack.quireref01_SameBytes.f
  rw [if_pos rfl]
  exact same_l0' xs hn xs.length k 0 (by omega) hk
theorem bxor8 {a b : Int} (ha : 0 ≤ a ∧ a < 256) (hb : 0 ≤ b ∧ b < 256) : (0 ≤ Go.bits .xor .u8 a b ∧ Go.bits .xor .u8 a b < 256) ∧ (Go.bits .xor .u8 a b = a ↔ b = 0) := by
  have e := u8_xor a b ha.1 ha.2 hb.1 hb.2
  have hlt : a.toNat ^^^ b.toNat < 2 ^ 8 := Nat.xor_lt_two_pow (by omega) (by omega)
  rw [e]
  refine ⟨by omega, ?_⟩
  constructor
  · intro h
    have h1 : a.toNat ^^^ b.toNat = a.toNat := by omega
    have h2 : a.toNat ^^^ (a.toNat ^^^ b.toNat) = a.toNat ^^^ a.toNat := by rw [h1]
    rw [← Nat.xor_assoc, Nat.xor_self, Nat.zero_xor] at h2
    omega
  · rintro rfl
    simp; omega
end PagesBackP
open PagesBackP Go.Proofs.Ytdpoifaeimmdmaa.Hand Go.Proofs.Ytdpoifaeimmdmaa.Pp in
theorem PagesBack : PPagesBack.quirelaw03_PagesBack.Pure := by
  intro id data at_ x hid h1 h2 h3 hat hx
  have hid := wf_u32 hid
  have hat := wf_u8 hat
  have hx := wf_u8 hx
  have hd : ∀ y ∈ data, 0 ≤ y ∧ y < 256 := fun y hy => wf_u8 (h3 y hy)
  refine ⟨data.length + 1, ?_⟩
  unfold PPagesBack.quirelaw03_PagesBack.f
  rw [awake3]
  simp only [Option.bind_some, if_true]
  rw [own_eq3 data (by omega)]
  simp only [Option.bind_some]
  rw [pack_f id data hid hd]
  simp only [Option.bind_some]
  by_cases hl : data.length ≤ 116
  · have hp : pck id data = (packed id data, 0) := if_pos hl
    have hlen := packed_length id data hl
    have hb := packed_bytes id data hd
    rw [hp]
    simp only [if_true]
    rw [own_eq3 _ (by rw [hlen]; omega)]
    simp only [Option.bind_some]
    rw [unpack_f _ hb, unp_packed id data hid hl]
    simp only [Option.bind_some, if_true]
    rw [same_self' data (by omega) _ (Nat.le_refl _)]
    simp only [Option.bind_some, if_true]
    rw [hlen, if_neg (by decide)]
    have hk : Int.tmod (wrap64 at_) ((128 : Nat) : Int) = at_ % 128 := by
      rw [w64 (by omega) (by omega), Int.tmod_eq_emod_of_nonneg (by omega)]; rfl
    rw [hk, if_pos (by omega), if_pos (by omega)]
    obtain ⟨k, hk2⟩ := Int.eq_ofNat_of_zero_le (show 0 ≤ at_ % 128 by omega)
    rw [hk2, Int.toNat_natCast]
    have hk3 : k < 128 := by omega
    have hrd : rd (packed id data) (k : Int) = (packed id data)[k]'(by rw [hlen]; exact hk3) := by
      show (packed id data).getD k 0 = _
      simp [hlen, hk3]
    have hbk := hb _ (List.getElem_mem (show k < (packed id data).length by rw [hlen]; exact hk3))
    rw [hrd]
    obtain ⟨hv, hvx⟩ := bxor8 hbk hx
    have hbs : ∀ y ∈ (packed id data).set k (Go.bits .xor .u8 ((packed id data)[k]'(by rw [hlen]; exact hk3)) x), 0 ≤ y ∧ y < 256 := by
      intro y hy
      rcases List.mem_or_eq_of_mem_set hy with hy | hy
      · exact hb y hy
      · rw [hy]; exact hv
    rw [unpack_f _ hbs]
    simp only [Option.bind_some]
    by_cases hx0 : x = 0
    · have e : Go.bits .xor .u8 ((packed id data)[k]'(by rw [hlen]; exact hk3)) x = (packed id data)[k]'(by rw [hlen]; exact hk3) := hvx.2 hx0
      rw [e, List.set_getElem_self, unp_packed id data hid hl, hx0]
      rfl
    · have hs : ld32 (packed id data) = sumOf ((packed id data).drop 4) := by
        rw [packed, ld32_le32 _ (sumOf_range _), drop4]
      rw [unp_turned _ hlen hb hs k hk3 _ hv (fun h => hx0 (hvx.1 h))]
      simp [hx0]
  · have hp : pck id data = ([], 11) := if_neg hl
    rw [hp]
    simp only [if_true]
    rw [if_neg (by decide), if_pos (by omega)]
    rfl
end Go.Proofs.Ytdpoifaeimmdmaa.Pure
