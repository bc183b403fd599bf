/- The contract of pages.put32: four bytes of a block that is known whole. -/
import Derived.Test.YtdpoifaeimmdmaaProg
import Derived.Test.YtdpoifaeimmdmaaMem
namespace Go.Proofs.Ytdpoifaeimmdmaa.Hand
open Go.RowKit Go.Proofs.Ytdpoifaeimmdmaa.Mem
set_option linter.unusedVariables false
set_option linter.unusedSimpArgs false

/-- Byte k of a number, the lowest first. -/
def byteN (a : Int) (k : Nat) : Int := a / 2 ^ (8 * k) % 256
def le32 (a : Int) : List Int := [byteN a 0, byteN a 1, byteN a 2, byteN a 3]
def le (a : Int) (k : Nat) : List Int := (List.range k).map (byteN a)
theorem le_four (a : Int) : le a 4 = le32 a := rfl
theorem le_succ (a : Int) (k : Nat) : le a (k + 1) = le a k ++ [byteN a k] := by simp [le, List.range_succ]
theorem le_length (a : Int) (k : Nat) : (le a k).length = k := by simp [le]
theorem splice_nil {α : Type} (xs : List α) (o : Nat) : splice xs o [] = xs := by simp [splice]
theorem splice_snoc {α : Type} (xs : List α) (o : Nat) (ys : List α) (v : α) (h : o + ys.length < xs.length) : (splice xs o ys).set (o + ys.length) v = splice xs o (ys ++ [v]) := by
  unfold splice
  have h1 : (xs.take o).length = o := by simp; omega
  rw [List.set_append_right _ _ (by omega), h1, show o + ys.length - o = ys.length by omega, List.set_append_right _ _ (by omega), Nat.sub_self]
  have h2 : (xs.drop (o + ys.length)).set 0 v = v :: xs.drop (o + (ys ++ [v]).length) := by
    conv => lhs; rw [List.drop_eq_getElem_cons h]
    show v :: _ = v :: _
    rw [List.length_append, List.length_singleton, Nat.add_assoc]
  rw [h2]
  simp
theorem byteN_wrap (a : Int) (k : Nat) : IntKind.u8.wrap (a / 2 ^ (8 * k)) = byteN a k := by
  simp [byteN, IntKind.wrap, IntKind.bits, IntKind.signed]

set_option maxHeartbeats 1000000 in
theorem put32_any (g o n c : Nat) (xs : List Int) (a : Int) (w : World) (hb : Blk w g 5 (icells .u8 xs)) (ho : o + 4 ≤ xs.length) (hn : 4 ≤ n) (ha : 0 ≤ a) (ha2 : a < 4294967296) :
    Calls Try.prog 39 #[.slice (some ⟨g, o, none⟩) n c, .int .u32 a] w fun e w' => e = .returned (.tuple #[]) ∧ Blk w' g 5 (icells .u8 (splice xs o (le32 a))) ∧ Only w w' (fun k => k = g) := by
  have HB := Lib.hid hb
  clear hb
  have hn' : 4 ≤ (n : Int) := by omega
  go_enter Try.func39, Try.ntmps39
  go_wp2
  go_loopg [5] 4 (fun m i wr => ∃ k : Nat, i = .int .i64 k ∧ Aside1 (k + m = 4 ∧ Blk wr g 5 (icells .u8 (splice xs o (le a k))) ∧ Only w wr (fun j => j = g)))
  case atStart => exact ⟨0, rfl, ⟨rfl, by rw [show le a 0 = [] from rfl, splice_nil]; exact HB.out, Only.refl _ _⟩⟩
  case round =>
    obtain ⟨k, rfl, hA⟩ := hrel
    by_cases hk : k < 4
    · obtain ⟨hm, hB, hO⟩ := hA.out
      have hlen : o + k < (splice xs o (le a k)).length := by rw [length_splice _ _ _ (by rw [le_length]; omega)]; omega
      have hcell : wr.cell? ⟨g, o + k, none⟩ = some (.int .u8 ((splice xs o (le a k)).getD (o + k) 0)) := hB.cell_at _ _ (icells_getD _ _ _ hlen)
      have hfr : wr.frozen? ⟨g, o + k, none⟩ = false := hB.frozen _
      have h1 : (k : Int) < (n : Int) := by omega
      have h2 : (0 : Int) ≤ (k : Int) := by omega
      have hN : Blk (wr.setCell ⟨g, o + k, none⟩ (.int .u8 (byteN a k))) g 5 (icells .u8 (splice xs o (le a (k + 1)))) := by
        have h3 := hB.set_ (o + k) (.int .u8 (byteN a k))
        have h4 := splice_snoc xs o (le a k) (byteN a k) (by rw [le_length]; omega)
        rw [le_length] at h4
        rw [icells_set, h4, ← le_succ] at h3
        exact h3
      have hO2 : Only w (wr.setCell ⟨g, o + k, none⟩ (.int .u8 (byteN a k))) (fun j => j = g) := hO.setCell (fun _ => rfl) _
      have HN := Lib.hid hN
      have HO := Lib.hid hO2
      clear hN hO2 hB hO hA hlen
      go_wp2
      go_roundg (gk - 1)
      case measure => omega
      case rel => exact ⟨k + 1, by go_num, ⟨by omega, HN.out, HO.out⟩⟩
    · go_wp2
      go_end0
      obtain ⟨hm, hB, hO⟩ := hA.out
      have : k = 4 := by omega
      subst this
      exact ⟨rfl, by rw [← le_four]; exact hB, hO⟩
end Go.Proofs.Ytdpoifaeimmdmaa.Hand
