/- The contract of pages.get32. -/
import Derived.Test.YtdpoifaeimmdmaaPagesH
namespace Go.Proofs.Ytdpoifaeimmdmaa.Hand
open Go.RowKit Go.Proofs.Ytdpoifaeimmdmaa.Mem Go.Proofs.Ytdpoifaeimmdmaa.Pure Go.Proofs.Ytdpoifaeimmdmaa.PSumPlays Go.Proofs.YtdpoifaeimmdmaaW.PrintWords
set_option linter.unusedVariables false
set_option linter.unusedSimpArgs false

theorem or_comm' (k : IntKind) (a b : Int) : Go.bits .or k a b = Go.bits .or k b a := by
  cases k <;> simp only [Go.bits] <;> rw [BitVec.or_comm]
theorem wraps_u32 (n : Int) (h0 : 0 ≤ n) (h1 : n < 2 ^ 32) : IntKind.u32.wrap n = n := by rw [IntKind.wrap_u32]; omega
theorem or32_8 (x y : Int) (hx : 0 ≤ x ∧ x < 256) (hy : 0 ≤ y ∧ y < 256) : Go.bits .or .u32 x (y * 256) = x + y * 256 := by
  rw [or_comm', bits_join .u32 32 (by decide) wraps_u32 8 (y * 256) x (by omega) (by omega) (by omega) hx.1 (by omega) (by omega)]; omega
theorem or32_16 (x y : Int) (hx : 0 ≤ x ∧ x < 65536) (hy : 0 ≤ y ∧ y < 256) : Go.bits .or .u32 x (y * 65536) = x + y * 65536 := by
  rw [or_comm', bits_join .u32 32 (by decide) wraps_u32 16 (y * 65536) x (by omega) (by omega) (by omega) hx.1 (by omega) (by omega)]; omega
theorem or32_24 (x y : Int) (hx : 0 ≤ x ∧ x < 16777216) (hy : 0 ≤ y ∧ y < 256) : Go.bits .or .u32 x (y * 16777216) = x + y * 16777216 := by
  rw [or_comm', bits_join .u32 32 (by decide) wraps_u32 24 (y * 16777216) x (by omega) (by omega) (by omega) hx.1 (by omega) (by omega)]; omega
theorem or32_all (x0 x1 x2 x3 : Int) (h0 : 0 ≤ x0 ∧ x0 < 256) (h1 : 0 ≤ x1 ∧ x1 < 256) (h2 : 0 ≤ x2 ∧ x2 < 256) (h3 : 0 ≤ x3 ∧ x3 < 256) :
    Go.bits .or .u32 (Go.bits .or .u32 (Go.bits .or .u32 x0 (x1 * 256)) (x2 * 65536)) (x3 * 16777216) = x0 + 256 * x1 + 65536 * x2 + 16777216 * x3 := by
  rw [or32_8 _ _ h0 h1, or32_16 _ _ (by omega) h2, or32_24 _ _ (by omega) h3]; omega
def ld32 (xs : List Int) : Int := xs.getD 0 0 + 256 * xs.getD 1 0 + 65536 * xs.getD 2 0 + 16777216 * xs.getD 3 0
theorem get32_any (ad : Addr) (n c : Nat) (x0 x1 x2 x3 : Int) (w : World) (h0 : w.cell? ad = some (.int .u8 x0)) (h1 : w.cell? (ad.add 1) = some (.int .u8 x1)) (h2 : w.cell? (ad.add 2) = some (.int .u8 x2)) (h3 : w.cell? (ad.add 3) = some (.int .u8 x3)) (hn : 4 ≤ n)
    (b0 : 0 ≤ x0) (b0' : x0 < 256) (b1 : 0 ≤ x1) (b1' : x1 < 256) (b2 : 0 ≤ x2) (b2' : x2 < 256) (b3 : 0 ≤ x3) (b3' : x3 < 256) :
    Calls Try.prog 40 #[.slice (some ad) n c] w fun e w' => e = .returned (.int .u32 (x0 + 256 * x1 + 65536 * x2 + 16777216 * x3)) ∧ ∃ m, w' = w.drewN m := by
  have hn0 : 0 < n := by omega
  simp only [Addr.add, Nat.reduceEqDiff, ↓reduceIte] at h1 h2 h3
  have hn1 : (1 : Int) < (n : Int) := by omega
  have hn2 : (2 : Int) < (n : Int) := by omega
  have hn3 : (3 : Int) < (n : Int) := by omega
  go_enter Try.func40, Try.ntmps40
  go_wp2
  go_quiet (fail)
  go_wp2
  go_ret
  exact ⟨by rw [or32_all _ _ _ _ ⟨b0, b0'⟩ ⟨b1, b1'⟩ ⟨b2, b2'⟩ ⟨b3, b3'⟩]; rfl, _, rfl⟩
theorem get32_row (A : Option Addr) (n c : Nat) (xs : List Int) (w : World) (hr : (Kd.int .u8).C w A n xs) (hn : 4 ≤ n) (hx : ∀ x ∈ xs, 0 ≤ x ∧ x < 256) :
    Calls Try.prog 40 #[.slice A n c] w fun e w' => e = .returned (.int .u32 (ld32 xs)) ∧ ∃ m, w' = w.drewN m := by
  have hl := hr.1
  obtain ⟨ad, rfl, hc⟩ := C_cells hr (by omega)
  have g : ∀ j, j < 4 → w.cell? (ad.add j) = some (.int .u8 (xs.getD j 0)) := fun j hj => hc j _ (icells_getD _ _ _ (by omega))
  have r : ∀ j, j < 4 → 0 ≤ xs.getD j 0 ∧ xs.getD j 0 < 256 := by
    intro j hj
    have : xs.getD j 0 = xs[j]'(by omega) := by simp [show j < xs.length by omega]
    rw [this]
    exact hx _ (List.getElem_mem _)
  have g0 := g 0 (by omega)
  rw [show ad.add 0 = ad from rfl] at g0
  exact get32_any ad n c _ _ _ _ w g0 (g 1 (by omega)) (g 2 (by omega)) (g 3 (by omega)) hn (r 0 (by omega)).1 (r 0 (by omega)).2 (r 1 (by omega)).1 (r 1 (by omega)).2 (r 2 (by omega)).1 (r 2 (by omega)).2 (r 3 (by omega)).1 (r 3 (by omega)).2
end Go.Proofs.Ytdpoifaeimmdmaa.Hand
