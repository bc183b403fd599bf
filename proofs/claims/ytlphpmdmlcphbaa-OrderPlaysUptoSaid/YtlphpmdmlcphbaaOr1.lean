/- Seat E: lists of names and vocabularies in memory. -/
import Derived.Test.YtlphpmdmlcphbaaOm
import Derived.Test.YtlphpmdmlcphbaaWMore
import Derived.Test.YtlphpmdmlcphbaaWWords
import Derived.Laws.AppendOwn
import Derived.Lib.OwnKind
import Derived.ArgAppend
namespace Go.Proofs.Ytlphpmdmlcphbaa.Or
open Go.RowKit Go.Proofs.Ytlphpmdmlcphbaa.Mem Go.Proofs.YtlphpmdmlcphbaaW.PrintWords Go.Maps Go.Proofs.Ytlphpmdmlcphbaa.Om
set_option linter.unusedVariables false
set_option linter.unusedSimpArgs false
abbrev Vo := ByteArray × List ByteArray
abbrev kV : Kd Vo := Kd.pair Kd.string (Kd.slice 9 Kd.string)
/-- Vocabulary k of a list. -/
theorem vocab_at {w : World} {A : Option Addr} {n : Nat} {l : List Vo} (h : kV.C w A n l) (hn : n = l.length) (k : Nat) (hk : k < l.length) :
    ∃ ad Au cu, A = some ad ∧ w.cell? (ad.add (k * 2)) = some (.string (l[k]).1) ∧ w.cell? ⟨(ad.add (k * 2)).block, (ad.add (k * 2)).off + 1, none⟩ = some (.slice Au (l[k]).2.length cu) ∧
      Kd.string.C w Au (l[k]).2.length (l[k]).2 ∧ (l[k]).2.length ≤ cu := by
  obtain ⟨ad, c, rfl, hc, hK, hcell⟩ := Kd.C_get h (ByteArray.empty, []) (k : Int) (by omega) (by omega)
  have hx : l.getD (k : Int).toNat (ByteArray.empty, []) = l[k] := by simp [hk]
  rw [hx] at hK
  obtain ⟨c0, c1, rfl, h0, ⟨Au, cu, rfl, hu, hC⟩⟩ := hK
  obtain rfl : c0 = [.string (l[k]).1] := h0
  refine ⟨ad, Au, cu, rfl, ?_, ?_, hC, hu⟩
  · have := hcell 0 (.string (l[k]).1) rfl
    simpa [kV, Kd.pair, Kd.string, Kd.slice, Kd.scalar] using this
  · have := hcell 1 (.slice Au (l[k]).2.length cu) rfl
    rw [← this]
    congr 1
    simp [kV, Kd.pair, Kd.string, Kd.slice, Kd.scalar, Addr.add]
    split <;> simp_all <;> omega
/-- Nil, or a plain address. -/
def Flat (A : Option Addr) (c : Nat) : Prop := (A = none ∧ c = 0) ∨ ∃ b o, A = some ⟨b, o, none⟩
/-- A list of vocabularies whose lists of names have plain addresses. -/
def VC (w : World) (A : Option Addr) (l : List Vo) : Prop := ∀ (k : Nat) (hk : k < l.length), ∃ ad Au cu, A = some ad ∧ w.cell? (ad.add (k * 2)) = some (.string (l[k]).1) ∧ w.cell? ⟨(ad.add (k * 2)).block, (ad.add (k * 2)).off + 1, none⟩ = some (.slice Au (l[k]).2.length cu) ∧
      Kd.string.C w Au (l[k]).2.length (l[k]).2 ∧ (l[k]).2.length ≤ cu ∧ Flat Au cu
/-- Name k of a list. -/
theorem name_at {w : World} {A : Option Addr} {n : Nat} {l : List ByteArray} (h : Kd.string.C w A n l) (hn : n = l.length) (k : Nat) (hk : k < l.length) :
    ∃ ad, A = some ad ∧ w.cell? (ad.add k) = some (.string l[k]) := by
  obtain ⟨ad, c, rfl, hc, hK, hcell⟩ := Kd.C_get h ByteArray.empty (k : Int) (by omega) (by omega)
  have hx : l.getD (k : Int).toNat ByteArray.empty = l[k] := by simp [hk]
  rw [hx] at hK
  obtain rfl : c = [.string l[k]] := hK
  refine ⟨ad, rfl, ?_⟩
  have := hcell 0 (.string l[k]) rfl
  simpa [Kd.string, Kd.scalar] using this
end Go.Proofs.Ytlphpmdmlcphbaa.Or
