/- Slices of integers and of bools that come in, opened, where the bulk is bounded. -/
import Derived.Test.YtdpoifaeimmdmaaBulk
import Derived.Test.YtdpoifaeimmdmaaWSized
import Derived.Test.YtdpoifaeimmdmaaWWords
import Derived.OpenShut
import Derived.ChangeSlices
import Derived.ChangeOld
import Derived.Deep.Grids
namespace Go.Proofs.Ytdpoifaeimmdmaa.bulks
open Go.ChangeShapes Go.WideShapes Go.RowKit Go.Proofs.YtdpoifaeimmdmaaW.PrintWords
set_option linter.unusedSimpArgs false
set_option linter.unusedVariables false
variable {H : Type} {enc : TypeId × Value → H} {W : World} {P : Program}
theorem upto_ints {t e : TypeId} {k : IntKind} {a : Option Addr} {len cap : Nat} {d : DataW H} {p : List MemPlace} (ht : P.underlying t = some (.slice e)) (he : P.underlying e = some (.int k)) (hc : P.cellsOf e = 1)
    (h : DataW.Trod enc P W 0 (fun _ => true) true t (.slice a len cap) d p) (hb : Rows.uptoBulk d ≤ 1048576) :
    ∃ l : List Int, l.length = len ∧ len ≤ 1048576 ∧ len ≤ cap ∧ Kd.C (Kd.int k) W a len l ∧ ∀ x ∈ l, (Lit.int k x).wf = true := by
  obtain ⟨fuel, hf⟩ := h
  rcases open_ints ht he hc hf with ⟨hcs, hx⟩ | ⟨x, l, c, zs, hcs, _, hl, hm, hz, hx, hcell, hwz⟩
  · simp [Value.cells] at hcs
    obtain ⟨rfl, rfl, rfl⟩ := hcs
    exact ⟨[], rfl, by omega, by omega, Kd.C_of_reads (d := (0 : Int)) (h1 := fun _ => rfl) ⟨rfl, by omega, fun h => absurd h (by omega)⟩, by simp⟩
  · simp [Value.cells] at hcs
    obtain ⟨rfl, rfl, rfl⟩ := hcs
    obtain ⟨rfl, _⟩ := Prod.mk.inj hx
    have h2 := slice_le (H := H) (lits k (zs.take len)) (lits k (zs.drop len))
    have h3 := Nat.le_trans h2 hb
    simp only [if_true] at hz
    have hlen : (lits (H := H) k (zs.take len)).length = len := by simp [lits]; omega
    refine ⟨zs.take len, by simp; omega, by omega, hl, Kd.C_of_reads (d := (0 : Int)) (h1 := fun _ => rfl) ⟨by simp; omega, by omega, fun h => ⟨x, rfl, fun j hj => ?_⟩⟩, fun y hy => hwz y (List.mem_of_mem_take hy)⟩
    rw [hcell j (by omega)]
    simp [List.getD_eq_getElem?_getD, List.getElem?_take, hj]
theorem upto_bools {t e : TypeId} {a : Option Addr} {len cap : Nat} {d : DataW H} {p : List MemPlace} (ht : P.underlying t = some (.slice e)) (he : P.underlying e = some .bool) (hc : P.cellsOf e = 1)
    (h : DataW.Trod enc P W 0 (fun _ => true) true t (.slice a len cap) d p) (hb : Rows.uptoBulk d ≤ 1048576) :
    ∃ l : List Bool, l.length = len ∧ len ≤ 1048576 ∧ len ≤ cap ∧ Kd.C Kd.bool W a len l := by
  obtain ⟨fuel, hf⟩ := h
  rcases Go.Deep.open_bools ht he hc hf with ⟨hcs, hx⟩ | ⟨a, len, cap, B, hcs, _, hl, hm, hx, hcell⟩
  · simp [Value.cells] at hcs
    obtain ⟨rfl, rfl, rfl⟩ := hcs
    exact ⟨[], rfl, by omega, by omega, Kd.C_of_reads (d := false) (h1 := fun _ => rfl) ⟨rfl, by omega, fun h => absurd h (by omega)⟩⟩
  · simp [Value.cells] at hcs
    obtain ⟨rfl, rfl, rfl⟩ := hcs
    obtain ⟨rfl, _⟩ := Prod.mk.inj hx
    have h2 := slice_le (H := H) ((List.range len).map fun i => .lit (.bool (B i))) ((List.range (cap - len)).map fun j => .lit (.bool (B (len + j))))
    simp only [Go.Deep.boolRow] at hb
    have h3 := Nat.le_trans h2 hb
    simp only [List.length_map, List.length_range] at h3
    refine ⟨(List.range len).map B, by simp, by omega, hl, Kd.C_of_reads (d := false) (h1 := fun _ => rfl) ⟨by simp, by omega, fun h => ⟨a, rfl, fun j hj => ?_⟩⟩⟩
    rw [hcell j (by omega)]
    simp [hj]
end Go.Proofs.Ytdpoifaeimmdmaa.bulks
