/-
  No cell of these rows narrows 'for every input' (looked for: loops, veiled, ifaces, maps, wideKeys, modest, calm, conditions, laid).
  DERIVED. THE GIVEN ROWS OF THIS SEAT. 4 by the template 'for every input the law returns true; each argument reads behind the call as it read before'; 0 by the template 'total and deterministic' (their statements: YteecbgfbhppoiaaTotals.lean).
  GIVEN WITH THE SEED: the statements are not yours to turn. If you find one false, say at which input.
  Laid BY PROGRAM, IN A SANDBOX (cutbox-rows.mjs): the forced cells as the released guide's own fill.sh prints them over the translation 5b897879777fb013… (all of the seat's roots in one cut). By AI agents, Wed Nov 11 2026. No macro, syntax, notation, axiom, sorry.
-/
import Derived.Test.YteecbgfbhppoiaaChecked
import GoSem.Claim
import GoSem.ClaimJoined
import GoSem.ClaimMapViews
import Derived.JoinedTies
import Derived.KernelRfl
namespace Go.Proofs.Yteecbgfbhppoiaa
/- THE CELL 'sum', in the pinned program and in every row, IS THE sha256 OF THE DUMP (.gsa) THAT YteecbgfbhppoiaaProg.lean LOADS. Nothing in Lean hashes anything: it is a label: what it is worth is what the hold of that sum in a sandbox is worth. -/
noncomputable def Try.pinned : Pinned := { name := "yteecbgfbhppoiaa", sum := "5b897879777fb01353fee5c3ab335938623acb17a27249340231dbdb95dad0a4", checked := Try.checked }
namespace Rows
def none {H : Type} : Left H := { results := [], args := [] }

/-- 'quirelaw05.CellPlays': WHATEVER THE INPUT: true; the input reads as it did. -/
def cellPlaysSpec : ChangeSpec := { name := "cellPlays", fn := fun _ => fun
  | [d1, d2, d3] => { results := [.lit (.bool true)], args := [d1, d2, d3] }
  | _ => none }
def cellPlaysRow : OpenClaim := { program := "yteecbgfbhppoiaa", sum := "5b897879777fb01353fee5c3ab335938623acb17a27249340231dbdb95dad0a4", func := "quire/quirelaw05.CellPlays", spec := "cellPlays", apart := false }
def CellPlaysSaid : Prop := cellPlaysRow.holds Try.pinned (OpenSpec.ofChange cellPlaysSpec)

/-- ITS FALSE NEIGHBOUR: 'it returns false'. Refute it at one input. -/
def cellPlaysWrong : ChangeSpec := { name := "cellPlays", fn := fun _ => fun
  | [d1, d2, d3] => { results := [.lit (.bool false)], args := [d1, d2, d3] }
  | _ => none }
def CellPlaysWrongFalsely : Prop := cellPlaysRow.holds Try.pinned (OpenSpec.ofChange cellPlaysWrong)

/-- 'quirelaw05.CellBack': WHATEVER THE INPUT: true; the input reads as it did. -/
def cellBackSpec : ChangeSpec := { name := "cellBack", fn := fun _ => fun
  | [d1, d2, d3] => { results := [.lit (.bool true)], args := [d1, d2, d3] }
  | _ => none }
def cellBackRow : OpenClaim := { program := "yteecbgfbhppoiaa", sum := "5b897879777fb01353fee5c3ab335938623acb17a27249340231dbdb95dad0a4", func := "quire/quirelaw05.CellBack", spec := "cellBack", apart := false }
def CellBackSaid : Prop := cellBackRow.holds Try.pinned (OpenSpec.ofChange cellBackSpec)

/-- ITS FALSE NEIGHBOUR: 'it returns false'. Refute it at one input. -/
def cellBackWrong : ChangeSpec := { name := "cellBack", fn := fun _ => fun
  | [d1, d2, d3] => { results := [.lit (.bool false)], args := [d1, d2, d3] }
  | _ => none }
def CellBackWrongFalsely : Prop := cellBackRow.holds Try.pinned (OpenSpec.ofChange cellBackWrong)

/-- 'quirelaw05.CellArith': WHATEVER THE INPUT: true; the input reads as it did. -/
def cellArithSpec : ChangeSpec := { name := "cellArith", fn := fun _ => fun
  | [d1, d2, d3] => { results := [.lit (.bool true)], args := [d1, d2, d3] }
  | _ => none }
def cellArithRow : OpenClaim := { program := "yteecbgfbhppoiaa", sum := "5b897879777fb01353fee5c3ab335938623acb17a27249340231dbdb95dad0a4", func := "quire/quirelaw05.CellArith", spec := "cellArith", apart := false }
def CellArithSaid : Prop := cellArithRow.holds Try.pinned (OpenSpec.ofChange cellArithSpec)

/-- ITS FALSE NEIGHBOUR: 'it returns false'. Refute it at one input. -/
def cellArithWrong : ChangeSpec := { name := "cellArith", fn := fun _ => fun
  | [d1, d2, d3] => { results := [.lit (.bool false)], args := [d1, d2, d3] }
  | _ => none }
def CellArithWrongFalsely : Prop := cellArithRow.holds Try.pinned (OpenSpec.ofChange cellArithWrong)

/-- 'quirelaw05.CellLaws': WHATEVER THE INPUT: true; the input reads as it did. -/
def cellLawsSpec : ChangeSpec := { name := "cellLaws", fn := fun _ => fun
  | [d1, d2] => { results := [.lit (.bool true)], args := [d1, d2] }
  | _ => none }
def cellLawsRow : OpenClaim := { program := "yteecbgfbhppoiaa", sum := "5b897879777fb01353fee5c3ab335938623acb17a27249340231dbdb95dad0a4", func := "quire/quirelaw05.CellLaws", spec := "cellLaws", apart := false }
def CellLawsSaid : Prop := cellLawsRow.holds Try.pinned (OpenSpec.ofChange cellLawsSpec)

/-- ITS FALSE NEIGHBOUR: 'it returns false'. Refute it at one input. -/
def cellLawsWrong : ChangeSpec := { name := "cellLaws", fn := fun _ => fun
  | [d1, d2] => { results := [.lit (.bool false)], args := [d1, d2] }
  | _ => none }
def CellLawsWrongFalsely : Prop := cellLawsRow.holds Try.pinned (OpenSpec.ofChange cellLawsWrong)

/- THE SECOND FORM. 'bulk': how many values and letters a reading holds, each counted each time it is reached (what is shared counts as often as it is met; a slice's spare places count too). A statement '..UptoSaid' is the law's where the arguments, and the package variables that the reading takes, are together of bulk at most 1048576: NARROWER than '..Said'. Prove '..Said' where nothing that the law and all that it calls make is longer than what came in: it says more and counts as full. Else prove '..UptoSaid'. A law counts once. -/
mutual
def uptoBulk {H : Type} : DataW H → Nat
  | .lit (.string bytes) => bytes.length + 1
  | .lit _ => 1
  | .nil => 1
  | .ptr d => uptoBulk d + 1
  | .slice elems spare => uptoBulkAll elems + uptoBulkAll spare + 1
  | .agg parts => uptoBulkAll parts + 1
  | .iface _ d => uptoBulk d + 1
  | .map entries => uptoBulkEntries entries + 1
  | .held _ => 1
def uptoBulkAll {H : Type} : List (DataW H) → Nat
  | [] => 0
  | d :: r => uptoBulk d + uptoBulkAll r
def uptoBulkEntries {H : Type} : List (Lit × DataW H) → Nat
  | [] => 0
  | x :: r => uptoBulkEntry x + uptoBulkEntries r
def uptoBulkEntry {H : Type} : Lit × DataW H → Nat
  | (.string bytes, d) => bytes.length + uptoBulk d + 1
  | (_, d) => uptoBulk d + 1
 end
def uptoSmall : (H : Type) → List (DataW H) → Bool := fun _ ds => decide (uptoBulkAll ds ≤ 1048576)
def OpenSpec.upto (s : _root_.Go.ChangeSpec) : _root_.Go.OpenSpec := { _root_.Go.OpenSpec.ofChange s with cond := some uptoSmall }

/-- 'quirelaw05.CellPlays', WHERE WHAT IT READS IS OF BULK AT MOST 1048576: true; the input reads as it did. -/
def cellPlaysUptoRow : OpenClaim := { program := "yteecbgfbhppoiaa", sum := "5b897879777fb01353fee5c3ab335938623acb17a27249340231dbdb95dad0a4", func := "quire/quirelaw05.CellPlays", spec := "cellPlays", apart := false, narrowed := true }
def CellPlaysUptoSaid : Prop := cellPlaysUptoRow.holds Try.pinned (OpenSpec.upto cellPlaysSpec)

/-- 'quirelaw05.CellBack', WHERE WHAT IT READS IS OF BULK AT MOST 1048576: true; the input reads as it did. -/
def cellBackUptoRow : OpenClaim := { program := "yteecbgfbhppoiaa", sum := "5b897879777fb01353fee5c3ab335938623acb17a27249340231dbdb95dad0a4", func := "quire/quirelaw05.CellBack", spec := "cellBack", apart := false, narrowed := true }
def CellBackUptoSaid : Prop := cellBackUptoRow.holds Try.pinned (OpenSpec.upto cellBackSpec)

/-- 'quirelaw05.CellArith', WHERE WHAT IT READS IS OF BULK AT MOST 1048576: true; the input reads as it did. -/
def cellArithUptoRow : OpenClaim := { program := "yteecbgfbhppoiaa", sum := "5b897879777fb01353fee5c3ab335938623acb17a27249340231dbdb95dad0a4", func := "quire/quirelaw05.CellArith", spec := "cellArith", apart := false, narrowed := true }
def CellArithUptoSaid : Prop := cellArithUptoRow.holds Try.pinned (OpenSpec.upto cellArithSpec)

/-- 'quirelaw05.CellLaws', WHERE WHAT IT READS IS OF BULK AT MOST 1048576: true; the input reads as it did. -/
def cellLawsUptoRow : OpenClaim := { program := "yteecbgfbhppoiaa", sum := "5b897879777fb01353fee5c3ab335938623acb17a27249340231dbdb95dad0a4", func := "quire/quirelaw05.CellLaws", spec := "cellLaws", apart := false, narrowed := true }
def CellLawsUptoSaid : Prop := cellLawsUptoRow.holds Try.pinned (OpenSpec.upto cellLawsSpec)

end Rows
end Go.Proofs.Yteecbgfbhppoiaa
