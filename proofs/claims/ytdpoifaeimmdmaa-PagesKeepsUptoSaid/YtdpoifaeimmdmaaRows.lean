/-
  No cell of these rows narrows 'for every input' (looked for: loops, veiled, ifaces, maps, wideKeys, modest, calm, conditions, laid).
  DERIVED. THE GIVEN ROWS OF THIS SEAT. 10 by the template 'for every input the law returns true; each argument reads behind the call as it read before'; 0 by the template 'total and deterministic' (their statements: YtdpoifaeimmdmaaTotals.lean).
  GIVEN WITH THE SEED: the statements are not yours to turn. If you find one false, say at which input.
  Laid BY PROGRAM, IN A SANDBOX (cutbox-rows.mjs): the forced cells as the released guide's own fill.sh prints them over the translation 46aa02ada12ec51e… (all of the seat's roots in one cut). By AI agents, Wed Nov 11 2026. No macro, syntax, notation, axiom, sorry.
-/
import Derived.Test.YtdpoifaeimmdmaaChecked
import GoSem.Claim
import GoSem.ClaimJoined
import GoSem.ClaimMapViews
import Derived.JoinedTies
import Derived.KernelRfl
namespace Go.Proofs.Ytdpoifaeimmdmaa
/- THE CELL 'sum', in the pinned program and in every row, IS THE sha256 OF THE DUMP (.gsa) THAT YtdpoifaeimmdmaaProg.lean LOADS. Nothing in Lean hashes anything: it is a label: what it is worth is what the hold of that sum in a sandbox is worth. -/
noncomputable def Try.pinned : Pinned := { name := "ytdpoifaeimmdmaa", sum := "46aa02ada12ec51e8816be62141463ea1904ad0b317cf71a7ff13c2de647c6f8", checked := Try.checked }
namespace Rows
def none {H : Type} : Left H := { results := [], args := [] }

/-- 'quirelaw02.SumBits': WHATEVER THE INPUT: true; the input reads as it did. -/
def sumBitsSpec : ChangeSpec := { name := "sumBits", fn := fun _ => fun
  | [d1, d2, d3] => { results := [.lit (.bool true)], args := [d1, d2, d3] }
  | _ => none }
def sumBitsRow : OpenClaim := { program := "ytdpoifaeimmdmaa", sum := "46aa02ada12ec51e8816be62141463ea1904ad0b317cf71a7ff13c2de647c6f8", func := "quire/quirelaw02.SumBits", spec := "sumBits", apart := false }
def SumBitsSaid : Prop := sumBitsRow.holds Try.pinned (OpenSpec.ofChange sumBitsSpec)

/-- ITS FALSE NEIGHBOUR: 'it returns false'. Refute it at one input. -/
def sumBitsWrong : ChangeSpec := { name := "sumBits", fn := fun _ => fun
  | [d1, d2, d3] => { results := [.lit (.bool false)], args := [d1, d2, d3] }
  | _ => none }
def SumBitsWrongFalsely : Prop := sumBitsRow.holds Try.pinned (OpenSpec.ofChange sumBitsWrong)

/-- 'quirelaw02.SumXor': WHATEVER THE INPUT: true; the input reads as it did. -/
def sumXorSpec : ChangeSpec := { name := "sumXor", fn := fun _ => fun
  | [d1, d2, d3] => { results := [.lit (.bool true)], args := [d1, d2, d3] }
  | _ => none }
def sumXorRow : OpenClaim := { program := "ytdpoifaeimmdmaa", sum := "46aa02ada12ec51e8816be62141463ea1904ad0b317cf71a7ff13c2de647c6f8", func := "quire/quirelaw02.SumXor", spec := "sumXor", apart := false }
def SumXorSaid : Prop := sumXorRow.holds Try.pinned (OpenSpec.ofChange sumXorSpec)

/-- ITS FALSE NEIGHBOUR: 'it returns false'. Refute it at one input. -/
def sumXorWrong : ChangeSpec := { name := "sumXor", fn := fun _ => fun
  | [d1, d2, d3] => { results := [.lit (.bool false)], args := [d1, d2, d3] }
  | _ => none }
def SumXorWrongFalsely : Prop := sumXorRow.holds Try.pinned (OpenSpec.ofChange sumXorWrong)

/-- 'quirelaw02.SumPlays': WHATEVER THE INPUT: true; the input reads as it did. -/
def sumPlaysSpec : ChangeSpec := { name := "sumPlays", fn := fun _ => fun
  | [d1, d2, d3] => { results := [.lit (.bool true)], args := [d1, d2, d3] }
  | _ => none }
def sumPlaysRow : OpenClaim := { program := "ytdpoifaeimmdmaa", sum := "46aa02ada12ec51e8816be62141463ea1904ad0b317cf71a7ff13c2de647c6f8", func := "quire/quirelaw02.SumPlays", spec := "sumPlays", apart := false }
def SumPlaysSaid : Prop := sumPlaysRow.holds Try.pinned (OpenSpec.ofChange sumPlaysSpec)

/-- ITS FALSE NEIGHBOUR: 'it returns false'. Refute it at one input. -/
def sumPlaysWrong : ChangeSpec := { name := "sumPlays", fn := fun _ => fun
  | [d1, d2, d3] => { results := [.lit (.bool false)], args := [d1, d2, d3] }
  | _ => none }
def SumPlaysWrongFalsely : Prop := sumPlaysRow.holds Try.pinned (OpenSpec.ofChange sumPlaysWrong)

/-- 'quirelaw03.PagesFirst': WHATEVER THE INPUT: true; the input reads as it did. -/
def pagesFirstSpec : ChangeSpec := { name := "pagesFirst", fn := fun _ => fun
  | [d1, d2] => { results := [.lit (.bool true)], args := [d1, d2] }
  | _ => none }
def pagesFirstRow : OpenClaim := { program := "ytdpoifaeimmdmaa", sum := "46aa02ada12ec51e8816be62141463ea1904ad0b317cf71a7ff13c2de647c6f8", func := "quire/quirelaw03.PagesFirst", spec := "pagesFirst", apart := false }
def PagesFirstSaid : Prop := pagesFirstRow.holds Try.pinned (OpenSpec.ofChange pagesFirstSpec)

/-- ITS FALSE NEIGHBOUR: 'it returns false'. Refute it at one input. -/
def pagesFirstWrong : ChangeSpec := { name := "pagesFirst", fn := fun _ => fun
  | [d1, d2] => { results := [.lit (.bool false)], args := [d1, d2] }
  | _ => none }
def PagesFirstWrongFalsely : Prop := pagesFirstRow.holds Try.pinned (OpenSpec.ofChange pagesFirstWrong)

/-- 'quirelaw03.PagesBack': WHATEVER THE INPUT: true; the input reads as it did. -/
def pagesBackSpec : ChangeSpec := { name := "pagesBack", fn := fun _ => fun
  | [d1, d2, d3, d4] => { results := [.lit (.bool true)], args := [d1, d2, d3, d4] }
  | _ => none }
def pagesBackRow : OpenClaim := { program := "ytdpoifaeimmdmaa", sum := "46aa02ada12ec51e8816be62141463ea1904ad0b317cf71a7ff13c2de647c6f8", func := "quire/quirelaw03.PagesBack", spec := "pagesBack", apart := false }
def PagesBackSaid : Prop := pagesBackRow.holds Try.pinned (OpenSpec.ofChange pagesBackSpec)

/-- ITS FALSE NEIGHBOUR: 'it returns false'. Refute it at one input. -/
def pagesBackWrong : ChangeSpec := { name := "pagesBack", fn := fun _ => fun
  | [d1, d2, d3, d4] => { results := [.lit (.bool false)], args := [d1, d2, d3, d4] }
  | _ => none }
def PagesBackWrongFalsely : Prop := pagesBackRow.holds Try.pinned (OpenSpec.ofChange pagesBackWrong)

/-- 'quirelaw03.PagesPlays': WHATEVER THE INPUT: true; the input reads as it did. -/
def pagesPlaysSpec : ChangeSpec := { name := "pagesPlays", fn := fun _ => fun
  | [d1, d2, d3, d4, d5] => { results := [.lit (.bool true)], args := [d1, d2, d3, d4, d5] }
  | _ => none }
def pagesPlaysRow : OpenClaim := { program := "ytdpoifaeimmdmaa", sum := "46aa02ada12ec51e8816be62141463ea1904ad0b317cf71a7ff13c2de647c6f8", func := "quire/quirelaw03.PagesPlays", spec := "pagesPlays", apart := false }
def PagesPlaysSaid : Prop := pagesPlaysRow.holds Try.pinned (OpenSpec.ofChange pagesPlaysSpec)

/-- ITS FALSE NEIGHBOUR: 'it returns false'. Refute it at one input. -/
def pagesPlaysWrong : ChangeSpec := { name := "pagesPlays", fn := fun _ => fun
  | [d1, d2, d3, d4, d5] => { results := [.lit (.bool false)], args := [d1, d2, d3, d4, d5] }
  | _ => none }
def PagesPlaysWrongFalsely : Prop := pagesPlaysRow.holds Try.pinned (OpenSpec.ofChange pagesPlaysWrong)

/-- 'quirelaw03.PagesKeeps': WHATEVER THE INPUT: true; the input reads as it did. -/
def pagesKeepsSpec : ChangeSpec := { name := "pagesKeeps", fn := fun _ => fun
  | [d1, d2, d3, d4] => { results := [.lit (.bool true)], args := [d1, d2, d3, d4] }
  | _ => none }
def pagesKeepsRow : OpenClaim := { program := "ytdpoifaeimmdmaa", sum := "46aa02ada12ec51e8816be62141463ea1904ad0b317cf71a7ff13c2de647c6f8", func := "quire/quirelaw03.PagesKeeps", spec := "pagesKeeps", apart := false }
def PagesKeepsSaid : Prop := pagesKeepsRow.holds Try.pinned (OpenSpec.ofChange pagesKeepsSpec)

/-- ITS FALSE NEIGHBOUR: 'it returns false'. Refute it at one input. -/
def pagesKeepsWrong : ChangeSpec := { name := "pagesKeeps", fn := fun _ => fun
  | [d1, d2, d3, d4] => { results := [.lit (.bool false)], args := [d1, d2, d3, d4] }
  | _ => none }
def PagesKeepsWrongFalsely : Prop := pagesKeepsRow.holds Try.pinned (OpenSpec.ofChange pagesKeepsWrong)

/-- 'quirelaw02.SumLists': WHATEVER THE INPUT: true; the input reads as it did. -/
def sumListsSpec : ChangeSpec := { name := "sumLists", fn := fun _ => fun
  | [d1, d2] => { results := [.lit (.bool true)], args := [d1, d2] }
  | _ => none }
def sumListsRow : OpenClaim := { program := "ytdpoifaeimmdmaa", sum := "46aa02ada12ec51e8816be62141463ea1904ad0b317cf71a7ff13c2de647c6f8", func := "quire/quirelaw02.SumLists", spec := "sumLists", unfollowed := true, recurses := true, apart := false }
def SumListsSaid : Prop := sumListsRow.holds Try.pinned (OpenSpec.ofChange sumListsSpec)

/-- ITS FALSE NEIGHBOUR: 'it returns false'. Refute it at one input. -/
def sumListsWrong : ChangeSpec := { name := "sumLists", fn := fun _ => fun
  | [d1, d2] => { results := [.lit (.bool false)], args := [d1, d2] }
  | _ => none }
def SumListsWrongFalsely : Prop := sumListsRow.holds Try.pinned (OpenSpec.ofChange sumListsWrong)

/-- 'quirelaw02.SumBack': WHATEVER THE INPUT: true; the input reads as it did. -/
def sumBackSpec : ChangeSpec := { name := "sumBack", fn := fun _ => fun
  | [d1, d2, d3, d4] => { results := [.lit (.bool true)], args := [d1, d2, d3, d4] }
  | _ => none }
def sumBackRow : OpenClaim := { program := "ytdpoifaeimmdmaa", sum := "46aa02ada12ec51e8816be62141463ea1904ad0b317cf71a7ff13c2de647c6f8", func := "quire/quirelaw02.SumBack", spec := "sumBack", unfollowed := true, recurses := true, apart := false }
def SumBackSaid : Prop := sumBackRow.holds Try.pinned (OpenSpec.ofChange sumBackSpec)

/-- ITS FALSE NEIGHBOUR: 'it returns false'. Refute it at one input. -/
def sumBackWrong : ChangeSpec := { name := "sumBack", fn := fun _ => fun
  | [d1, d2, d3, d4] => { results := [.lit (.bool false)], args := [d1, d2, d3, d4] }
  | _ => none }
def SumBackWrongFalsely : Prop := sumBackRow.holds Try.pinned (OpenSpec.ofChange sumBackWrong)

/-- 'quirelaw02.SumKeeps': WHATEVER THE INPUT: true; the input reads as it did. -/
def sumKeepsSpec : ChangeSpec := { name := "sumKeeps", fn := fun _ => fun
  | [d1, d2] => { results := [.lit (.bool true)], args := [d1, d2] }
  | _ => none }
def sumKeepsRow : OpenClaim := { program := "ytdpoifaeimmdmaa", sum := "46aa02ada12ec51e8816be62141463ea1904ad0b317cf71a7ff13c2de647c6f8", func := "quire/quirelaw02.SumKeeps", spec := "sumKeeps", unfollowed := true, recurses := true, apart := false }
def SumKeepsSaid : Prop := sumKeepsRow.holds Try.pinned (OpenSpec.ofChange sumKeepsSpec)

/-- ITS FALSE NEIGHBOUR: 'it returns false'. Refute it at one input. -/
def sumKeepsWrong : ChangeSpec := { name := "sumKeeps", fn := fun _ => fun
  | [d1, d2] => { results := [.lit (.bool false)], args := [d1, d2] }
  | _ => none }
def SumKeepsWrongFalsely : Prop := sumKeepsRow.holds Try.pinned (OpenSpec.ofChange sumKeepsWrong)

/- THE SECOND FORM. 'bulk': how many values and letters a reading holds, each counted each time it is reached (what is shared counts as often as it is met; a slice's spare places count too). A statement '..UptoSaid' is the law's where the arguments, and the package variables that the reading takes, are together of bulk at most 1048576: NARROWER than '..Said'. Prove '..Said' where nothing that the law and all that it calls make is longer than what came in: it says more and counts as full. Else prove '..UptoSaid'. A law counts once. -/
mutual
def uptoBulk {H : Type} : DataW H → Nat
  | .lit (.string bytes) => bytes.length + 1
  | .lit _ => 1
  | .nil => 1
  | .ptr d => uptoBulk d + 1
  | .slice elems spare => uptoBulkAll elems + uptoBulkAll spare + 1
  | .agg parts => uptoBulkAll parts + 1
  | .iface _ d => uptoBulk d + 1
  | .map entries => uptoBulkEntries entries + 1
  | .held _ => 1
def uptoBulkAll {H : Type} : List (DataW H) → Nat
  | [] => 0
  | d :: r => uptoBulk d + uptoBulkAll r
def uptoBulkEntries {H : Type} : List (Lit × DataW H) → Nat
  | [] => 0
  | x :: r => uptoBulkEntry x + uptoBulkEntries r
def uptoBulkEntry {H : Type} : Lit × DataW H → Nat
  | (.string bytes, d) => bytes.length + uptoBulk d + 1
  | (_, d) => uptoBulk d + 1
 end
def uptoSmall : (H : Type) → List (DataW H) → Bool := fun _ ds => decide (uptoBulkAll ds ≤ 1048576)
def OpenSpec.upto (s : _root_.Go.ChangeSpec) : _root_.Go.OpenSpec := { _root_.Go.OpenSpec.ofChange s with cond := some uptoSmall }

/-- 'quirelaw02.SumBits', WHERE WHAT IT READS IS OF BULK AT MOST 1048576: true; the input reads as it did. -/
def sumBitsUptoRow : OpenClaim := { program := "ytdpoifaeimmdmaa", sum := "46aa02ada12ec51e8816be62141463ea1904ad0b317cf71a7ff13c2de647c6f8", func := "quire/quirelaw02.SumBits", spec := "sumBits", apart := false, narrowed := true }
def SumBitsUptoSaid : Prop := sumBitsUptoRow.holds Try.pinned (OpenSpec.upto sumBitsSpec)

/-- 'quirelaw02.SumXor', WHERE WHAT IT READS IS OF BULK AT MOST 1048576: true; the input reads as it did. -/
def sumXorUptoRow : OpenClaim := { program := "ytdpoifaeimmdmaa", sum := "46aa02ada12ec51e8816be62141463ea1904ad0b317cf71a7ff13c2de647c6f8", func := "quire/quirelaw02.SumXor", spec := "sumXor", apart := false, narrowed := true }
def SumXorUptoSaid : Prop := sumXorUptoRow.holds Try.pinned (OpenSpec.upto sumXorSpec)

/-- 'quirelaw02.SumPlays', WHERE WHAT IT READS IS OF BULK AT MOST 1048576: true; the input reads as it did. -/
def sumPlaysUptoRow : OpenClaim := { program := "ytdpoifaeimmdmaa", sum := "46aa02ada12ec51e8816be62141463ea1904ad0b317cf71a7ff13c2de647c6f8", func := "quire/quirelaw02.SumPlays", spec := "sumPlays", apart := false, narrowed := true }
def SumPlaysUptoSaid : Prop := sumPlaysUptoRow.holds Try.pinned (OpenSpec.upto sumPlaysSpec)

/-- 'quirelaw03.PagesFirst', WHERE WHAT IT READS IS OF BULK AT MOST 1048576: true; the input reads as it did. -/
def pagesFirstUptoRow : OpenClaim := { program := "ytdpoifaeimmdmaa", sum := "46aa02ada12ec51e8816be62141463ea1904ad0b317cf71a7ff13c2de647c6f8", func := "quire/quirelaw03.PagesFirst", spec := "pagesFirst", apart := false, narrowed := true }
def PagesFirstUptoSaid : Prop := pagesFirstUptoRow.holds Try.pinned (OpenSpec.upto pagesFirstSpec)

/-- 'quirelaw03.PagesBack', WHERE WHAT IT READS IS OF BULK AT MOST 1048576: true; the input reads as it did. -/
def pagesBackUptoRow : OpenClaim := { program := "ytdpoifaeimmdmaa", sum := "46aa02ada12ec51e8816be62141463ea1904ad0b317cf71a7ff13c2de647c6f8", func := "quire/quirelaw03.PagesBack", spec := "pagesBack", apart := false, narrowed := true }
def PagesBackUptoSaid : Prop := pagesBackUptoRow.holds Try.pinned (OpenSpec.upto pagesBackSpec)

/-- 'quirelaw03.PagesPlays', WHERE WHAT IT READS IS OF BULK AT MOST 1048576: true; the input reads as it did. -/
def pagesPlaysUptoRow : OpenClaim := { program := "ytdpoifaeimmdmaa", sum := "46aa02ada12ec51e8816be62141463ea1904ad0b317cf71a7ff13c2de647c6f8", func := "quire/quirelaw03.PagesPlays", spec := "pagesPlays", apart := false, narrowed := true }
def PagesPlaysUptoSaid : Prop := pagesPlaysUptoRow.holds Try.pinned (OpenSpec.upto pagesPlaysSpec)

/-- 'quirelaw03.PagesKeeps', WHERE WHAT IT READS IS OF BULK AT MOST 1048576: true; the input reads as it did. -/
def pagesKeepsUptoRow : OpenClaim := { program := "ytdpoifaeimmdmaa", sum := "46aa02ada12ec51e8816be62141463ea1904ad0b317cf71a7ff13c2de647c6f8", func := "quire/quirelaw03.PagesKeeps", spec := "pagesKeeps", apart := false, narrowed := true }
def PagesKeepsUptoSaid : Prop := pagesKeepsUptoRow.holds Try.pinned (OpenSpec.upto pagesKeepsSpec)

/-- 'quirelaw02.SumLists', WHERE WHAT IT READS IS OF BULK AT MOST 1048576: true; the input reads as it did. -/
def sumListsUptoRow : OpenClaim := { program := "ytdpoifaeimmdmaa", sum := "46aa02ada12ec51e8816be62141463ea1904ad0b317cf71a7ff13c2de647c6f8", func := "quire/quirelaw02.SumLists", spec := "sumLists", unfollowed := true, recurses := true, apart := false, narrowed := true }
def SumListsUptoSaid : Prop := sumListsUptoRow.holds Try.pinned (OpenSpec.upto sumListsSpec)

/-- 'quirelaw02.SumBack', WHERE WHAT IT READS IS OF BULK AT MOST 1048576: true; the input reads as it did. -/
def sumBackUptoRow : OpenClaim := { program := "ytdpoifaeimmdmaa", sum := "46aa02ada12ec51e8816be62141463ea1904ad0b317cf71a7ff13c2de647c6f8", func := "quire/quirelaw02.SumBack", spec := "sumBack", unfollowed := true, recurses := true, apart := false, narrowed := true }
def SumBackUptoSaid : Prop := sumBackUptoRow.holds Try.pinned (OpenSpec.upto sumBackSpec)

/-- 'quirelaw02.SumKeeps', WHERE WHAT IT READS IS OF BULK AT MOST 1048576: true; the input reads as it did. -/
def sumKeepsUptoRow : OpenClaim := { program := "ytdpoifaeimmdmaa", sum := "46aa02ada12ec51e8816be62141463ea1904ad0b317cf71a7ff13c2de647c6f8", func := "quire/quirelaw02.SumKeeps", spec := "sumKeeps", unfollowed := true, recurses := true, apart := false, narrowed := true }
def SumKeepsUptoSaid : Prop := sumKeepsUptoRow.holds Try.pinned (OpenSpec.upto sumKeepsSpec)

end Rows
end Go.Proofs.Ytdpoifaeimmdmaa
