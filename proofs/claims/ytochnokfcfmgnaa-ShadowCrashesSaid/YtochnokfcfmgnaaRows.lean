/-
  No cell of these rows narrows 'for every input' (looked for: loops, veiled, ifaces, maps, wideKeys, modest, calm, conditions, laid).
  DERIVED. THE GIVEN ROWS OF THIS SEAT. 6 by the template 'for every input the law returns true; each argument reads behind the call as it read before'; 0 by the template 'total and deterministic' (their statements: YtochnokfcfmgnaaTotals.lean).
  GIVEN WITH THE SEED: the statements are not yours to turn. If you find one false, say at which input.
  Laid BY PROGRAM, IN A SANDBOX (cutbox-rows.mjs): the forced cells as the released guide's own fill.sh prints them over the translation c10f093e08607175… (all of the seat's roots in one cut). By AI agents, Wed Nov 11 2026. No macro, syntax, notation, axiom, sorry.
-/
import Derived.Test.YtochnokfcfmgnaaChecked
import GoSem.Claim
import GoSem.ClaimJoined
import GoSem.ClaimMapViews
import Derived.JoinedTies
import Derived.KernelRfl
namespace Go.Proofs.Ytochnokfcfmgnaa
/- THE CELL 'sum', in the pinned program and in every row, IS THE sha256 OF THE DUMP (.gsa) THAT YtochnokfcfmgnaaProg.lean LOADS. Nothing in Lean hashes anything: it is a label: what it is worth is what the hold of that sum in a sandbox is worth. -/
noncomputable def Try.pinned : Pinned := { name := "ytochnokfcfmgnaa", sum := "c10f093e08607175927917d180cb5cf025d67fea30e5da9a32ee199b64982b3b", checked := Try.checked }
namespace Rows
def none {H : Type} : Left H := { results := [], args := [] }

/-- 'quirelaw04.ShadowPuts': WHATEVER THE INPUT: true; the input reads as it did. -/
def shadowPutsSpec : ChangeSpec := { name := "shadowPuts", fn := fun _ => fun
  | [d1, d2, d3, d4, d5, d6] => { results := [.lit (.bool true)], args := [d1, d2, d3, d4, d5, d6] }
  | _ => none }
def shadowPutsRow : OpenClaim := { program := "ytochnokfcfmgnaa", sum := "c10f093e08607175927917d180cb5cf025d67fea30e5da9a32ee199b64982b3b", func := "quire/quirelaw04.ShadowPuts", spec := "shadowPuts", inPlace := ["maps.clone"], unfollowed := true, recurses := true, apart := false }
def ShadowPutsSaid : Prop := shadowPutsRow.holds Try.pinned (OpenSpec.ofChange shadowPutsSpec)

/-- ITS FALSE NEIGHBOUR: 'it returns false'. Refute it at one input. -/
def shadowPutsWrong : ChangeSpec := { name := "shadowPuts", fn := fun _ => fun
  | [d1, d2, d3, d4, d5, d6] => { results := [.lit (.bool false)], args := [d1, d2, d3, d4, d5, d6] }
  | _ => none }
def ShadowPutsWrongFalsely : Prop := shadowPutsRow.holds Try.pinned (OpenSpec.ofChange shadowPutsWrong)

/-- 'quirelaw04.ShadowKeeps': WHATEVER THE INPUT: true; the input reads as it did. -/
def shadowKeepsSpec : ChangeSpec := { name := "shadowKeeps", fn := fun _ => fun
  | [d1, d2, d3, d4, d5] => { results := [.lit (.bool true)], args := [d1, d2, d3, d4, d5] }
  | _ => none }
def shadowKeepsRow : OpenClaim := { program := "ytochnokfcfmgnaa", sum := "c10f093e08607175927917d180cb5cf025d67fea30e5da9a32ee199b64982b3b", func := "quire/quirelaw04.ShadowKeeps", spec := "shadowKeeps", inPlace := ["maps.clone"], unfollowed := true, recurses := true, apart := false }
def ShadowKeepsSaid : Prop := shadowKeepsRow.holds Try.pinned (OpenSpec.ofChange shadowKeepsSpec)

/-- ITS FALSE NEIGHBOUR: 'it returns false'. Refute it at one input. -/
def shadowKeepsWrong : ChangeSpec := { name := "shadowKeeps", fn := fun _ => fun
  | [d1, d2, d3, d4, d5] => { results := [.lit (.bool false)], args := [d1, d2, d3, d4, d5] }
  | _ => none }
def ShadowKeepsWrongFalsely : Prop := shadowKeepsRow.holds Try.pinned (OpenSpec.ofChange shadowKeepsWrong)

/-- 'quirelaw04.ShadowRoom': WHATEVER THE INPUT: true; the input reads as it did. -/
def shadowRoomSpec : ChangeSpec := { name := "shadowRoom", fn := fun _ => fun
  | [d1, d2, d3] => { results := [.lit (.bool true)], args := [d1, d2, d3] }
  | _ => none }
def shadowRoomRow : OpenClaim := { program := "ytochnokfcfmgnaa", sum := "c10f093e08607175927917d180cb5cf025d67fea30e5da9a32ee199b64982b3b", func := "quire/quirelaw04.ShadowRoom", spec := "shadowRoom", inPlace := ["maps.clone"], unfollowed := true, recurses := true, apart := false }
def ShadowRoomSaid : Prop := shadowRoomRow.holds Try.pinned (OpenSpec.ofChange shadowRoomSpec)

/-- ITS FALSE NEIGHBOUR: 'it returns false'. Refute it at one input. -/
def shadowRoomWrong : ChangeSpec := { name := "shadowRoom", fn := fun _ => fun
  | [d1, d2, d3] => { results := [.lit (.bool false)], args := [d1, d2, d3] }
  | _ => none }
def ShadowRoomWrongFalsely : Prop := shadowRoomRow.holds Try.pinned (OpenSpec.ofChange shadowRoomWrong)

/-- 'quirelaw04.ShadowBack': WHATEVER THE INPUT: true; the input reads as it did. -/
def shadowBackSpec : ChangeSpec := { name := "shadowBack", fn := fun _ => fun
  | [d1, d2, d3] => { results := [.lit (.bool true)], args := [d1, d2, d3] }
  | _ => none }
def shadowBackRow : OpenClaim := { program := "ytochnokfcfmgnaa", sum := "c10f093e08607175927917d180cb5cf025d67fea30e5da9a32ee199b64982b3b", func := "quire/quirelaw04.ShadowBack", spec := "shadowBack", inPlace := ["maps.clone"], unfollowed := true, recurses := true, apart := false }
def ShadowBackSaid : Prop := shadowBackRow.holds Try.pinned (OpenSpec.ofChange shadowBackSpec)

/-- ITS FALSE NEIGHBOUR: 'it returns false'. Refute it at one input. -/
def shadowBackWrong : ChangeSpec := { name := "shadowBack", fn := fun _ => fun
  | [d1, d2, d3] => { results := [.lit (.bool false)], args := [d1, d2, d3] }
  | _ => none }
def ShadowBackWrongFalsely : Prop := shadowBackRow.holds Try.pinned (OpenSpec.ofChange shadowBackWrong)

/-- 'quirelaw04.ShadowNil': WHATEVER THE INPUT: true; the input reads as it did. -/
def shadowNilSpec : ChangeSpec := { name := "shadowNil", fn := fun _ => fun
  | [] => { results := [.lit (.bool true)], args := [] }
  | _ => none }
def shadowNilRow : OpenClaim := { program := "ytochnokfcfmgnaa", sum := "c10f093e08607175927917d180cb5cf025d67fea30e5da9a32ee199b64982b3b", func := "quire/quirelaw04.ShadowNil", spec := "shadowNil", inPlace := ["maps.clone"], unfollowed := true, recurses := true, apart := false }
def ShadowNilSaid : Prop := shadowNilRow.holds Try.pinned (OpenSpec.ofChange shadowNilSpec)

/-- ITS FALSE NEIGHBOUR: 'it returns false'. Refute it at one input. -/
def shadowNilWrong : ChangeSpec := { name := "shadowNil", fn := fun _ => fun
  | [] => { results := [.lit (.bool false)], args := [] }
  | _ => none }
def ShadowNilWrongFalsely : Prop := shadowNilRow.holds Try.pinned (OpenSpec.ofChange shadowNilWrong)

/-- 'quirelaw04.ShadowCrashes': WHATEVER THE INPUT: true; the input reads as it did. -/
def shadowCrashesSpec : ChangeSpec := { name := "shadowCrashes", fn := fun _ => fun
  | [d1, d2, d3, d4, d5, d6, d7] => { results := [.lit (.bool true)], args := [d1, d2, d3, d4, d5, d6, d7] }
  | _ => none }
def shadowCrashesRow : OpenClaim := { program := "ytochnokfcfmgnaa", sum := "c10f093e08607175927917d180cb5cf025d67fea30e5da9a32ee199b64982b3b", func := "quire/quirelaw04.ShadowCrashes", spec := "shadowCrashes", inPlace := ["maps.clone"], unfollowed := true, recurses := true, apart := false }
def ShadowCrashesSaid : Prop := shadowCrashesRow.holds Try.pinned (OpenSpec.ofChange shadowCrashesSpec)

/-- ITS FALSE NEIGHBOUR: 'it returns false'. Refute it at one input. -/
def shadowCrashesWrong : ChangeSpec := { name := "shadowCrashes", fn := fun _ => fun
  | [d1, d2, d3, d4, d5, d6, d7] => { results := [.lit (.bool false)], args := [d1, d2, d3, d4, d5, d6, d7] }
  | _ => none }
def ShadowCrashesWrongFalsely : Prop := shadowCrashesRow.holds Try.pinned (OpenSpec.ofChange shadowCrashesWrong)

/- THE SECOND FORM. 'bulk': how many values and letters a reading holds, each counted each time it is reached (what is shared counts as often as it is met; a slice's spare places count too). A statement '..UptoSaid' is the law's where the arguments, and the package variables that the reading takes, are together of bulk at most 1048576: NARROWER than '..Said'. Prove '..Said' where nothing that the law and all that it calls make is longer than what came in: it says more and counts as full. Else prove '..UptoSaid'. A law counts once. -/
mutual
def uptoBulk {H : Type} : DataW H → Nat
  | .lit (.string bytes) => bytes.length + 1
  | .lit _ => 1
  | .nil => 1
  | .ptr d => uptoBulk d + 1
  | .slice elems spare => uptoBulkAll elems + uptoBulkAll spare + 1
  | .agg parts => uptoBulkAll parts + 1
  | .iface _ d => uptoBulk d + 1
  | .map entries => uptoBulkEntries entries + 1
  | .held _ => 1
def uptoBulkAll {H : Type} : List (DataW H) → Nat
  | [] => 0
  | d :: r => uptoBulk d + uptoBulkAll r
def uptoBulkEntries {H : Type} : List (Lit × DataW H) → Nat
  | [] => 0
  | x :: r => uptoBulkEntry x + uptoBulkEntries r
def uptoBulkEntry {H : Type} : Lit × DataW H → Nat
  | (.string bytes, d) => bytes.length + uptoBulk d + 1
  | (_, d) => uptoBulk d + 1
 end
def uptoSmall : (H : Type) → List (DataW H) → Bool := fun _ ds => decide (uptoBulkAll ds ≤ 1048576)
def OpenSpec.upto (s : _root_.Go.ChangeSpec) : _root_.Go.OpenSpec := { _root_.Go.OpenSpec.ofChange s with cond := some uptoSmall }

/-- 'quirelaw04.ShadowPuts', WHERE WHAT IT READS IS OF BULK AT MOST 1048576: true; the input reads as it did. -/
def shadowPutsUptoRow : OpenClaim := { program := "ytochnokfcfmgnaa", sum := "c10f093e08607175927917d180cb5cf025d67fea30e5da9a32ee199b64982b3b", func := "quire/quirelaw04.ShadowPuts", spec := "shadowPuts", inPlace := ["maps.clone"], unfollowed := true, recurses := true, apart := false, narrowed := true }
def ShadowPutsUptoSaid : Prop := shadowPutsUptoRow.holds Try.pinned (OpenSpec.upto shadowPutsSpec)

/-- 'quirelaw04.ShadowKeeps', WHERE WHAT IT READS IS OF BULK AT MOST 1048576: true; the input reads as it did. -/
def shadowKeepsUptoRow : OpenClaim := { program := "ytochnokfcfmgnaa", sum := "c10f093e08607175927917d180cb5cf025d67fea30e5da9a32ee199b64982b3b", func := "quire/quirelaw04.ShadowKeeps", spec := "shadowKeeps", inPlace := ["maps.clone"], unfollowed := true, recurses := true, apart := false, narrowed := true }
def ShadowKeepsUptoSaid : Prop := shadowKeepsUptoRow.holds Try.pinned (OpenSpec.upto shadowKeepsSpec)

/-- 'quirelaw04.ShadowRoom', WHERE WHAT IT READS IS OF BULK AT MOST 1048576: true; the input reads as it did. -/
def shadowRoomUptoRow : OpenClaim := { program := "ytochnokfcfmgnaa", sum := "c10f093e08607175927917d180cb5cf025d67fea30e5da9a32ee199b64982b3b", func := "quire/quirelaw04.ShadowRoom", spec := "shadowRoom", inPlace := ["maps.clone"], unfollowed := true, recurses := true, apart := false, narrowed := true }
def ShadowRoomUptoSaid : Prop := shadowRoomUptoRow.holds Try.pinned (OpenSpec.upto shadowRoomSpec)

/-- 'quirelaw04.ShadowBack', WHERE WHAT IT READS IS OF BULK AT MOST 1048576: true; the input reads as it did. -/
def shadowBackUptoRow : OpenClaim := { program := "ytochnokfcfmgnaa", sum := "c10f093e08607175927917d180cb5cf025d67fea30e5da9a32ee199b64982b3b", func := "quire/quirelaw04.ShadowBack", spec := "shadowBack", inPlace := ["maps.clone"], unfollowed := true, recurses := true, apart := false, narrowed := true }
def ShadowBackUptoSaid : Prop := shadowBackUptoRow.holds Try.pinned (OpenSpec.upto shadowBackSpec)

/-- 'quirelaw04.ShadowNil', WHERE WHAT IT READS IS OF BULK AT MOST 1048576: true; the input reads as it did. -/
def shadowNilUptoRow : OpenClaim := { program := "ytochnokfcfmgnaa", sum := "c10f093e08607175927917d180cb5cf025d67fea30e5da9a32ee199b64982b3b", func := "quire/quirelaw04.ShadowNil", spec := "shadowNil", inPlace := ["maps.clone"], unfollowed := true, recurses := true, apart := false, narrowed := true }
def ShadowNilUptoSaid : Prop := shadowNilUptoRow.holds Try.pinned (OpenSpec.upto shadowNilSpec)

/-- 'quirelaw04.ShadowCrashes', WHERE WHAT IT READS IS OF BULK AT MOST 1048576: true; the input reads as it did. -/
def shadowCrashesUptoRow : OpenClaim := { program := "ytochnokfcfmgnaa", sum := "c10f093e08607175927917d180cb5cf025d67fea30e5da9a32ee199b64982b3b", func := "quire/quirelaw04.ShadowCrashes", spec := "shadowCrashes", inPlace := ["maps.clone"], unfollowed := true, recurses := true, apart := false, narrowed := true }
def ShadowCrashesUptoSaid : Prop := shadowCrashesUptoRow.holds Try.pinned (OpenSpec.upto shadowCrashesSpec)

end Rows
end Go.Proofs.Ytochnokfcfmgnaa
