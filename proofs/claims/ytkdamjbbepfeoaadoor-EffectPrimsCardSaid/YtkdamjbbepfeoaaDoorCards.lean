/-
  DERIVED. GIVEN WITH THE SEED: THE CARDS: each row of YtkdamjbbepfeoaaDoorRows.lean that lists a variable, with what it lists TIED to the program's text (the seventh form; the later family's looks); each row that meets fmt, with fmt's text TOLD by the authors' own Lean function (tested against real Go, not proved from fmt's source: count such statements apart). THE CARD IS WHAT COUNTS. Prove the row's statement (the work); the ties are given (YtkdamjbbepfeoaaDoorTie.lean); close each card by the builder's one call (the guide's Derived/Test/ToyasCard.lean, 'card_holds'). Laid BY PROGRAM, IN A SANDBOX (cutbox-door.mjs). By AI agents, Wed Nov 11 2026. No macro, syntax, notation, axiom, sorry.
-/
import Derived.Test.YtkdamjbbepfeoaaDoorRows
import GoSem.ClaimSeven
namespace Go.Proofs.YtkdamjbbepfeoaaDoor
namespace Rows

/-- THE TIED CARD OF 'quirelaw09.EffectPrims'. -/
def effectPrimsCard : Claim7 := { stood := { row := effectPrimsRow, standIns := [], harness := (true, "57170cf414af57247b10f76175583a7a0eaf2cec2b0a24fd45afddbea0a08dbf"), looks := false }, kinds := [], alts := [], laidByText := true, laidKinds := [.listed, .data], laidTests := true, laidLooks := .later }
def EffectPrimsCardSaid : Prop := Claim7.holds Tryd.pinned (.plain (OpenSpec.ofChange effectPrimsSpec)) effectPrimsCard

/-- THE TIED CARD OF 'quirelaw09.EffectThen'. -/
def effectThenCard : Claim7 := { stood := { row := effectThenRow, standIns := [], harness := (true, "57170cf414af57247b10f76175583a7a0eaf2cec2b0a24fd45afddbea0a08dbf"), looks := false }, kinds := [], alts := [], laidByText := true, laidKinds := [.listed, .data], laidTests := true, laidLooks := .later }
def EffectThenCardSaid : Prop := Claim7.holds Tryd.pinned (.plain (OpenSpec.ofChange effectThenSpec)) effectThenCard

/-- THE SECOND FORM's CARD OF 'quirelaw09.EffectPrims'. -/
def effectPrimsUptoCard : Claim7 := { stood := { row := effectPrimsUptoRow, standIns := [], harness := (true, "57170cf414af57247b10f76175583a7a0eaf2cec2b0a24fd45afddbea0a08dbf"), looks := false }, kinds := [], alts := [], laidByText := true, laidKinds := [.listed, .data], laidTests := true, laidLooks := .later }
def EffectPrimsUptoCardSaid : Prop := Claim7.holds Tryd.pinned (.plain (OpenSpec.upto effectPrimsSpec)) effectPrimsUptoCard

/-- THE SECOND FORM's CARD OF 'quirelaw09.EffectThen'. -/
def effectThenUptoCard : Claim7 := { stood := { row := effectThenUptoRow, standIns := [], harness := (true, "57170cf414af57247b10f76175583a7a0eaf2cec2b0a24fd45afddbea0a08dbf"), looks := false }, kinds := [], alts := [], laidByText := true, laidKinds := [.listed, .data], laidTests := true, laidLooks := .later }
def EffectThenUptoCardSaid : Prop := Claim7.holds Tryd.pinned (.plain (OpenSpec.upto effectThenSpec)) effectThenUptoCard
end Rows
end Go.Proofs.YtkdamjbbepfeoaaDoor
