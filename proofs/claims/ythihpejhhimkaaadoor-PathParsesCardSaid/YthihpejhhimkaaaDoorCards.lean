/-
  DERIVED. GIVEN WITH THE SEED: THE CARDS: each row of YthihpejhhimkaaaDoorRows.lean that lists a variable, with what it lists TIED to the program's text (the seventh form; the later family's looks); each row that meets fmt, with fmt's text TOLD by the authors' own Lean function (tested against real Go, not proved from fmt's source: count such statements apart). THE CARD IS WHAT COUNTS. Prove the row's statement (the work); the ties are given (YthihpejhhimkaaaDoorTie.lean); close each card by the builder's one call (the guide's Derived/Test/ToyasCard.lean, 'card_holds'). Laid BY PROGRAM, IN A SANDBOX (cutbox-door.mjs). By AI agents, Wed Nov 11 2026. No macro, syntax, notation, axiom, sorry.
-/
import Derived.Test.YthihpejhhimkaaaDoorRows
import GoSem.ClaimSeven
namespace Go.Proofs.YthihpejhhimkaaaDoor
namespace Rows

/-- THE TIED CARD OF 'onionskinlaw26.DirPuts'. -/
def dirPutsCard : Claim7 := { stood := { row := dirPutsRow, standIns := [], harness := (true, "231b269dd1adf212693052a95a4c00d0ea6bb75fa1c78f420493eb17fa294270"), looks := false }, kinds := [], alts := [], laidByText := true, laidKinds := [.data, .pinned], laidTests := true, laidLooks := .later }
def DirPutsCardSaid : Prop := Claim7.holds Tryd.pinned (.plain (OpenSpec.ofChange dirPutsSpec)) dirPutsCard

/-- THE TIED CARD OF 'onionskinlaw26.DirNames'. -/
def dirNamesCard : Claim7 := { stood := { row := dirNamesRow, standIns := [], harness := (true, "231b269dd1adf212693052a95a4c00d0ea6bb75fa1c78f420493eb17fa294270"), looks := false }, kinds := [], alts := [], laidByText := true, laidKinds := [.data, .pinned], laidTests := true, laidLooks := .later }
def DirNamesCardSaid : Prop := Claim7.holds Tryd.pinned (.plain (OpenSpec.ofChange dirNamesSpec)) dirNamesCard

/-- THE TIED CARD OF 'onionskinlaw26.DirGets'. -/
def dirGetsCard : Claim7 := { stood := { row := dirGetsRow, standIns := [], harness := (true, "231b269dd1adf212693052a95a4c00d0ea6bb75fa1c78f420493eb17fa294270"), looks := false }, kinds := [], alts := [], laidByText := true, laidKinds := [.data, .pinned], laidTests := true, laidLooks := .later }
def DirGetsCardSaid : Prop := Claim7.holds Tryd.pinned (.plain (OpenSpec.ofChange dirGetsSpec)) dirGetsCard

/-- THE TIED CARD OF 'onionskinlaw29.PathSplits'. -/
def pathSplitsCard : Claim7 := { stood := { row := pathSplitsRow, standIns := [], harness := (true, "231b269dd1adf212693052a95a4c00d0ea6bb75fa1c78f420493eb17fa294270"), looks := false }, kinds := [], alts := [], laidByText := true, laidKinds := [.data, .pinned], laidTests := true, laidLooks := .later }
def PathSplitsCardSaid : Prop := Claim7.holds Tryd.pinned (.plain (OpenSpec.ofChange pathSplitsSpec)) pathSplitsCard

/-- THE TIED CARD OF 'onionskinlaw29.PathParses'. -/
def pathParsesCard : Claim7 := { stood := { row := pathParsesRow, standIns := [], harness := (true, "231b269dd1adf212693052a95a4c00d0ea6bb75fa1c78f420493eb17fa294270"), looks := false }, kinds := [], alts := [], laidByText := true, laidKinds := [.data, .pinned], laidTests := true, laidLooks := .later }
def PathParsesCardSaid : Prop := Claim7.holds Tryd.pinned (.plain (OpenSpec.ofChange pathParsesSpec)) pathParsesCard

/-- THE SECOND FORM's CARD OF 'onionskinlaw26.DirPuts'. -/
def dirPutsUptoCard : Claim7 := { stood := { row := dirPutsUptoRow, standIns := [], harness := (true, "231b269dd1adf212693052a95a4c00d0ea6bb75fa1c78f420493eb17fa294270"), looks := false }, kinds := [], alts := [], laidByText := true, laidKinds := [.data, .pinned], laidTests := true, laidLooks := .later }
def DirPutsUptoCardSaid : Prop := Claim7.holds Tryd.pinned (.plain (OpenSpec.upto dirPutsSpec)) dirPutsUptoCard

/-- THE SECOND FORM's CARD OF 'onionskinlaw26.DirNames'. -/
def dirNamesUptoCard : Claim7 := { stood := { row := dirNamesUptoRow, standIns := [], harness := (true, "231b269dd1adf212693052a95a4c00d0ea6bb75fa1c78f420493eb17fa294270"), looks := false }, kinds := [], alts := [], laidByText := true, laidKinds := [.data, .pinned], laidTests := true, laidLooks := .later }
def DirNamesUptoCardSaid : Prop := Claim7.holds Tryd.pinned (.plain (OpenSpec.upto dirNamesSpec)) dirNamesUptoCard

/-- THE SECOND FORM's CARD OF 'onionskinlaw26.DirGets'. -/
def dirGetsUptoCard : Claim7 := { stood := { row := dirGetsUptoRow, standIns := [], harness := (true, "231b269dd1adf212693052a95a4c00d0ea6bb75fa1c78f420493eb17fa294270"), looks := false }, kinds := [], alts := [], laidByText := true, laidKinds := [.data, .pinned], laidTests := true, laidLooks := .later }
def DirGetsUptoCardSaid : Prop := Claim7.holds Tryd.pinned (.plain (OpenSpec.upto dirGetsSpec)) dirGetsUptoCard

/-- THE SECOND FORM's CARD OF 'onionskinlaw29.PathSplits'. -/
def pathSplitsUptoCard : Claim7 := { stood := { row := pathSplitsUptoRow, standIns := [], harness := (true, "231b269dd1adf212693052a95a4c00d0ea6bb75fa1c78f420493eb17fa294270"), looks := false }, kinds := [], alts := [], laidByText := true, laidKinds := [.data, .pinned], laidTests := true, laidLooks := .later }
def PathSplitsUptoCardSaid : Prop := Claim7.holds Tryd.pinned (.plain (OpenSpec.upto pathSplitsSpec)) pathSplitsUptoCard

/-- THE SECOND FORM's CARD OF 'onionskinlaw29.PathParses'. -/
def pathParsesUptoCard : Claim7 := { stood := { row := pathParsesUptoRow, standIns := [], harness := (true, "231b269dd1adf212693052a95a4c00d0ea6bb75fa1c78f420493eb17fa294270"), looks := false }, kinds := [], alts := [], laidByText := true, laidKinds := [.data, .pinned], laidTests := true, laidLooks := .later }
def PathParsesUptoCardSaid : Prop := Claim7.holds Tryd.pinned (.plain (OpenSpec.upto pathParsesSpec)) pathParsesUptoCard
end Rows
end Go.Proofs.YthihpejhhimkaaaDoor
