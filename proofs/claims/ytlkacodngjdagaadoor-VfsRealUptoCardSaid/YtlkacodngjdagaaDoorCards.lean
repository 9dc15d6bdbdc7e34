/-
  DERIVED. GIVEN WITH THE SEED: THE CARDS: each row of YtlkacodngjdagaaDoorRows.lean that lists a variable, with what it lists TIED to the program's text (the seventh form; the later family's looks); each row that meets fmt, with fmt's text TOLD by the authors' own Lean function (tested against real Go, not proved from fmt's source: count such statements apart). THE CARD IS WHAT COUNTS. Prove the row's statement (the work); the ties are given (YtlkacodngjdagaaDoorTie.lean); close each card by the builder's one call (the guide's Derived/Test/ToyasCard.lean, 'card_holds'). Laid BY PROGRAM, IN A SANDBOX (cutbox-door.mjs). By AI agents, Wed Nov 11 2026. No macro, syntax, notation, axiom, sorry.
-/
import Derived.Test.YtlkacodngjdagaaDoorRows
import GoSem.ClaimSeven
namespace Go.Proofs.YtlkacodngjdagaaDoor
namespace Rows

/-- THE TIED CARD OF 'messuagelaw06.VfsReal'. -/
def vfsRealCard : Claim7 := { stood := { row := vfsRealRow, standIns := [], harness := (true, "730771c9fdc4435e24bb694e68d5a7eed1c0bc40d58a2cb11219cedbd200d85c"), looks := false }, kinds := [], alts := [], laidByText := true, laidKinds := [.data, .pinned], laidTests := true, laidLooks := .later }
def VfsRealCardSaid : Prop := Claim7.holds Tryd.pinned (.plain (OpenSpec.ofChange vfsRealSpec)) vfsRealCard

/-- THE TIED CARD OF 'messuagelaw06.VfsOwn'. -/
def vfsOwnCard : Claim7 := { stood := { row := vfsOwnRow, standIns := [], harness := (true, "730771c9fdc4435e24bb694e68d5a7eed1c0bc40d58a2cb11219cedbd200d85c"), looks := false }, kinds := [], alts := [], laidByText := true, laidKinds := [.data, .pinned], laidTests := true, laidLooks := .later }
def VfsOwnCardSaid : Prop := Claim7.holds Tryd.pinned (.plain (OpenSpec.ofChange vfsOwnSpec)) vfsOwnCard

/-- THE TIED CARD OF 'messuagelaw06.VfsLeads'. -/
def vfsLeadsCard : Claim7 := { stood := { row := vfsLeadsRow, standIns := [], harness := (true, "730771c9fdc4435e24bb694e68d5a7eed1c0bc40d58a2cb11219cedbd200d85c"), looks := false }, kinds := [], alts := [], laidByText := true, laidKinds := [.data, .pinned], laidTests := true, laidLooks := .later }
def VfsLeadsCardSaid : Prop := Claim7.holds Tryd.pinned (.plain (OpenSpec.ofChange vfsLeadsSpec)) vfsLeadsCard

/-- THE TIED CARD OF 'messuagelaw06.VfsOrder'. -/
def vfsOrderCard : Claim7 := { stood := { row := vfsOrderRow, standIns := [], harness := (true, "730771c9fdc4435e24bb694e68d5a7eed1c0bc40d58a2cb11219cedbd200d85c"), looks := false }, kinds := [], alts := [], laidByText := true, laidKinds := [.data, .pinned], laidTests := true, laidLooks := .later }
def VfsOrderCardSaid : Prop := Claim7.holds Tryd.pinned (.plain (OpenSpec.ofChange vfsOrderSpec)) vfsOrderCard

/-- THE SECOND FORM's CARD OF 'messuagelaw06.VfsReal'. -/
def vfsRealUptoCard : Claim7 := { stood := { row := vfsRealUptoRow, standIns := [], harness := (true, "730771c9fdc4435e24bb694e68d5a7eed1c0bc40d58a2cb11219cedbd200d85c"), looks := false }, kinds := [], alts := [], laidByText := true, laidKinds := [.data, .pinned], laidTests := true, laidLooks := .later }
def VfsRealUptoCardSaid : Prop := Claim7.holds Tryd.pinned (.plain (OpenSpec.upto vfsRealSpec)) vfsRealUptoCard

/-- THE SECOND FORM's CARD OF 'messuagelaw06.VfsOwn'. -/
def vfsOwnUptoCard : Claim7 := { stood := { row := vfsOwnUptoRow, standIns := [], harness := (true, "730771c9fdc4435e24bb694e68d5a7eed1c0bc40d58a2cb11219cedbd200d85c"), looks := false }, kinds := [], alts := [], laidByText := true, laidKinds := [.data, .pinned], laidTests := true, laidLooks := .later }
def VfsOwnUptoCardSaid : Prop := Claim7.holds Tryd.pinned (.plain (OpenSpec.upto vfsOwnSpec)) vfsOwnUptoCard

/-- THE SECOND FORM's CARD OF 'messuagelaw06.VfsLeads'. -/
def vfsLeadsUptoCard : Claim7 := { stood := { row := vfsLeadsUptoRow, standIns := [], harness := (true, "730771c9fdc4435e24bb694e68d5a7eed1c0bc40d58a2cb11219cedbd200d85c"), looks := false }, kinds := [], alts := [], laidByText := true, laidKinds := [.data, .pinned], laidTests := true, laidLooks := .later }
def VfsLeadsUptoCardSaid : Prop := Claim7.holds Tryd.pinned (.plain (OpenSpec.upto vfsLeadsSpec)) vfsLeadsUptoCard

/-- THE SECOND FORM's CARD OF 'messuagelaw06.VfsOrder'. -/
def vfsOrderUptoCard : Claim7 := { stood := { row := vfsOrderUptoRow, standIns := [], harness := (true, "730771c9fdc4435e24bb694e68d5a7eed1c0bc40d58a2cb11219cedbd200d85c"), looks := false }, kinds := [], alts := [], laidByText := true, laidKinds := [.data, .pinned], laidTests := true, laidLooks := .later }
def VfsOrderUptoCardSaid : Prop := Claim7.holds Tryd.pinned (.plain (OpenSpec.upto vfsOrderSpec)) vfsOrderUptoCard
end Rows
end Go.Proofs.YtlkacodngjdagaaDoor
