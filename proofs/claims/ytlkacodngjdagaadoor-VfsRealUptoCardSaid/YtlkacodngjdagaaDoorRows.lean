/-
  NARROWER THAN 'FOR EVERY INPUT', by the rows' own cells (each row's printed sentence says how): VfsReal: laid · VfsOwn: laid · VfsLeads: laid · VfsOrder: laid.
  DERIVED. THE GIVEN ROWS OF THIS SEAT. 4 by the template 'for every input the law returns true; each argument reads behind the call as it read before'; 0 by the template 'total and deterministic' (their statements: YtlkacodngjdagaaDoorTotals.lean).
  GIVEN WITH THE SEED: the statements are not yours to turn. If you find one false, say at which input.
  Laid BY PROGRAM, IN A SANDBOX (cutbox-rows.mjs): the forced cells as the released guide's own fill.sh prints them over the translation c1c1949a9a2f3336… (all of the seat's roots in one cut). By AI agents, Wed Nov 11 2026. No macro, syntax, notation, axiom, sorry.
-/
import Derived.Test.YtlkacodngjdagaaDoorChecked
import GoSem.PinnedTables
import GoSem.Claim
import GoSem.ClaimJoined
import GoSem.ClaimMapViews
import Derived.JoinedTies
import Derived.KernelRfl
namespace Go.Proofs.YtlkacodngjdagaaDoor
/- THE CELL 'sum', in the pinned program and in every row, IS THE sha256 OF THE DUMP (.gsa) THAT YtlkacodngjdagaaDoorProg.lean LOADS. Nothing in Lean hashes anything: it is a label: what it is worth is what the hold of that sum in a sandbox is worth. -/
noncomputable def Tryd.pinned : Pinned := { name := "ytlkacodngjdagaadoor", sum := "c1c1949a9a2f3336e2d0c425d6e1cd0b32dfa2e79a544f92cbbb18d210892142", checked := Tryd.checked }
namespace Rows
def none {H : Type} : Left H := { results := [], args := [] }

/- WHAT THE LISTED PACKAGE-LEVEL VARIABLES READ AS WHEN THE CALL BEGINS. Each datum BY PROGRAM (the guide's laid-datum.mjs) off the statement by which the dump's own 'gosem.cut.vars' lays the variable. In a bare row this is a premise. The card (YtlkacodngjdagaaDoorCards.lean) ties it to the program's text. -/
def laid_unicode_utf8_acceptRanges {H : Type} : DataW H := .agg [.agg [.lit (.int .u8 128), .lit (.int .u8 191)], .agg [.lit (.int .u8 160), .lit (.int .u8 191)], .agg [.lit (.int .u8 128), .lit (.int .u8 159)], .agg [.lit (.int .u8 144), .lit (.int .u8 191)], .agg [.lit (.int .u8 128), .lit (.int .u8 143)], .agg [.lit (.int .u8 0), .lit (.int .u8 0)], .agg [.lit (.int .u8 0), .lit (.int .u8 0)], .agg [.lit (.int .u8 0), .lit (.int .u8 0)], .agg [.lit (.int .u8 0), .lit (.int .u8 0)], .agg [.lit (.int .u8 0), .lit (.int .u8 0)], .agg [.lit (.int .u8 0), .lit (.int .u8 0)], .agg [.lit (.int .u8 0), .lit (.int .u8 0)], .agg [.lit (.int .u8 0), .lit (.int .u8 0)], .agg [.lit (.int .u8 0), .lit (.int .u8 0)], .agg [.lit (.int .u8 0), .lit (.int .u8 0)], .agg [.lit (.int .u8 0), .lit (.int .u8 0)]]
/-- One of Go's own tables, pinned by name: the form's constant. -/
def laid_unicode_utf8_first : DataW Unit := Go.Pinned.utf8First

/-- 'messuagelaw06.VfsReal': WHATEVER THE INPUT: true; the input reads as it did. -/
def vfsRealSpec : ChangeSpec := { name := "vfsReal", fn := fun _ => fun
  | [d1, d2] => { results := [.lit (.bool true)], args := [d1, d2] }
  | _ => none }
def vfsRealRow : OpenClaim := { program := "ytlkacodngjdagaadoor", sum := "c1c1949a9a2f3336e2d0c425d6e1cd0b32dfa2e79a544f92cbbb18d210892142", func := "messuage/messuagelaw06.VfsReal", spec := "vfsReal", inPlace := ["internal/bytealg.CountString", "internal/bytealg.IndexByteString", "internal/bytealg.IndexString", "internal/abi.NoEscape", "internal/bytealg.MakeNoZero"], named := ["unicode/utf8.first", "unicode/utf8.acceptRanges", "internal/bytealg.MaxLen"], apart := false, laid := [("unicode/utf8.acceptRanges", laid_unicode_utf8_acceptRanges), ("unicode/utf8.first", laid_unicode_utf8_first)] }
def VfsRealSaid : Prop := vfsRealRow.holds Tryd.pinned (OpenSpec.ofChange vfsRealSpec)

/-- ITS FALSE NEIGHBOUR: 'it returns false'. Refute it at one input. -/
def vfsRealWrong : ChangeSpec := { name := "vfsReal", fn := fun _ => fun
  | [d1, d2] => { results := [.lit (.bool false)], args := [d1, d2] }
  | _ => none }
def VfsRealWrongFalsely : Prop := vfsRealRow.holds Tryd.pinned (OpenSpec.ofChange vfsRealWrong)

/-- 'messuagelaw06.VfsOwn': WHATEVER THE INPUT: true; the input reads as it did. -/
def vfsOwnSpec : ChangeSpec := { name := "vfsOwn", fn := fun _ => fun
  | [d1, d2] => { results := [.lit (.bool true)], args := [d1, d2] }
  | _ => none }
def vfsOwnRow : OpenClaim := { program := "ytlkacodngjdagaadoor", sum := "c1c1949a9a2f3336e2d0c425d6e1cd0b32dfa2e79a544f92cbbb18d210892142", func := "messuage/messuagelaw06.VfsOwn", spec := "vfsOwn", inPlace := ["internal/bytealg.CountString", "internal/bytealg.IndexByteString", "internal/bytealg.IndexString", "internal/abi.NoEscape", "internal/bytealg.MakeNoZero"], named := ["unicode/utf8.first", "unicode/utf8.acceptRanges", "internal/bytealg.MaxLen"], apart := false, laid := [("unicode/utf8.acceptRanges", laid_unicode_utf8_acceptRanges), ("unicode/utf8.first", laid_unicode_utf8_first)] }
def VfsOwnSaid : Prop := vfsOwnRow.holds Tryd.pinned (OpenSpec.ofChange vfsOwnSpec)

/-- ITS FALSE NEIGHBOUR: 'it returns false'. Refute it at one input. -/
def vfsOwnWrong : ChangeSpec := { name := "vfsOwn", fn := fun _ => fun
  | [d1, d2] => { results := [.lit (.bool false)], args := [d1, d2] }
  | _ => none }
def VfsOwnWrongFalsely : Prop := vfsOwnRow.holds Tryd.pinned (OpenSpec.ofChange vfsOwnWrong)

/-- 'messuagelaw06.VfsLeads': WHATEVER THE INPUT: true; the input reads as it did. -/
def vfsLeadsSpec : ChangeSpec := { name := "vfsLeads", fn := fun _ => fun
  | [d1, d2] => { results := [.lit (.bool true)], args := [d1, d2] }
  | _ => none }
def vfsLeadsRow : OpenClaim := { program := "ytlkacodngjdagaadoor", sum := "c1c1949a9a2f3336e2d0c425d6e1cd0b32dfa2e79a544f92cbbb18d210892142", func := "messuage/messuagelaw06.VfsLeads", spec := "vfsLeads", inPlace := ["internal/bytealg.CountString", "internal/bytealg.IndexByteString", "internal/bytealg.IndexString", "internal/abi.NoEscape", "internal/bytealg.MakeNoZero"], recurses := true, named := ["unicode/utf8.first", "unicode/utf8.acceptRanges", "internal/bytealg.MaxLen"], apart := false, laid := [("unicode/utf8.acceptRanges", laid_unicode_utf8_acceptRanges), ("unicode/utf8.first", laid_unicode_utf8_first)] }
def VfsLeadsSaid : Prop := vfsLeadsRow.holds Tryd.pinned (OpenSpec.ofChange vfsLeadsSpec)

/-- ITS FALSE NEIGHBOUR: 'it returns false'. Refute it at one input. -/
def vfsLeadsWrong : ChangeSpec := { name := "vfsLeads", fn := fun _ => fun
  | [d1, d2] => { results := [.lit (.bool false)], args := [d1, d2] }
  | _ => none }
def VfsLeadsWrongFalsely : Prop := vfsLeadsRow.holds Tryd.pinned (OpenSpec.ofChange vfsLeadsWrong)

/-- 'messuagelaw06.VfsOrder': WHATEVER THE INPUT: true; the input reads as it did. -/
def vfsOrderSpec : ChangeSpec := { name := "vfsOrder", fn := fun _ => fun
  | [d1, d2, d3] => { results := [.lit (.bool true)], args := [d1, d2, d3] }
  | _ => none }
def vfsOrderRow : OpenClaim := { program := "ytlkacodngjdagaadoor", sum := "c1c1949a9a2f3336e2d0c425d6e1cd0b32dfa2e79a544f92cbbb18d210892142", func := "messuage/messuagelaw06.VfsOrder", spec := "vfsOrder", inPlace := ["internal/bytealg.CountString", "internal/bytealg.IndexByteString", "internal/bytealg.IndexString", "internal/abi.NoEscape", "internal/bytealg.MakeNoZero"], recurses := true, named := ["unicode/utf8.first", "unicode/utf8.acceptRanges", "internal/bytealg.MaxLen"], apart := false, laid := [("unicode/utf8.acceptRanges", laid_unicode_utf8_acceptRanges), ("unicode/utf8.first", laid_unicode_utf8_first)] }
def VfsOrderSaid : Prop := vfsOrderRow.holds Tryd.pinned (OpenSpec.ofChange vfsOrderSpec)

/-- ITS FALSE NEIGHBOUR: 'it returns false'. Refute it at one input. -/
def vfsOrderWrong : ChangeSpec := { name := "vfsOrder", fn := fun _ => fun
  | [d1, d2, d3] => { results := [.lit (.bool false)], args := [d1, d2, d3] }
  | _ => none }
def VfsOrderWrongFalsely : Prop := vfsOrderRow.holds Tryd.pinned (OpenSpec.ofChange vfsOrderWrong)

/- THE SECOND FORM. 'bulk': how many values and letters a reading holds, each counted each time it is reached (what is shared counts as often as it is met; a slice's spare places count too). A statement '..UptoSaid' is the law's where the arguments, and the package variables that the reading takes, are together of bulk at most 1048576: NARROWER than '..Said'. Prove '..Said' where nothing that the law and all that it calls make is longer than what came in: it says more and counts as full. Else prove '..UptoSaid'. A law counts once. -/
mutual
def uptoBulk {H : Type} : DataW H → Nat
  | .lit (.string bytes) => bytes.length + 1
  | .lit _ => 1
  | .nil => 1
  | .ptr d => uptoBulk d + 1
  | .slice elems spare => uptoBulkAll elems + uptoBulkAll spare + 1
  | .agg parts => uptoBulkAll parts + 1
  | .iface _ d => uptoBulk d + 1
  | .map entries => uptoBulkEntries entries + 1
  | .held _ => 1
def uptoBulkAll {H : Type} : List (DataW H) → Nat
  | [] => 0
  | d :: r => uptoBulk d + uptoBulkAll r
def uptoBulkEntries {H : Type} : List (Lit × DataW H) → Nat
  | [] => 0
  | x :: r => uptoBulkEntry x + uptoBulkEntries r
def uptoBulkEntry {H : Type} : Lit × DataW H → Nat
  | (.string bytes, d) => bytes.length + uptoBulk d + 1
  | (_, d) => uptoBulk d + 1
 end
def uptoSmall : (H : Type) → List (DataW H) → Bool := fun _ ds => decide (uptoBulkAll ds ≤ 1048576)
def OpenSpec.upto (s : _root_.Go.ChangeSpec) : _root_.Go.OpenSpec := { _root_.Go.OpenSpec.ofChange s with cond := some uptoSmall }

/-- 'messuagelaw06.VfsReal', WHERE WHAT IT READS IS OF BULK AT MOST 1048576: true; the input reads as it did. -/
def vfsRealUptoRow : OpenClaim := { program := "ytlkacodngjdagaadoor", sum := "c1c1949a9a2f3336e2d0c425d6e1cd0b32dfa2e79a544f92cbbb18d210892142", func := "messuage/messuagelaw06.VfsReal", spec := "vfsReal", inPlace := ["internal/bytealg.CountString", "internal/bytealg.IndexByteString", "internal/bytealg.IndexString", "internal/abi.NoEscape", "internal/bytealg.MakeNoZero"], named := ["unicode/utf8.first", "unicode/utf8.acceptRanges", "internal/bytealg.MaxLen"], apart := false, laid := [("unicode/utf8.acceptRanges", laid_unicode_utf8_acceptRanges), ("unicode/utf8.first", laid_unicode_utf8_first)], narrowed := true }
def VfsRealUptoSaid : Prop := vfsRealUptoRow.holds Tryd.pinned (OpenSpec.upto vfsRealSpec)

/-- 'messuagelaw06.VfsOwn', WHERE WHAT IT READS IS OF BULK AT MOST 1048576: true; the input reads as it did. -/
def vfsOwnUptoRow : OpenClaim := { program := "ytlkacodngjdagaadoor", sum := "c1c1949a9a2f3336e2d0c425d6e1cd0b32dfa2e79a544f92cbbb18d210892142", func := "messuage/messuagelaw06.VfsOwn", spec := "vfsOwn", inPlace := ["internal/bytealg.CountString", "internal/bytealg.IndexByteString", "internal/bytealg.IndexString", "internal/abi.NoEscape", "internal/bytealg.MakeNoZero"], named := ["unicode/utf8.first", "unicode/utf8.acceptRanges", "internal/bytealg.MaxLen"], apart := false, laid := [("unicode/utf8.acceptRanges", laid_unicode_utf8_acceptRanges), ("unicode/utf8.first", laid_unicode_utf8_first)], narrowed := true }
def VfsOwnUptoSaid : Prop := vfsOwnUptoRow.holds Tryd.pinned (OpenSpec.upto vfsOwnSpec)

/-- 'messuagelaw06.VfsLeads', WHERE WHAT IT READS IS OF BULK AT MOST 1048576: true; the input reads as it did. -/
def vfsLeadsUptoRow : OpenClaim := { program := "ytlkacodngjdagaadoor", sum := "c1c1949a9a2f3336e2d0c425d6e1cd0b32dfa2e79a544f92cbbb18d210892142", func := "messuage/messuagelaw06.VfsLeads", spec := "vfsLeads", inPlace := ["internal/bytealg.CountString", "internal/bytealg.IndexByteString", "internal/bytealg.IndexString", "internal/abi.NoEscape", "internal/bytealg.MakeNoZero"], recurses := true, named := ["unicode/utf8.first", "unicode/utf8.acceptRanges", "internal/bytealg.MaxLen"], apart := false, laid := [("unicode/utf8.acceptRanges", laid_unicode_utf8_acceptRanges), ("unicode/utf8.first", laid_unicode_utf8_first)], narrowed := true }
def VfsLeadsUptoSaid : Prop := vfsLeadsUptoRow.holds Tryd.pinned (OpenSpec.upto vfsLeadsSpec)

/-- 'messuagelaw06.VfsOrder', WHERE WHAT IT READS IS OF BULK AT MOST 1048576: true; the input reads as it did. -/
def vfsOrderUptoRow : OpenClaim := { program := "ytlkacodngjdagaadoor", sum := "c1c1949a9a2f3336e2d0c425d6e1cd0b32dfa2e79a544f92cbbb18d210892142", func := "messuage/messuagelaw06.VfsOrder", spec := "vfsOrder", inPlace := ["internal/bytealg.CountString", "internal/bytealg.IndexByteString", "internal/bytealg.IndexString", "internal/abi.NoEscape", "internal/bytealg.MakeNoZero"], recurses := true, named := ["unicode/utf8.first", "unicode/utf8.acceptRanges", "internal/bytealg.MaxLen"], apart := false, laid := [("unicode/utf8.acceptRanges", laid_unicode_utf8_acceptRanges), ("unicode/utf8.first", laid_unicode_utf8_first)], narrowed := true }
def VfsOrderUptoSaid : Prop := vfsOrderUptoRow.holds Tryd.pinned (OpenSpec.upto vfsOrderSpec)

end Rows
end Go.Proofs.YtlkacodngjdagaaDoor
