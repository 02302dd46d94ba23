/-
  NARROWER THAN 'FOR EVERY INPUT', by the rows' own cells (each row's printed sentence says how): ScriptRenames: loops · FlowMays: loops.
  DERIVED. THE GIVEN ROWS OF THIS SEAT. 7 by the template 'for every input the law returns true; each argument reads behind the call as it read before'; 0 by the template 'total and deterministic' (their statements: YtdndpmlapcbjaaaGreatTotals.lean).
  GIVEN WITH THE SEED: the statements are not yours to turn. If you find one false, say at which input.
  Laid BY PROGRAM, IN A SANDBOX (cutbox-rows.mjs): the forced cells as the released guide's own fill.sh prints them over the translation 951acf5c8d0dd77b… (all of the seat's roots in one cut). By AI agents, Wed Nov 11 2026. No macro, syntax, notation, axiom, sorry.
-/
import Derived.Test.YtdndpmlapcbjaaaGreatChecked
import GoSem.Claim
import GoSem.ClaimJoined
import GoSem.ClaimMapViews
import Derived.JoinedTies
import Derived.KernelRfl
namespace Go.Proofs.YtdndpmlapcbjaaaGreat
/- THE CELL 'sum', in the pinned program and in every row, IS THE sha256 OF THE DUMP (.gsa) THAT YtdndpmlapcbjaaaGreatProg.lean LOADS. Nothing in Lean hashes anything: it is a label: what it is worth is what the hold of that sum in a sandbox is worth. -/
noncomputable def Tryz.pinned : Pinned := { name := "ytdndpmlapcbjaaagreat", sum := "951acf5c8d0dd77b0ab3603bf77a9ce1a86f1548c5857bbbfb26b26405d8a126", checked := Tryz.checked }
namespace Rows
def none {H : Type} : Left H := { results := [], args := [] }

/-- 'brazierlaw06.CasTurned': WHATEVER THE INPUT: true; the input reads as it did. -/
def casTurnedSpec : ChangeSpec := { name := "casTurned", fn := fun _ => fun
  | [d1, d2, d3] => { results := [.lit (.bool true)], args := [d1, d2, d3] }
  | _ => none }
def casTurnedRow : OpenClaim := { program := "ytdndpmlapcbjaaagreat", sum := "951acf5c8d0dd77b0ab3603bf77a9ce1a86f1548c5857bbbfb26b26405d8a126", func := "brazier/brazierlaw06.CasTurned", spec := "casTurned", inPlace := ["slices.overlaps[string]", "slices.overlaps[int]", "internal/bytealg.Compare"], unfollowed := true, recurses := true, apart := false }
def CasTurnedSaid : Prop := casTurnedRow.holds Tryz.pinned (OpenSpec.ofChange casTurnedSpec)

/-- ITS FALSE NEIGHBOUR: 'it returns false'. Refute it at one input. -/
def casTurnedWrong : ChangeSpec := { name := "casTurned", fn := fun _ => fun
  | [d1, d2, d3] => { results := [.lit (.bool false)], args := [d1, d2, d3] }
  | _ => none }
def CasTurnedWrongFalsely : Prop := casTurnedRow.holds Tryz.pinned (OpenSpec.ofChange casTurnedWrong)

/-- 'brazierlaw06.CasPlays': WHATEVER THE INPUT: true; the input reads as it did. -/
def casPlaysSpec : ChangeSpec := { name := "casPlays", fn := fun _ => fun
  | [d1, d2] => { results := [.lit (.bool true)], args := [d1, d2] }
  | _ => none }
def casPlaysRow : OpenClaim := { program := "ytdndpmlapcbjaaagreat", sum := "951acf5c8d0dd77b0ab3603bf77a9ce1a86f1548c5857bbbfb26b26405d8a126", func := "brazier/brazierlaw06.CasPlays", spec := "casPlays", inPlace := ["slices.overlaps[string]", "slices.overlaps[int]", "internal/bytealg.Compare"], unfollowed := true, recurses := true, apart := false }
def CasPlaysSaid : Prop := casPlaysRow.holds Tryz.pinned (OpenSpec.ofChange casPlaysSpec)

/-- ITS FALSE NEIGHBOUR: 'it returns false'. Refute it at one input. -/
def casPlaysWrong : ChangeSpec := { name := "casPlays", fn := fun _ => fun
  | [d1, d2] => { results := [.lit (.bool false)], args := [d1, d2] }
  | _ => none }
def CasPlaysWrongFalsely : Prop := casPlaysRow.holds Tryz.pinned (OpenSpec.ofChange casPlaysWrong)

/-- 'brazierlaw06.CasNobody': WHATEVER THE INPUT: true; the input reads as it did. -/
def casNobodySpec : ChangeSpec := { name := "casNobody", fn := fun _ => fun
  | [d1, d2] => { results := [.lit (.bool true)], args := [d1, d2] }
  | _ => none }
def casNobodyRow : OpenClaim := { program := "ytdndpmlapcbjaaagreat", sum := "951acf5c8d0dd77b0ab3603bf77a9ce1a86f1548c5857bbbfb26b26405d8a126", func := "brazier/brazierlaw06.CasNobody", spec := "casNobody", inPlace := ["slices.overlaps[string]", "slices.overlaps[int]", "internal/bytealg.Compare"], unfollowed := true, recurses := true, apart := false }
def CasNobodySaid : Prop := casNobodyRow.holds Tryz.pinned (OpenSpec.ofChange casNobodySpec)

/-- ITS FALSE NEIGHBOUR: 'it returns false'. Refute it at one input. -/
def casNobodyWrong : ChangeSpec := { name := "casNobody", fn := fun _ => fun
  | [d1, d2] => { results := [.lit (.bool false)], args := [d1, d2] }
  | _ => none }
def CasNobodyWrongFalsely : Prop := casNobodyRow.holds Tryz.pinned (OpenSpec.ofChange casNobodyWrong)

/-- 'brazierlaw24.ScriptRenames': WHATEVER THE INPUT: true; the input reads as it did. -/
def scriptRenamesSpec : ChangeSpec := { name := "scriptRenames", fn := fun _ => fun
  | [d1, d2, d3] => { results := [.lit (.bool true)], args := [d1, d2, d3] }
  | _ => none }
def scriptRenamesRow : OpenClaim := { program := "ytdndpmlapcbjaaagreat", sum := "951acf5c8d0dd77b0ab3603bf77a9ce1a86f1548c5857bbbfb26b26405d8a126", func := "brazier/brazierlaw24.ScriptRenames", spec := "scriptRenames", inPlace := ["internal/bytealg.CountString", "internal/bytealg.IndexByteString", "internal/bytealg.IndexString", "internal/abi.NoEscape", "internal/bytealg.MakeNoZero"], unfollowed := true, recurses := true, named := ["internal/bytealg.MaxLen"], loops := true, apart := false }
def ScriptRenamesSaid : Prop := scriptRenamesRow.holds Tryz.pinned (OpenSpec.ofChange scriptRenamesSpec)

/-- ITS FALSE NEIGHBOUR: 'it returns false'. Refute it at one input. -/
def scriptRenamesWrong : ChangeSpec := { name := "scriptRenames", fn := fun _ => fun
  | [d1, d2, d3] => { results := [.lit (.bool false)], args := [d1, d2, d3] }
  | _ => none }
def ScriptRenamesWrongFalsely : Prop := scriptRenamesRow.holds Tryz.pinned (OpenSpec.ofChange scriptRenamesWrong)

/-- 'brazierlaw11.FlowMays': WHATEVER THE INPUT: true; the input reads as it did. -/
def flowMaysSpec : ChangeSpec := { name := "flowMays", fn := fun _ => fun
  | [d] => { results := [.lit (.bool true)], args := [d] }
  | _ => none }
def flowMaysRow : OpenClaim := { program := "ytdndpmlapcbjaaagreat", sum := "951acf5c8d0dd77b0ab3603bf77a9ce1a86f1548c5857bbbfb26b26405d8a126", func := "brazier/brazierlaw11.FlowMays", spec := "flowMays", inPlace := ["internal/bytealg.CountString", "internal/bytealg.IndexByteString", "internal/bytealg.IndexString"], unfollowed := true, recurses := true, named := ["internal/bytealg.MaxLen"], loops := true, apart := false }
def FlowMaysSaid : Prop := flowMaysRow.holds Tryz.pinned (OpenSpec.ofChange flowMaysSpec)

/-- ITS FALSE NEIGHBOUR: 'it returns false'. Refute it at one input. -/
def flowMaysWrong : ChangeSpec := { name := "flowMays", fn := fun _ => fun
  | [d] => { results := [.lit (.bool false)], args := [d] }
  | _ => none }
def FlowMaysWrongFalsely : Prop := flowMaysRow.holds Tryz.pinned (OpenSpec.ofChange flowMaysWrong)

/-- 'brazierlaw24.ScriptMany': WHATEVER THE INPUT: true; the input reads as it did. -/
def scriptManySpec : ChangeSpec := { name := "scriptMany", fn := fun _ => fun
  | [d] => { results := [.lit (.bool true)], args := [d] }
  | _ => none }
def scriptManyRow : OpenClaim := { program := "ytdndpmlapcbjaaagreat", sum := "951acf5c8d0dd77b0ab3603bf77a9ce1a86f1548c5857bbbfb26b26405d8a126", func := "brazier/brazierlaw24.ScriptMany", spec := "scriptMany", inPlace := ["internal/bytealg.CountString", "internal/bytealg.IndexByteString", "internal/bytealg.IndexString", "slices.overlaps[brazier/script.piece]", "internal/abi.NoEscape", "internal/bytealg.MakeNoZero"], unfollowed := true, recurses := true, named := ["internal/bytealg.MaxLen"], apart := false }
def ScriptManySaid : Prop := scriptManyRow.holds Tryz.pinned (OpenSpec.ofChange scriptManySpec)

/-- ITS FALSE NEIGHBOUR: 'it returns false'. Refute it at one input. -/
def scriptManyWrong : ChangeSpec := { name := "scriptMany", fn := fun _ => fun
  | [d] => { results := [.lit (.bool false)], args := [d] }
  | _ => none }
def ScriptManyWrongFalsely : Prop := scriptManyRow.holds Tryz.pinned (OpenSpec.ofChange scriptManyWrong)

/-- 'brazierlaw24.ScriptNobody': WHATEVER THE INPUT: true; the input reads as it did. -/
def scriptNobodySpec : ChangeSpec := { name := "scriptNobody", fn := fun _ => fun
  | [d1, d2] => { results := [.lit (.bool true)], args := [d1, d2] }
  | _ => none }
def scriptNobodyRow : OpenClaim := { program := "ytdndpmlapcbjaaagreat", sum := "951acf5c8d0dd77b0ab3603bf77a9ce1a86f1548c5857bbbfb26b26405d8a126", func := "brazier/brazierlaw24.ScriptNobody", spec := "scriptNobody", inPlace := ["internal/bytealg.CountString", "internal/bytealg.IndexByteString", "internal/bytealg.IndexString", "internal/abi.NoEscape", "internal/bytealg.MakeNoZero", "slices.overlaps[brazier/script.piece]"], unfollowed := true, recurses := true, named := ["internal/bytealg.MaxLen"], apart := false }
def ScriptNobodySaid : Prop := scriptNobodyRow.holds Tryz.pinned (OpenSpec.ofChange scriptNobodySpec)

/-- ITS FALSE NEIGHBOUR: 'it returns false'. Refute it at one input. -/
def scriptNobodyWrong : ChangeSpec := { name := "scriptNobody", fn := fun _ => fun
  | [d1, d2] => { results := [.lit (.bool false)], args := [d1, d2] }
  | _ => none }
def ScriptNobodyWrongFalsely : Prop := scriptNobodyRow.holds Tryz.pinned (OpenSpec.ofChange scriptNobodyWrong)

/- THE SECOND FORM. 'bulk': how many values and letters a reading holds, each counted each time it is reached (what is shared counts as often as it is met; a slice's spare places count too). A statement '..UptoSaid' is the law's where the arguments, and the package variables that the reading takes, are together of bulk at most 1048576: NARROWER than '..Said'. Prove '..Said' where nothing that the law and all that it calls make is longer than what came in: it says more and counts as full. Else prove '..UptoSaid'. A law counts once. -/
mutual
def uptoBulk {H : Type} : DataW H → Nat
  | .lit (.string bytes) => bytes.length + 1
  | .lit _ => 1
  | .nil => 1
  | .ptr d => uptoBulk d + 1
  | .slice elems spare => uptoBulkAll elems + uptoBulkAll spare + 1
  | .agg parts => uptoBulkAll parts + 1
  | .iface _ d => uptoBulk d + 1
  | .map entries => uptoBulkEntries entries + 1
  | .held _ => 1
def uptoBulkAll {H : Type} : List (DataW H) → Nat
  | [] => 0
  | d :: r => uptoBulk d + uptoBulkAll r
def uptoBulkEntries {H : Type} : List (Lit × DataW H) → Nat
  | [] => 0
  | x :: r => uptoBulkEntry x + uptoBulkEntries r
def uptoBulkEntry {H : Type} : Lit × DataW H → Nat
  | (.string bytes, d) => bytes.length + uptoBulk d + 1
  | (_, d) => uptoBulk d + 1
 end
def uptoSmall : (H : Type) → List (DataW H) → Bool := fun _ ds => decide (uptoBulkAll ds ≤ 1048576)
def OpenSpec.upto (s : _root_.Go.ChangeSpec) : _root_.Go.OpenSpec := { _root_.Go.OpenSpec.ofChange s with cond := some uptoSmall }

/-- 'brazierlaw06.CasTurned', WHERE WHAT IT READS IS OF BULK AT MOST 1048576: true; the input reads as it did. -/
def casTurnedUptoRow : OpenClaim := { program := "ytdndpmlapcbjaaagreat", sum := "951acf5c8d0dd77b0ab3603bf77a9ce1a86f1548c5857bbbfb26b26405d8a126", func := "brazier/brazierlaw06.CasTurned", spec := "casTurned", inPlace := ["slices.overlaps[string]", "slices.overlaps[int]", "internal/bytealg.Compare"], unfollowed := true, recurses := true, apart := false, narrowed := true }
def CasTurnedUptoSaid : Prop := casTurnedUptoRow.holds Tryz.pinned (OpenSpec.upto casTurnedSpec)

/-- 'brazierlaw06.CasPlays', WHERE WHAT IT READS IS OF BULK AT MOST 1048576: true; the input reads as it did. -/
def casPlaysUptoRow : OpenClaim := { program := "ytdndpmlapcbjaaagreat", sum := "951acf5c8d0dd77b0ab3603bf77a9ce1a86f1548c5857bbbfb26b26405d8a126", func := "brazier/brazierlaw06.CasPlays", spec := "casPlays", inPlace := ["slices.overlaps[string]", "slices.overlaps[int]", "internal/bytealg.Compare"], unfollowed := true, recurses := true, apart := false, narrowed := true }
def CasPlaysUptoSaid : Prop := casPlaysUptoRow.holds Tryz.pinned (OpenSpec.upto casPlaysSpec)

/-- 'brazierlaw06.CasNobody', WHERE WHAT IT READS IS OF BULK AT MOST 1048576: true; the input reads as it did. -/
def casNobodyUptoRow : OpenClaim := { program := "ytdndpmlapcbjaaagreat", sum := "951acf5c8d0dd77b0ab3603bf77a9ce1a86f1548c5857bbbfb26b26405d8a126", func := "brazier/brazierlaw06.CasNobody", spec := "casNobody", inPlace := ["slices.overlaps[string]", "slices.overlaps[int]", "internal/bytealg.Compare"], unfollowed := true, recurses := true, apart := false, narrowed := true }
def CasNobodyUptoSaid : Prop := casNobodyUptoRow.holds Tryz.pinned (OpenSpec.upto casNobodySpec)

/-- 'brazierlaw24.ScriptRenames', WHERE WHAT IT READS IS OF BULK AT MOST 1048576: true; the input reads as it did. -/
def scriptRenamesUptoRow : OpenClaim := { program := "ytdndpmlapcbjaaagreat", sum := "951acf5c8d0dd77b0ab3603bf77a9ce1a86f1548c5857bbbfb26b26405d8a126", func := "brazier/brazierlaw24.ScriptRenames", spec := "scriptRenames", inPlace := ["internal/bytealg.CountString", "internal/bytealg.IndexByteString", "internal/bytealg.IndexString", "internal/abi.NoEscape", "internal/bytealg.MakeNoZero"], unfollowed := true, recurses := true, named := ["internal/bytealg.MaxLen"], loops := true, apart := false, narrowed := true }
def ScriptRenamesUptoSaid : Prop := scriptRenamesUptoRow.holds Tryz.pinned (OpenSpec.upto scriptRenamesSpec)

/-- 'brazierlaw11.FlowMays', WHERE WHAT IT READS IS OF BULK AT MOST 1048576: true; the input reads as it did. -/
def flowMaysUptoRow : OpenClaim := { program := "ytdndpmlapcbjaaagreat", sum := "951acf5c8d0dd77b0ab3603bf77a9ce1a86f1548c5857bbbfb26b26405d8a126", func := "brazier/brazierlaw11.FlowMays", spec := "flowMays", inPlace := ["internal/bytealg.CountString", "internal/bytealg.IndexByteString", "internal/bytealg.IndexString"], unfollowed := true, recurses := true, named := ["internal/bytealg.MaxLen"], loops := true, apart := false, narrowed := true }
def FlowMaysUptoSaid : Prop := flowMaysUptoRow.holds Tryz.pinned (OpenSpec.upto flowMaysSpec)

/-- 'brazierlaw24.ScriptMany', WHERE WHAT IT READS IS OF BULK AT MOST 1048576: true; the input reads as it did. -/
def scriptManyUptoRow : OpenClaim := { program := "ytdndpmlapcbjaaagreat", sum := "951acf5c8d0dd77b0ab3603bf77a9ce1a86f1548c5857bbbfb26b26405d8a126", func := "brazier/brazierlaw24.ScriptMany", spec := "scriptMany", inPlace := ["internal/bytealg.CountString", "internal/bytealg.IndexByteString", "internal/bytealg.IndexString", "slices.overlaps[brazier/script.piece]", "internal/abi.NoEscape", "internal/bytealg.MakeNoZero"], unfollowed := true, recurses := true, named := ["internal/bytealg.MaxLen"], apart := false, narrowed := true }
def ScriptManyUptoSaid : Prop := scriptManyUptoRow.holds Tryz.pinned (OpenSpec.upto scriptManySpec)

/-- 'brazierlaw24.ScriptNobody', WHERE WHAT IT READS IS OF BULK AT MOST 1048576: true; the input reads as it did. -/
def scriptNobodyUptoRow : OpenClaim := { program := "ytdndpmlapcbjaaagreat", sum := "951acf5c8d0dd77b0ab3603bf77a9ce1a86f1548c5857bbbfb26b26405d8a126", func := "brazier/brazierlaw24.ScriptNobody", spec := "scriptNobody", inPlace := ["internal/bytealg.CountString", "internal/bytealg.IndexByteString", "internal/bytealg.IndexString", "internal/abi.NoEscape", "internal/bytealg.MakeNoZero", "slices.overlaps[brazier/script.piece]"], unfollowed := true, recurses := true, named := ["internal/bytealg.MaxLen"], apart := false, narrowed := true }
def ScriptNobodyUptoSaid : Prop := scriptNobodyUptoRow.holds Tryz.pinned (OpenSpec.upto scriptNobodySpec)

end Rows
end Go.Proofs.YtdndpmlapcbjaaaGreat
