/-
  No cell of these rows narrows 'for every input' (looked for: loops, veiled, ifaces, maps, wideKeys, modest, calm, conditions, laid).
  DERIVED. THE GIVEN ROWS OF THIS SEAT. 9 by the template 'for every input the law returns true; each argument reads behind the call as it read before'; 0 by the template 'total and deterministic' (their statements: YtdddbljkhhbdlaaTotals.lean).
  GIVEN WITH THE SEED: the statements are not yours to turn. If you find one false, say at which input.
  Laid BY PROGRAM, IN A SANDBOX (cutbox-rows.mjs): the forced cells as the released guide's own fill.sh prints them over the translation ead9dccb02122cbc… (all of the seat's roots in one cut). By AI agents, Wed Nov 11 2026. No macro, syntax, notation, axiom, sorry.
-/
import Derived.Test.YtdddbljkhhbdlaaChecked
import GoSem.Claim
import GoSem.ClaimJoined
import GoSem.ClaimMapViews
import Derived.JoinedTies
import Derived.KernelRfl
namespace Go.Proofs.Ytdddbljkhhbdlaa
/- THE CELL 'sum', in the pinned program and in every row, IS THE sha256 OF THE DUMP (.gsa) THAT YtdddbljkhhbdlaaProg.lean LOADS. Nothing in Lean hashes anything: it is a label: what it is worth is what the hold of that sum in a sandbox is worth. -/
noncomputable def Try.pinned : Pinned := { name := "ytdddbljkhhbdlaa", sum := "ead9dccb02122cbc9626e1034183ac43ef5cfcf6c636819997699251d22ec77d", checked := Try.checked }
namespace Rows
def none {H : Type} : Left H := { results := [], args := [] }

/-- 'pupillaw19.DataShards': WHATEVER THE INPUT: true; the input reads as it did. -/
def dataShardsSpec : ChangeSpec := { name := "dataShards", fn := fun _ => fun
  | [d1, d2] => { results := [.lit (.bool true)], args := [d1, d2] }
  | _ => none }
def dataShardsRow : OpenClaim := { program := "ytdddbljkhhbdlaa", sum := "ead9dccb02122cbc9626e1034183ac43ef5cfcf6c636819997699251d22ec77d", func := "pupil/pupillaw19.DataShards", spec := "dataShards", apart := false }
def DataShardsSaid : Prop := dataShardsRow.holds Try.pinned (OpenSpec.ofChange dataShardsSpec)

/-- ITS FALSE NEIGHBOUR: 'it returns false'. Refute it at one input. -/
def dataShardsWrong : ChangeSpec := { name := "dataShards", fn := fun _ => fun
  | [d1, d2] => { results := [.lit (.bool false)], args := [d1, d2] }
  | _ => none }
def DataShardsWrongFalsely : Prop := dataShardsRow.holds Try.pinned (OpenSpec.ofChange dataShardsWrong)

/-- 'pupillaw19.DataDeals': WHATEVER THE INPUT: true; the input reads as it did. -/
def dataDealsSpec : ChangeSpec := { name := "dataDeals", fn := fun _ => fun
  | [d1, d2] => { results := [.lit (.bool true)], args := [d1, d2] }
  | _ => none }
def dataDealsRow : OpenClaim := { program := "ytdddbljkhhbdlaa", sum := "ead9dccb02122cbc9626e1034183ac43ef5cfcf6c636819997699251d22ec77d", func := "pupil/pupillaw19.DataDeals", spec := "dataDeals", apart := false }
def DataDealsSaid : Prop := dataDealsRow.holds Try.pinned (OpenSpec.ofChange dataDealsSpec)

/-- ITS FALSE NEIGHBOUR: 'it returns false'. Refute it at one input. -/
def dataDealsWrong : ChangeSpec := { name := "dataDeals", fn := fun _ => fun
  | [d1, d2] => { results := [.lit (.bool false)], args := [d1, d2] }
  | _ => none }
def DataDealsWrongFalsely : Prop := dataDealsRow.holds Try.pinned (OpenSpec.ofChange dataDealsWrong)

/-- 'pupillaw19.DataChecks': WHATEVER THE INPUT: true; the input reads as it did. -/
def dataChecksSpec : ChangeSpec := { name := "dataChecks", fn := fun _ => fun
  | [d] => { results := [.lit (.bool true)], args := [d] }
  | _ => none }
def dataChecksRow : OpenClaim := { program := "ytdddbljkhhbdlaa", sum := "ead9dccb02122cbc9626e1034183ac43ef5cfcf6c636819997699251d22ec77d", func := "pupil/pupillaw19.DataChecks", spec := "dataChecks", unfollowed := true, recurses := true, apart := false }
def DataChecksSaid : Prop := dataChecksRow.holds Try.pinned (OpenSpec.ofChange dataChecksSpec)

/-- ITS FALSE NEIGHBOUR: 'it returns false'. Refute it at one input. -/
def dataChecksWrong : ChangeSpec := { name := "dataChecks", fn := fun _ => fun
  | [d] => { results := [.lit (.bool false)], args := [d] }
  | _ => none }
def DataChecksWrongFalsely : Prop := dataChecksRow.holds Try.pinned (OpenSpec.ofChange dataChecksWrong)

/-- 'pupillaw19.DataRows': WHATEVER THE INPUT: true; the input reads as it did. -/
def dataRowsSpec : ChangeSpec := { name := "dataRows", fn := fun _ => fun
  | [d1, d2] => { results := [.lit (.bool true)], args := [d1, d2] }
  | _ => none }
def dataRowsRow : OpenClaim := { program := "ytdddbljkhhbdlaa", sum := "ead9dccb02122cbc9626e1034183ac43ef5cfcf6c636819997699251d22ec77d", func := "pupil/pupillaw19.DataRows", spec := "dataRows", unfollowed := true, recurses := true, apart := false }
def DataRowsSaid : Prop := dataRowsRow.holds Try.pinned (OpenSpec.ofChange dataRowsSpec)

/-- ITS FALSE NEIGHBOUR: 'it returns false'. Refute it at one input. -/
def dataRowsWrong : ChangeSpec := { name := "dataRows", fn := fun _ => fun
  | [d1, d2] => { results := [.lit (.bool false)], args := [d1, d2] }
  | _ => none }
def DataRowsWrongFalsely : Prop := dataRowsRow.holds Try.pinned (OpenSpec.ofChange dataRowsWrong)

/-- 'pupillaw17.OptimElements': WHATEVER THE INPUT: true; the input reads as it did. -/
def optimElementsSpec : ChangeSpec := { name := "optimElements", fn := fun _ => fun
  | [d] => { results := [.lit (.bool true)], args := [d] }
  | _ => none }
def optimElementsRow : OpenClaim := { program := "ytdddbljkhhbdlaa", sum := "ead9dccb02122cbc9626e1034183ac43ef5cfcf6c636819997699251d22ec77d", func := "pupil/pupillaw17.OptimElements", spec := "optimElements", inPlace := ["math.Float64frombits", "math.Float64bits", "math.Float32bits", "math.Float32frombits", "math.sqrt"], unfollowed := true, recurses := true, apart := false }
def OptimElementsSaid : Prop := optimElementsRow.holds Try.pinned (OpenSpec.ofChange optimElementsSpec)

/-- ITS FALSE NEIGHBOUR: 'it returns false'. Refute it at one input. -/
def optimElementsWrong : ChangeSpec := { name := "optimElements", fn := fun _ => fun
  | [d] => { results := [.lit (.bool false)], args := [d] }
  | _ => none }
def OptimElementsWrongFalsely : Prop := optimElementsRow.holds Try.pinned (OpenSpec.ofChange optimElementsWrong)

/-- 'pupillaw17.OptimNarrow': WHATEVER THE INPUT: true; the input reads as it did. -/
def optimNarrowSpec : ChangeSpec := { name := "optimNarrow", fn := fun _ => fun
  | [d1, d2, d3] => { results := [.lit (.bool true)], args := [d1, d2, d3] }
  | _ => none }
def optimNarrowRow : OpenClaim := { program := "ytdddbljkhhbdlaa", sum := "ead9dccb02122cbc9626e1034183ac43ef5cfcf6c636819997699251d22ec77d", func := "pupil/pupillaw17.OptimNarrow", spec := "optimNarrow", inPlace := ["math.Float64frombits", "math.Float64bits", "math.Float32bits", "math.Float32frombits", "math.sqrt"], unfollowed := true, recurses := true, apart := false }
def OptimNarrowSaid : Prop := optimNarrowRow.holds Try.pinned (OpenSpec.ofChange optimNarrowSpec)

/-- ITS FALSE NEIGHBOUR: 'it returns false'. Refute it at one input. -/
def optimNarrowWrong : ChangeSpec := { name := "optimNarrow", fn := fun _ => fun
  | [d1, d2, d3] => { results := [.lit (.bool false)], args := [d1, d2, d3] }
  | _ => none }
def OptimNarrowWrongFalsely : Prop := optimNarrowRow.holds Try.pinned (OpenSpec.ofChange optimNarrowWrong)

/-- 'pupillaw17.OptimWhole': WHATEVER THE INPUT: true; the input reads as it did. -/
def optimWholeSpec : ChangeSpec := { name := "optimWhole", fn := fun _ => fun
  | [d1, d2, d3, d4] => { results := [.lit (.bool true)], args := [d1, d2, d3, d4] }
  | _ => none }
def optimWholeRow : OpenClaim := { program := "ytdddbljkhhbdlaa", sum := "ead9dccb02122cbc9626e1034183ac43ef5cfcf6c636819997699251d22ec77d", func := "pupil/pupillaw17.OptimWhole", spec := "optimWhole", inPlace := ["math.Float64frombits", "math.Float64bits", "math.Float32bits", "math.Float32frombits", "math.sqrt", "math.RoundToEven"], unfollowed := true, recurses := true, apart := false }
def OptimWholeSaid : Prop := optimWholeRow.holds Try.pinned (OpenSpec.ofChange optimWholeSpec)

/-- ITS FALSE NEIGHBOUR: 'it returns false'. Refute it at one input. -/
def optimWholeWrong : ChangeSpec := { name := "optimWhole", fn := fun _ => fun
  | [d1, d2, d3, d4] => { results := [.lit (.bool false)], args := [d1, d2, d3, d4] }
  | _ => none }
def OptimWholeWrongFalsely : Prop := optimWholeRow.holds Try.pinned (OpenSpec.ofChange optimWholeWrong)

/-- 'pupillaw19.DataBatches': WHATEVER THE INPUT: true; the input reads as it did. -/
def dataBatchesSpec : ChangeSpec := { name := "dataBatches", fn := fun _ => fun
  | [d1, d2, d3, d4, d5] => { results := [.lit (.bool true)], args := [d1, d2, d3, d4, d5] }
  | _ => none }
def dataBatchesRow : OpenClaim := { program := "ytdddbljkhhbdlaa", sum := "ead9dccb02122cbc9626e1034183ac43ef5cfcf6c636819997699251d22ec77d", func := "pupil/pupillaw19.DataBatches", spec := "dataBatches", recurses := true, apart := false }
def DataBatchesSaid : Prop := dataBatchesRow.holds Try.pinned (OpenSpec.ofChange dataBatchesSpec)

/-- ITS FALSE NEIGHBOUR: 'it returns false'. Refute it at one input. -/
def dataBatchesWrong : ChangeSpec := { name := "dataBatches", fn := fun _ => fun
  | [d1, d2, d3, d4, d5] => { results := [.lit (.bool false)], args := [d1, d2, d3, d4, d5] }
  | _ => none }
def DataBatchesWrongFalsely : Prop := dataBatchesRow.holds Try.pinned (OpenSpec.ofChange dataBatchesWrong)

/-- 'pupillaw19.DataOnce': WHATEVER THE INPUT: true; the input reads as it did. -/
def dataOnceSpec : ChangeSpec := { name := "dataOnce", fn := fun _ => fun
  | [d1, d2, d3, d4] => { results := [.lit (.bool true)], args := [d1, d2, d3, d4] }
  | _ => none }
def dataOnceRow : OpenClaim := { program := "ytdddbljkhhbdlaa", sum := "ead9dccb02122cbc9626e1034183ac43ef5cfcf6c636819997699251d22ec77d", func := "pupil/pupillaw19.DataOnce", spec := "dataOnce", recurses := true, apart := false }
def DataOnceSaid : Prop := dataOnceRow.holds Try.pinned (OpenSpec.ofChange dataOnceSpec)

/-- ITS FALSE NEIGHBOUR: 'it returns false'. Refute it at one input. -/
def dataOnceWrong : ChangeSpec := { name := "dataOnce", fn := fun _ => fun
  | [d1, d2, d3, d4] => { results := [.lit (.bool false)], args := [d1, d2, d3, d4] }
  | _ => none }
def DataOnceWrongFalsely : Prop := dataOnceRow.holds Try.pinned (OpenSpec.ofChange dataOnceWrong)

/- THE SECOND FORM. 'bulk': how many values and letters a reading holds, each counted each time it is reached (what is shared counts as often as it is met; a slice's spare places count too). A statement '..UptoSaid' is the law's where the arguments, and the package variables that the reading takes, are together of bulk at most 1048576: NARROWER than '..Said'. Prove '..Said' where nothing that the law and all that it calls make is longer than what came in: it says more and counts as full. Else prove '..UptoSaid'. A law counts once. -/
mutual
def uptoBulk {H : Type} : DataW H → Nat
  | .lit (.string bytes) => bytes.length + 1
  | .lit _ => 1
  | .nil => 1
  | .ptr d => uptoBulk d + 1
  | .slice elems spare => uptoBulkAll elems + uptoBulkAll spare + 1
  | .agg parts => uptoBulkAll parts + 1
  | .iface _ d => uptoBulk d + 1
  | .map entries => uptoBulkEntries entries + 1
  | .held _ => 1
def uptoBulkAll {H : Type} : List (DataW H) → Nat
  | [] => 0
  | d :: r => uptoBulk d + uptoBulkAll r
def uptoBulkEntries {H : Type} : List (Lit × DataW H) → Nat
  | [] => 0
  | x :: r => uptoBulkEntry x + uptoBulkEntries r
def uptoBulkEntry {H : Type} : Lit × DataW H → Nat
  | (.string bytes, d) => bytes.length + uptoBulk d + 1
  | (_, d) => uptoBulk d + 1
 end
def uptoSmall : (H : Type) → List (DataW H) → Bool := fun _ ds => decide (uptoBulkAll ds ≤ 1048576)
def OpenSpec.upto (s : _root_.Go.ChangeSpec) : _root_.Go.OpenSpec := { _root_.Go.OpenSpec.ofChange s with cond := some uptoSmall }

/-- 'pupillaw19.DataShards', WHERE WHAT IT READS IS OF BULK AT MOST 1048576: true; the input reads as it did. -/
def dataShardsUptoRow : OpenClaim := { program := "ytdddbljkhhbdlaa", sum := "ead9dccb02122cbc9626e1034183ac43ef5cfcf6c636819997699251d22ec77d", func := "pupil/pupillaw19.DataShards", spec := "dataShards", apart := false, narrowed := true }
def DataShardsUptoSaid : Prop := dataShardsUptoRow.holds Try.pinned (OpenSpec.upto dataShardsSpec)

/-- 'pupillaw19.DataDeals', WHERE WHAT IT READS IS OF BULK AT MOST 1048576: true; the input reads as it did. -/
def dataDealsUptoRow : OpenClaim := { program := "ytdddbljkhhbdlaa", sum := "ead9dccb02122cbc9626e1034183ac43ef5cfcf6c636819997699251d22ec77d", func := "pupil/pupillaw19.DataDeals", spec := "dataDeals", apart := false, narrowed := true }
def DataDealsUptoSaid : Prop := dataDealsUptoRow.holds Try.pinned (OpenSpec.upto dataDealsSpec)

/-- 'pupillaw19.DataChecks', WHERE WHAT IT READS IS OF BULK AT MOST 1048576: true; the input reads as it did. -/
def dataChecksUptoRow : OpenClaim := { program := "ytdddbljkhhbdlaa", sum := "ead9dccb02122cbc9626e1034183ac43ef5cfcf6c636819997699251d22ec77d", func := "pupil/pupillaw19.DataChecks", spec := "dataChecks", unfollowed := true, recurses := true, apart := false, narrowed := true }
def DataChecksUptoSaid : Prop := dataChecksUptoRow.holds Try.pinned (OpenSpec.upto dataChecksSpec)

/-- 'pupillaw19.DataRows', WHERE WHAT IT READS IS OF BULK AT MOST 1048576: true; the input reads as it did. -/
def dataRowsUptoRow : OpenClaim := { program := "ytdddbljkhhbdlaa", sum := "ead9dccb02122cbc9626e1034183ac43ef5cfcf6c636819997699251d22ec77d", func := "pupil/pupillaw19.DataRows", spec := "dataRows", unfollowed := true, recurses := true, apart := false, narrowed := true }
def DataRowsUptoSaid : Prop := dataRowsUptoRow.holds Try.pinned (OpenSpec.upto dataRowsSpec)

/-- 'pupillaw17.OptimElements', WHERE WHAT IT READS IS OF BULK AT MOST 1048576: true; the input reads as it did. -/
def optimElementsUptoRow : OpenClaim := { program := "ytdddbljkhhbdlaa", sum := "ead9dccb02122cbc9626e1034183ac43ef5cfcf6c636819997699251d22ec77d", func := "pupil/pupillaw17.OptimElements", spec := "optimElements", inPlace := ["math.Float64frombits", "math.Float64bits", "math.Float32bits", "math.Float32frombits", "math.sqrt"], unfollowed := true, recurses := true, apart := false, narrowed := true }
def OptimElementsUptoSaid : Prop := optimElementsUptoRow.holds Try.pinned (OpenSpec.upto optimElementsSpec)

/-- 'pupillaw17.OptimNarrow', WHERE WHAT IT READS IS OF BULK AT MOST 1048576: true; the input reads as it did. -/
def optimNarrowUptoRow : OpenClaim := { program := "ytdddbljkhhbdlaa", sum := "ead9dccb02122cbc9626e1034183ac43ef5cfcf6c636819997699251d22ec77d", func := "pupil/pupillaw17.OptimNarrow", spec := "optimNarrow", inPlace := ["math.Float64frombits", "math.Float64bits", "math.Float32bits", "math.Float32frombits", "math.sqrt"], unfollowed := true, recurses := true, apart := false, narrowed := true }
def OptimNarrowUptoSaid : Prop := optimNarrowUptoRow.holds Try.pinned (OpenSpec.upto optimNarrowSpec)

/-- 'pupillaw17.OptimWhole', WHERE WHAT IT READS IS OF BULK AT MOST 1048576: true; the input reads as it did. -/
def optimWholeUptoRow : OpenClaim := { program := "ytdddbljkhhbdlaa", sum := "ead9dccb02122cbc9626e1034183ac43ef5cfcf6c636819997699251d22ec77d", func := "pupil/pupillaw17.OptimWhole", spec := "optimWhole", inPlace := ["math.Float64frombits", "math.Float64bits", "math.Float32bits", "math.Float32frombits", "math.sqrt", "math.RoundToEven"], unfollowed := true, recurses := true, apart := false, narrowed := true }
def OptimWholeUptoSaid : Prop := optimWholeUptoRow.holds Try.pinned (OpenSpec.upto optimWholeSpec)

/-- 'pupillaw19.DataBatches', WHERE WHAT IT READS IS OF BULK AT MOST 1048576: true; the input reads as it did. -/
def dataBatchesUptoRow : OpenClaim := { program := "ytdddbljkhhbdlaa", sum := "ead9dccb02122cbc9626e1034183ac43ef5cfcf6c636819997699251d22ec77d", func := "pupil/pupillaw19.DataBatches", spec := "dataBatches", recurses := true, apart := false, narrowed := true }
def DataBatchesUptoSaid : Prop := dataBatchesUptoRow.holds Try.pinned (OpenSpec.upto dataBatchesSpec)

/-- 'pupillaw19.DataOnce', WHERE WHAT IT READS IS OF BULK AT MOST 1048576: true; the input reads as it did. -/
def dataOnceUptoRow : OpenClaim := { program := "ytdddbljkhhbdlaa", sum := "ead9dccb02122cbc9626e1034183ac43ef5cfcf6c636819997699251d22ec77d", func := "pupil/pupillaw19.DataOnce", spec := "dataOnce", recurses := true, apart := false, narrowed := true }
def DataOnceUptoSaid : Prop := dataOnceUptoRow.holds Try.pinned (OpenSpec.upto dataOnceSpec)

end Rows
end Go.Proofs.Ytdddbljkhhbdlaa
