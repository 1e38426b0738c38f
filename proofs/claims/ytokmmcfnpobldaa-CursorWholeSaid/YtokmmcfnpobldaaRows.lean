/-
  No cell of these rows narrows 'for every input' (looked for: loops, veiled, ifaces, maps, wideKeys, modest, calm, conditions, laid).
  DERIVED. THE GIVEN ROWS OF THIS SEAT. 13 by the template 'for every input the law returns true; each argument reads behind the call as it read before'; 0 by the template 'total and deterministic' (their statements: YtokmmcfnpobldaaTotals.lean).
  GIVEN WITH THE SEED: the statements are not yours to turn. If you find one false, say at which input.
  Laid BY PROGRAM, IN A SANDBOX (cutbox-rows.mjs): the forced cells as the released guide's own fill.sh prints them over the translation 0bf07d878ef74909… (all of the seat's roots in one cut). By AI agents, Wed Nov 11 2026. No macro, syntax, notation, axiom, sorry.
-/
import Derived.Test.YtokmmcfnpobldaaChecked
import GoSem.Claim
import GoSem.ClaimJoined
import GoSem.ClaimMapViews
import Derived.JoinedTies
import Derived.KernelRfl
namespace Go.Proofs.Ytokmmcfnpobldaa
/- THE CELL 'sum', in the pinned program and in every row, IS THE sha256 OF THE DUMP (.gsa) THAT YtokmmcfnpobldaaProg.lean LOADS. Nothing in Lean hashes anything: it is a label: what it is worth is what the hold of that sum in a sandbox is worth. -/
noncomputable def Try.pinned : Pinned := { name := "ytokmmcfnpobldaa", sum := "0bf07d878ef7490924d48752ee1de37b559a85fb75b8a5e250975ba0385d6cc3", checked := Try.checked }
namespace Rows
def none {H : Type} : Left H := { results := [], args := [] }

/-- 'whorllaw1.VarintPuts': WHATEVER THE INPUT: true; the input reads as it did. -/
def varintPutsSpec : ChangeSpec := { name := "varintPuts", fn := fun _ => fun
  | [d1, d2] => { results := [.lit (.bool true)], args := [d1, d2] }
  | _ => none }
def varintPutsRow : OpenClaim := { program := "ytokmmcfnpobldaa", sum := "0bf07d878ef7490924d48752ee1de37b559a85fb75b8a5e250975ba0385d6cc3", func := "whorl/whorllaw1.VarintPuts", spec := "varintPuts", unfollowed := true, recurses := true, apart := false }
def VarintPutsSaid : Prop := varintPutsRow.holds Try.pinned (OpenSpec.ofChange varintPutsSpec)

/-- ITS FALSE NEIGHBOUR: 'it returns false'. Refute it at one input. -/
def varintPutsWrong : ChangeSpec := { name := "varintPuts", fn := fun _ => fun
  | [d1, d2] => { results := [.lit (.bool false)], args := [d1, d2] }
  | _ => none }
def VarintPutsWrongFalsely : Prop := varintPutsRow.holds Try.pinned (OpenSpec.ofChange varintPutsWrong)

/-- 'whorllaw1.VarintGets': WHATEVER THE INPUT: true; the input reads as it did. -/
def varintGetsSpec : ChangeSpec := { name := "varintGets", fn := fun _ => fun
  | [d] => { results := [.lit (.bool true)], args := [d] }
  | _ => none }
def varintGetsRow : OpenClaim := { program := "ytokmmcfnpobldaa", sum := "0bf07d878ef7490924d48752ee1de37b559a85fb75b8a5e250975ba0385d6cc3", func := "whorl/whorllaw1.VarintGets", spec := "varintGets", unfollowed := true, recurses := true, apart := false }
def VarintGetsSaid : Prop := varintGetsRow.holds Try.pinned (OpenSpec.ofChange varintGetsSpec)

/-- ITS FALSE NEIGHBOUR: 'it returns false'. Refute it at one input. -/
def varintGetsWrong : ChangeSpec := { name := "varintGets", fn := fun _ => fun
  | [d] => { results := [.lit (.bool false)], args := [d] }
  | _ => none }
def VarintGetsWrongFalsely : Prop := varintGetsRow.holds Try.pinned (OpenSpec.ofChange varintGetsWrong)

/-- 'whorllaw1.VarintLeast': WHATEVER THE INPUT: true; the input reads as it did. -/
def varintLeastSpec : ChangeSpec := { name := "varintLeast", fn := fun _ => fun
  | [d1, d2] => { results := [.lit (.bool true)], args := [d1, d2] }
  | _ => none }
def varintLeastRow : OpenClaim := { program := "ytokmmcfnpobldaa", sum := "0bf07d878ef7490924d48752ee1de37b559a85fb75b8a5e250975ba0385d6cc3", func := "whorl/whorllaw1.VarintLeast", spec := "varintLeast", unfollowed := true, recurses := true, apart := false }
def VarintLeastSaid : Prop := varintLeastRow.holds Try.pinned (OpenSpec.ofChange varintLeastSpec)

/-- ITS FALSE NEIGHBOUR: 'it returns false'. Refute it at one input. -/
def varintLeastWrong : ChangeSpec := { name := "varintLeast", fn := fun _ => fun
  | [d1, d2] => { results := [.lit (.bool false)], args := [d1, d2] }
  | _ => none }
def VarintLeastWrongFalsely : Prop := varintLeastRow.holds Try.pinned (OpenSpec.ofChange varintLeastWrong)

/-- 'whorllaw1.VarintLong': WHATEVER THE INPUT: true; the input reads as it did. -/
def varintLongSpec : ChangeSpec := { name := "varintLong", fn := fun _ => fun
  | [d] => { results := [.lit (.bool true)], args := [d] }
  | _ => none }
def varintLongRow : OpenClaim := { program := "ytokmmcfnpobldaa", sum := "0bf07d878ef7490924d48752ee1de37b559a85fb75b8a5e250975ba0385d6cc3", func := "whorl/whorllaw1.VarintLong", spec := "varintLong", unfollowed := true, recurses := true, apart := false }
def VarintLongSaid : Prop := varintLongRow.holds Try.pinned (OpenSpec.ofChange varintLongSpec)

/-- ITS FALSE NEIGHBOUR: 'it returns false'. Refute it at one input. -/
def varintLongWrong : ChangeSpec := { name := "varintLong", fn := fun _ => fun
  | [d] => { results := [.lit (.bool false)], args := [d] }
  | _ => none }
def VarintLongWrongFalsely : Prop := varintLongRow.holds Try.pinned (OpenSpec.ofChange varintLongWrong)

/-- 'whorllaw5.PeriodTells': WHATEVER THE INPUT: true; the input reads as it did. -/
def periodTellsSpec : ChangeSpec := { name := "periodTells", fn := fun _ => fun
  | [d] => { results := [.lit (.bool true)], args := [d] }
  | _ => none }
def periodTellsRow : OpenClaim := { program := "ytokmmcfnpobldaa", sum := "0bf07d878ef7490924d48752ee1de37b559a85fb75b8a5e250975ba0385d6cc3", func := "whorl/whorllaw5.PeriodTells", spec := "periodTells", apart := false }
def PeriodTellsSaid : Prop := periodTellsRow.holds Try.pinned (OpenSpec.ofChange periodTellsSpec)

/-- ITS FALSE NEIGHBOUR: 'it returns false'. Refute it at one input. -/
def periodTellsWrong : ChangeSpec := { name := "periodTells", fn := fun _ => fun
  | [d] => { results := [.lit (.bool false)], args := [d] }
  | _ => none }
def PeriodTellsWrongFalsely : Prop := periodTellsRow.holds Try.pinned (OpenSpec.ofChange periodTellsWrong)

/-- 'whorllaw5.PeriodTimes': WHATEVER THE INPUT: true; the input reads as it did. -/
def periodTimesSpec : ChangeSpec := { name := "periodTimes", fn := fun _ => fun
  | [d1, d2] => { results := [.lit (.bool true)], args := [d1, d2] }
  | _ => none }
def periodTimesRow : OpenClaim := { program := "ytokmmcfnpobldaa", sum := "0bf07d878ef7490924d48752ee1de37b559a85fb75b8a5e250975ba0385d6cc3", func := "whorl/whorllaw5.PeriodTimes", spec := "periodTimes", apart := false }
def PeriodTimesSaid : Prop := periodTimesRow.holds Try.pinned (OpenSpec.ofChange periodTimesSpec)

/-- ITS FALSE NEIGHBOUR: 'it returns false'. Refute it at one input. -/
def periodTimesWrong : ChangeSpec := { name := "periodTimes", fn := fun _ => fun
  | [d1, d2] => { results := [.lit (.bool false)], args := [d1, d2] }
  | _ => none }
def PeriodTimesWrongFalsely : Prop := periodTimesRow.holds Try.pinned (OpenSpec.ofChange periodTimesWrong)

/-- 'whorllaw5.PeriodLast': WHATEVER THE INPUT: true; the input reads as it did. -/
def periodLastSpec : ChangeSpec := { name := "periodLast", fn := fun _ => fun
  | [d] => { results := [.lit (.bool true)], args := [d] }
  | _ => none }
def periodLastRow : OpenClaim := { program := "ytokmmcfnpobldaa", sum := "0bf07d878ef7490924d48752ee1de37b559a85fb75b8a5e250975ba0385d6cc3", func := "whorl/whorllaw5.PeriodLast", spec := "periodLast", apart := false }
def PeriodLastSaid : Prop := periodLastRow.holds Try.pinned (OpenSpec.ofChange periodLastSpec)

/-- ITS FALSE NEIGHBOUR: 'it returns false'. Refute it at one input. -/
def periodLastWrong : ChangeSpec := { name := "periodLast", fn := fun _ => fun
  | [d] => { results := [.lit (.bool false)], args := [d] }
  | _ => none }
def PeriodLastWrongFalsely : Prop := periodLastRow.holds Try.pinned (OpenSpec.ofChange periodLastWrong)

/-- 'whorllaw5.PeriodOwn': WHATEVER THE INPUT: true; the input reads as it did. -/
def periodOwnSpec : ChangeSpec := { name := "periodOwn", fn := fun _ => fun
  | [d] => { results := [.lit (.bool true)], args := [d] }
  | _ => none }
def periodOwnRow : OpenClaim := { program := "ytokmmcfnpobldaa", sum := "0bf07d878ef7490924d48752ee1de37b559a85fb75b8a5e250975ba0385d6cc3", func := "whorl/whorllaw5.PeriodOwn", spec := "periodOwn", apart := false }
def PeriodOwnSaid : Prop := periodOwnRow.holds Try.pinned (OpenSpec.ofChange periodOwnSpec)

/-- ITS FALSE NEIGHBOUR: 'it returns false'. Refute it at one input. -/
def periodOwnWrong : ChangeSpec := { name := "periodOwn", fn := fun _ => fun
  | [d] => { results := [.lit (.bool false)], args := [d] }
  | _ => none }
def PeriodOwnWrongFalsely : Prop := periodOwnRow.holds Try.pinned (OpenSpec.ofChange periodOwnWrong)

/-- 'whorllaw5.PeriodAll': WHATEVER THE INPUT: true; the input reads as it did. -/
def periodAllSpec : ChangeSpec := { name := "periodAll", fn := fun _ => fun
  | [d] => { results := [.lit (.bool true)], args := [d] }
  | _ => none }
def periodAllRow : OpenClaim := { program := "ytokmmcfnpobldaa", sum := "0bf07d878ef7490924d48752ee1de37b559a85fb75b8a5e250975ba0385d6cc3", func := "whorl/whorllaw5.PeriodAll", spec := "periodAll", apart := false }
def PeriodAllSaid : Prop := periodAllRow.holds Try.pinned (OpenSpec.ofChange periodAllSpec)

/-- ITS FALSE NEIGHBOUR: 'it returns false'. Refute it at one input. -/
def periodAllWrong : ChangeSpec := { name := "periodAll", fn := fun _ => fun
  | [d] => { results := [.lit (.bool false)], args := [d] }
  | _ => none }
def PeriodAllWrongFalsely : Prop := periodAllRow.holds Try.pinned (OpenSpec.ofChange periodAllWrong)

/-- 'whorllaw1.VarintFour': WHATEVER THE INPUT: true; the input reads as it did. -/
def varintFourSpec : ChangeSpec := { name := "varintFour", fn := fun _ => fun
  | [d] => { results := [.lit (.bool true)], args := [d] }
  | _ => none }
def varintFourRow : OpenClaim := { program := "ytokmmcfnpobldaa", sum := "0bf07d878ef7490924d48752ee1de37b559a85fb75b8a5e250975ba0385d6cc3", func := "whorl/whorllaw1.VarintFour", spec := "varintFour", unfollowed := true, recurses := true, apart := false }
def VarintFourSaid : Prop := varintFourRow.holds Try.pinned (OpenSpec.ofChange varintFourSpec)

/-- ITS FALSE NEIGHBOUR: 'it returns false'. Refute it at one input. -/
def varintFourWrong : ChangeSpec := { name := "varintFour", fn := fun _ => fun
  | [d] => { results := [.lit (.bool false)], args := [d] }
  | _ => none }
def VarintFourWrongFalsely : Prop := varintFourRow.holds Try.pinned (OpenSpec.ofChange varintFourWrong)

/-- 'whorllaw3.CursorNumbers': WHATEVER THE INPUT: true; the input reads as it did. -/
def cursorNumbersSpec : ChangeSpec := { name := "cursorNumbers", fn := fun _ => fun
  | [d1, d2] => { results := [.lit (.bool true)], args := [d1, d2] }
  | _ => none }
def cursorNumbersRow : OpenClaim := { program := "ytokmmcfnpobldaa", sum := "0bf07d878ef7490924d48752ee1de37b559a85fb75b8a5e250975ba0385d6cc3", func := "whorl/whorllaw3.CursorNumbers", spec := "cursorNumbers", unfollowed := true, recurses := true, apart := false }
def CursorNumbersSaid : Prop := cursorNumbersRow.holds Try.pinned (OpenSpec.ofChange cursorNumbersSpec)

/-- ITS FALSE NEIGHBOUR: 'it returns false'. Refute it at one input. -/
def cursorNumbersWrong : ChangeSpec := { name := "cursorNumbers", fn := fun _ => fun
  | [d1, d2] => { results := [.lit (.bool false)], args := [d1, d2] }
  | _ => none }
def CursorNumbersWrongFalsely : Prop := cursorNumbersRow.holds Try.pinned (OpenSpec.ofChange cursorNumbersWrong)

/-- 'whorllaw3.CursorWhole': WHATEVER THE INPUT: true; the input reads as it did. -/
def cursorWholeSpec : ChangeSpec := { name := "cursorWhole", fn := fun _ => fun
  | [d1, d2] => { results := [.lit (.bool true)], args := [d1, d2] }
  | _ => none }
def cursorWholeRow : OpenClaim := { program := "ytokmmcfnpobldaa", sum := "0bf07d878ef7490924d48752ee1de37b559a85fb75b8a5e250975ba0385d6cc3", func := "whorl/whorllaw3.CursorWhole", spec := "cursorWhole", unfollowed := true, recurses := true, apart := false }
def CursorWholeSaid : Prop := cursorWholeRow.holds Try.pinned (OpenSpec.ofChange cursorWholeSpec)

/-- ITS FALSE NEIGHBOUR: 'it returns false'. Refute it at one input. -/
def cursorWholeWrong : ChangeSpec := { name := "cursorWhole", fn := fun _ => fun
  | [d1, d2] => { results := [.lit (.bool false)], args := [d1, d2] }
  | _ => none }
def CursorWholeWrongFalsely : Prop := cursorWholeRow.holds Try.pinned (OpenSpec.ofChange cursorWholeWrong)

/-- 'whorllaw3.CursorPlays': WHATEVER THE INPUT: true; the input reads as it did. -/
def cursorPlaysSpec : ChangeSpec := { name := "cursorPlays", fn := fun _ => fun
  | [d1, d2] => { results := [.lit (.bool true)], args := [d1, d2] }
  | _ => none }
def cursorPlaysRow : OpenClaim := { program := "ytokmmcfnpobldaa", sum := "0bf07d878ef7490924d48752ee1de37b559a85fb75b8a5e250975ba0385d6cc3", func := "whorl/whorllaw3.CursorPlays", spec := "cursorPlays", unfollowed := true, recurses := true, apart := false }
def CursorPlaysSaid : Prop := cursorPlaysRow.holds Try.pinned (OpenSpec.ofChange cursorPlaysSpec)

/-- ITS FALSE NEIGHBOUR: 'it returns false'. Refute it at one input. -/
def cursorPlaysWrong : ChangeSpec := { name := "cursorPlays", fn := fun _ => fun
  | [d1, d2] => { results := [.lit (.bool false)], args := [d1, d2] }
  | _ => none }
def CursorPlaysWrongFalsely : Prop := cursorPlaysRow.holds Try.pinned (OpenSpec.ofChange cursorPlaysWrong)

/- THE SECOND FORM. 'bulk': how many values and letters a reading holds, each counted each time it is reached (what is shared counts as often as it is met; a slice's spare places count too). A statement '..UptoSaid' is the law's where the arguments, and the package variables that the reading takes, are together of bulk at most 1048576: NARROWER than '..Said'. Prove '..Said' where nothing that the law and all that it calls make is longer than what came in: it says more and counts as full. Else prove '..UptoSaid'. A law counts once. -/
mutual
def uptoBulk {H : Type} : DataW H → Nat
  | .lit (.string bytes) => bytes.length + 1
  | .lit _ => 1
  | .nil => 1
  | .ptr d => uptoBulk d + 1
  | .slice elems spare => uptoBulkAll elems + uptoBulkAll spare + 1
  | .agg parts => uptoBulkAll parts + 1
  | .iface _ d => uptoBulk d + 1
  | .map entries => uptoBulkEntries entries + 1
  | .held _ => 1
def uptoBulkAll {H : Type} : List (DataW H) → Nat
  | [] => 0
  | d :: r => uptoBulk d + uptoBulkAll r
def uptoBulkEntries {H : Type} : List (Lit × DataW H) → Nat
  | [] => 0
  | x :: r => uptoBulkEntry x + uptoBulkEntries r
def uptoBulkEntry {H : Type} : Lit × DataW H → Nat
  | (.string bytes, d) => bytes.length + uptoBulk d + 1
  | (_, d) => uptoBulk d + 1
 end
def uptoSmall : (H : Type) → List (DataW H) → Bool := fun _ ds => decide (uptoBulkAll ds ≤ 1048576)
def OpenSpec.upto (s : _root_.Go.ChangeSpec) : _root_.Go.OpenSpec := { _root_.Go.OpenSpec.ofChange s with cond := some uptoSmall }

/-- 'whorllaw1.VarintPuts', WHERE WHAT IT READS IS OF BULK AT MOST 1048576: true; the input reads as it did. -/
def varintPutsUptoRow : OpenClaim := { program := "ytokmmcfnpobldaa", sum := "0bf07d878ef7490924d48752ee1de37b559a85fb75b8a5e250975ba0385d6cc3", func := "whorl/whorllaw1.VarintPuts", spec := "varintPuts", unfollowed := true, recurses := true, apart := false, narrowed := true }
def VarintPutsUptoSaid : Prop := varintPutsUptoRow.holds Try.pinned (OpenSpec.upto varintPutsSpec)

/-- 'whorllaw1.VarintGets', WHERE WHAT IT READS IS OF BULK AT MOST 1048576: true; the input reads as it did. -/
def varintGetsUptoRow : OpenClaim := { program := "ytokmmcfnpobldaa", sum := "0bf07d878ef7490924d48752ee1de37b559a85fb75b8a5e250975ba0385d6cc3", func := "whorl/whorllaw1.VarintGets", spec := "varintGets", unfollowed := true, recurses := true, apart := false, narrowed := true }
def VarintGetsUptoSaid : Prop := varintGetsUptoRow.holds Try.pinned (OpenSpec.upto varintGetsSpec)

/-- 'whorllaw1.VarintLeast', WHERE WHAT IT READS IS OF BULK AT MOST 1048576: true; the input reads as it did. -/
def varintLeastUptoRow : OpenClaim := { program := "ytokmmcfnpobldaa", sum := "0bf07d878ef7490924d48752ee1de37b559a85fb75b8a5e250975ba0385d6cc3", func := "whorl/whorllaw1.VarintLeast", spec := "varintLeast", unfollowed := true, recurses := true, apart := false, narrowed := true }
def VarintLeastUptoSaid : Prop := varintLeastUptoRow.holds Try.pinned (OpenSpec.upto varintLeastSpec)

/-- 'whorllaw1.VarintLong', WHERE WHAT IT READS IS OF BULK AT MOST 1048576: true; the input reads as it did. -/
def varintLongUptoRow : OpenClaim := { program := "ytokmmcfnpobldaa", sum := "0bf07d878ef7490924d48752ee1de37b559a85fb75b8a5e250975ba0385d6cc3", func := "whorl/whorllaw1.VarintLong", spec := "varintLong", unfollowed := true, recurses := true, apart := false, narrowed := true }
def VarintLongUptoSaid : Prop := varintLongUptoRow.holds Try.pinned (OpenSpec.upto varintLongSpec)

/-- 'whorllaw5.PeriodTells', WHERE WHAT IT READS IS OF BULK AT MOST 1048576: true; the input reads as it did. -/
def periodTellsUptoRow : OpenClaim := { program := "ytokmmcfnpobldaa", sum := "0bf07d878ef7490924d48752ee1de37b559a85fb75b8a5e250975ba0385d6cc3", func := "whorl/whorllaw5.PeriodTells", spec := "periodTells", apart := false, narrowed := true }
def PeriodTellsUptoSaid : Prop := periodTellsUptoRow.holds Try.pinned (OpenSpec.upto periodTellsSpec)

/-- 'whorllaw5.PeriodTimes', WHERE WHAT IT READS IS OF BULK AT MOST 1048576: true; the input reads as it did. -/
def periodTimesUptoRow : OpenClaim := { program := "ytokmmcfnpobldaa", sum := "0bf07d878ef7490924d48752ee1de37b559a85fb75b8a5e250975ba0385d6cc3", func := "whorl/whorllaw5.PeriodTimes", spec := "periodTimes", apart := false, narrowed := true }
def PeriodTimesUptoSaid : Prop := periodTimesUptoRow.holds Try.pinned (OpenSpec.upto periodTimesSpec)

/-- 'whorllaw5.PeriodLast', WHERE WHAT IT READS IS OF BULK AT MOST 1048576: true; the input reads as it did. -/
def periodLastUptoRow : OpenClaim := { program := "ytokmmcfnpobldaa", sum := "0bf07d878ef7490924d48752ee1de37b559a85fb75b8a5e250975ba0385d6cc3", func := "whorl/whorllaw5.PeriodLast", spec := "periodLast", apart := false, narrowed := true }
def PeriodLastUptoSaid : Prop := periodLastUptoRow.holds Try.pinned (OpenSpec.upto periodLastSpec)

/-- 'whorllaw5.PeriodOwn', WHERE WHAT IT READS IS OF BULK AT MOST 1048576: true; the input reads as it did. -/
def periodOwnUptoRow : OpenClaim := { program := "ytokmmcfnpobldaa", sum := "0bf07d878ef7490924d48752ee1de37b559a85fb75b8a5e250975ba0385d6cc3", func := "whorl/whorllaw5.PeriodOwn", spec := "periodOwn", apart := false, narrowed := true }
def PeriodOwnUptoSaid : Prop := periodOwnUptoRow.holds Try.pinned (OpenSpec.upto periodOwnSpec)

/-- 'whorllaw5.PeriodAll', WHERE WHAT IT READS IS OF BULK AT MOST 1048576: true; the input reads as it did. -/
def periodAllUptoRow : OpenClaim := { program := "ytokmmcfnpobldaa", sum := "0bf07d878ef7490924d48752ee1de37b559a85fb75b8a5e250975ba0385d6cc3", func := "whorl/whorllaw5.PeriodAll", spec := "periodAll", apart := false, narrowed := true }
def PeriodAllUptoSaid : Prop := periodAllUptoRow.holds Try.pinned (OpenSpec.upto periodAllSpec)

/-- 'whorllaw1.VarintFour', WHERE WHAT IT READS IS OF BULK AT MOST 1048576: true; the input reads as it did. -/
def varintFourUptoRow : OpenClaim := { program := "ytokmmcfnpobldaa", sum := "0bf07d878ef7490924d48752ee1de37b559a85fb75b8a5e250975ba0385d6cc3", func := "whorl/whorllaw1.VarintFour", spec := "varintFour", unfollowed := true, recurses := true, apart := false, narrowed := true }
def VarintFourUptoSaid : Prop := varintFourUptoRow.holds Try.pinned (OpenSpec.upto varintFourSpec)

/-- 'whorllaw3.CursorNumbers', WHERE WHAT IT READS IS OF BULK AT MOST 1048576: true; the input reads as it did. -/
def cursorNumbersUptoRow : OpenClaim := { program := "ytokmmcfnpobldaa", sum := "0bf07d878ef7490924d48752ee1de37b559a85fb75b8a5e250975ba0385d6cc3", func := "whorl/whorllaw3.CursorNumbers", spec := "cursorNumbers", unfollowed := true, recurses := true, apart := false, narrowed := true }
def CursorNumbersUptoSaid : Prop := cursorNumbersUptoRow.holds Try.pinned (OpenSpec.upto cursorNumbersSpec)

/-- 'whorllaw3.CursorWhole', WHERE WHAT IT READS IS OF BULK AT MOST 1048576: true; the input reads as it did. -/
def cursorWholeUptoRow : OpenClaim := { program := "ytokmmcfnpobldaa", sum := "0bf07d878ef7490924d48752ee1de37b559a85fb75b8a5e250975ba0385d6cc3", func := "whorl/whorllaw3.CursorWhole", spec := "cursorWhole", unfollowed := true, recurses := true, apart := false, narrowed := true }
def CursorWholeUptoSaid : Prop := cursorWholeUptoRow.holds Try.pinned (OpenSpec.upto cursorWholeSpec)

/-- 'whorllaw3.CursorPlays', WHERE WHAT IT READS IS OF BULK AT MOST 1048576: true; the input reads as it did. -/
def cursorPlaysUptoRow : OpenClaim := { program := "ytokmmcfnpobldaa", sum := "0bf07d878ef7490924d48752ee1de37b559a85fb75b8a5e250975ba0385d6cc3", func := "whorl/whorllaw3.CursorPlays", spec := "cursorPlays", unfollowed := true, recurses := true, apart := false, narrowed := true }
def CursorPlaysUptoSaid : Prop := cursorPlaysUptoRow.holds Try.pinned (OpenSpec.upto cursorPlaysSpec)

end Rows
end Go.Proofs.Ytokmmcfnpobldaa
