/-
  No cell of these rows narrows 'for every input' (looked for: loops, veiled, ifaces, maps, wideKeys, modest, calm, conditions, laid).
  DERIVED. THE GIVEN ROWS OF THIS SEAT. 21 by the template 'for every input the law returns true; each argument reads behind the call as it read before'; 0 by the template 'total and deterministic' (their statements: YtahinegnblankaaTotals.lean).
  GIVEN WITH THE SEED: the statements are not yours to turn. If you find one false, say at which input.
  Laid BY PROGRAM, IN A SANDBOX (cutbox-rows.mjs): the forced cells as the released guide's own fill.sh prints them over the translation ed496ba05069e7a7… (all of the seat's roots in one cut). By AI agents, Wed Nov 11 2026. No macro, syntax, notation, axiom, sorry.
-/
import Derived.Test.YtahinegnblankaaChecked
import GoSem.Claim
import GoSem.ClaimJoined
import GoSem.ClaimMapViews
import Derived.JoinedTies
import Derived.KernelRfl
namespace Go.Proofs.Ytahinegnblankaa
/- THE CELL 'sum', in the pinned program and in every row, IS THE sha256 OF THE DUMP (.gsa) THAT YtahinegnblankaaProg.lean LOADS. Nothing in Lean hashes anything: it is a label: what it is worth is what the hold of that sum in a sandbox is worth. -/
noncomputable def Try.pinned : Pinned := { name := "ytahinegnblankaa", sum := "ed496ba05069e7a700d48c16d9586796e3915dad1f028e1dda3f24205e95698c", checked := Try.checked }
namespace Rows
def none {H : Type} : Left H := { results := [], args := [] }

/-- 'whorllaw26.RunsLong': WHATEVER THE INPUT: true; the input reads as it did. -/
def runsLongSpec : ChangeSpec := { name := "runsLong", fn := fun _ => fun
  | [d1, d2] => { results := [.lit (.bool true)], args := [d1, d2] }
  | _ => none }
def runsLongRow : OpenClaim := { program := "ytahinegnblankaa", sum := "ed496ba05069e7a700d48c16d9586796e3915dad1f028e1dda3f24205e95698c", func := "whorl/whorllaw26.RunsLong", spec := "runsLong", apart := false }
def RunsLongSaid : Prop := runsLongRow.holds Try.pinned (OpenSpec.ofChange runsLongSpec)

/-- ITS FALSE NEIGHBOUR: 'it returns false'. Refute it at one input. -/
def runsLongWrong : ChangeSpec := { name := "runsLong", fn := fun _ => fun
  | [d1, d2] => { results := [.lit (.bool false)], args := [d1, d2] }
  | _ => none }
def RunsLongWrongFalsely : Prop := runsLongRow.holds Try.pinned (OpenSpec.ofChange runsLongWrong)

/-- 'whorllaw25.FrontMoves': WHATEVER THE INPUT: true; the input reads as it did. -/
def frontMovesSpec : ChangeSpec := { name := "frontMoves", fn := fun _ => fun
  | [d] => { results := [.lit (.bool true)], args := [d] }
  | _ => none }
def frontMovesRow : OpenClaim := { program := "ytahinegnblankaa", sum := "ed496ba05069e7a700d48c16d9586796e3915dad1f028e1dda3f24205e95698c", func := "whorl/whorllaw25.FrontMoves", spec := "frontMoves", inPlace := ["internal/bytealg.IndexByte"], apart := false }
def FrontMovesSaid : Prop := frontMovesRow.holds Try.pinned (OpenSpec.ofChange frontMovesSpec)

/-- ITS FALSE NEIGHBOUR: 'it returns false'. Refute it at one input. -/
def frontMovesWrong : ChangeSpec := { name := "frontMoves", fn := fun _ => fun
  | [d] => { results := [.lit (.bool false)], args := [d] }
  | _ => none }
def FrontMovesWrongFalsely : Prop := frontMovesRow.holds Try.pinned (OpenSpec.ofChange frontMovesWrong)

/-- 'whorllaw25.FrontRuns': WHATEVER THE INPUT: true; the input reads as it did. -/
def frontRunsSpec : ChangeSpec := { name := "frontRuns", fn := fun _ => fun
  | [d] => { results := [.lit (.bool true)], args := [d] }
  | _ => none }
def frontRunsRow : OpenClaim := { program := "ytahinegnblankaa", sum := "ed496ba05069e7a700d48c16d9586796e3915dad1f028e1dda3f24205e95698c", func := "whorl/whorllaw25.FrontRuns", spec := "frontRuns", inPlace := ["internal/bytealg.IndexByte"], apart := false }
def FrontRunsSaid : Prop := frontRunsRow.holds Try.pinned (OpenSpec.ofChange frontRunsSpec)

/-- ITS FALSE NEIGHBOUR: 'it returns false'. Refute it at one input. -/
def frontRunsWrong : ChangeSpec := { name := "frontRuns", fn := fun _ => fun
  | [d] => { results := [.lit (.bool false)], args := [d] }
  | _ => none }
def FrontRunsWrongFalsely : Prop := frontRunsRow.holds Try.pinned (OpenSpec.ofChange frontRunsWrong)

/-- 'whorllaw25.FrontOwn': WHATEVER THE INPUT: true; the input reads as it did. -/
def frontOwnSpec : ChangeSpec := { name := "frontOwn", fn := fun _ => fun
  | [d] => { results := [.lit (.bool true)], args := [d] }
  | _ => none }
def frontOwnRow : OpenClaim := { program := "ytahinegnblankaa", sum := "ed496ba05069e7a700d48c16d9586796e3915dad1f028e1dda3f24205e95698c", func := "whorl/whorllaw25.FrontOwn", spec := "frontOwn", inPlace := ["internal/bytealg.IndexByte"], apart := false }
def FrontOwnSaid : Prop := frontOwnRow.holds Try.pinned (OpenSpec.ofChange frontOwnSpec)

/-- ITS FALSE NEIGHBOUR: 'it returns false'. Refute it at one input. -/
def frontOwnWrong : ChangeSpec := { name := "frontOwn", fn := fun _ => fun
  | [d] => { results := [.lit (.bool false)], args := [d] }
  | _ => none }
def FrontOwnWrongFalsely : Prop := frontOwnRow.holds Try.pinned (OpenSpec.ofChange frontOwnWrong)

/-- 'whorllaw25.FrontFirst': WHATEVER THE INPUT: true; the input reads as it did. -/
def frontFirstSpec : ChangeSpec := { name := "frontFirst", fn := fun _ => fun
  | [d1, d2] => { results := [.lit (.bool true)], args := [d1, d2] }
  | _ => none }
def frontFirstRow : OpenClaim := { program := "ytahinegnblankaa", sum := "ed496ba05069e7a700d48c16d9586796e3915dad1f028e1dda3f24205e95698c", func := "whorl/whorllaw25.FrontFirst", spec := "frontFirst", inPlace := ["internal/bytealg.IndexByte"], apart := false }
def FrontFirstSaid : Prop := frontFirstRow.holds Try.pinned (OpenSpec.ofChange frontFirstSpec)

/-- ITS FALSE NEIGHBOUR: 'it returns false'. Refute it at one input. -/
def frontFirstWrong : ChangeSpec := { name := "frontFirst", fn := fun _ => fun
  | [d1, d2] => { results := [.lit (.bool false)], args := [d1, d2] }
  | _ => none }
def FrontFirstWrongFalsely : Prop := frontFirstRow.holds Try.pinned (OpenSpec.ofChange frontFirstWrong)

/-- 'whorllaw28.CoderPuts': WHATEVER THE INPUT: true; the input reads as it did. -/
def coderPutsSpec : ChangeSpec := { name := "coderPuts", fn := fun _ => fun
  | [d] => { results := [.lit (.bool true)], args := [d] }
  | _ => none }
def coderPutsRow : OpenClaim := { program := "ytahinegnblankaa", sum := "ed496ba05069e7a700d48c16d9586796e3915dad1f028e1dda3f24205e95698c", func := "whorl/whorllaw28.CoderPuts", spec := "coderPuts", apart := false }
def CoderPutsSaid : Prop := coderPutsRow.holds Try.pinned (OpenSpec.ofChange coderPutsSpec)

/-- ITS FALSE NEIGHBOUR: 'it returns false'. Refute it at one input. -/
def coderPutsWrong : ChangeSpec := { name := "coderPuts", fn := fun _ => fun
  | [d] => { results := [.lit (.bool false)], args := [d] }
  | _ => none }
def CoderPutsWrongFalsely : Prop := coderPutsRow.holds Try.pinned (OpenSpec.ofChange coderPutsWrong)

/-- 'whorllaw28.CoderSure': WHATEVER THE INPUT: true; the input reads as it did. -/
def coderSureSpec : ChangeSpec := { name := "coderSure", fn := fun _ => fun
  | [d1, d2] => { results := [.lit (.bool true)], args := [d1, d2] }
  | _ => none }
def coderSureRow : OpenClaim := { program := "ytahinegnblankaa", sum := "ed496ba05069e7a700d48c16d9586796e3915dad1f028e1dda3f24205e95698c", func := "whorl/whorllaw28.CoderSure", spec := "coderSure", apart := false }
def CoderSureSaid : Prop := coderSureRow.holds Try.pinned (OpenSpec.ofChange coderSureSpec)

/-- ITS FALSE NEIGHBOUR: 'it returns false'. Refute it at one input. -/
def coderSureWrong : ChangeSpec := { name := "coderSure", fn := fun _ => fun
  | [d1, d2] => { results := [.lit (.bool false)], args := [d1, d2] }
  | _ => none }
def CoderSureWrongFalsely : Prop := coderSureRow.holds Try.pinned (OpenSpec.ofChange coderSureWrong)

/-- 'whorllaw26.RunsTells': WHATEVER THE INPUT: true; the input reads as it did. -/
def runsTellsSpec : ChangeSpec := { name := "runsTells", fn := fun _ => fun
  | [d] => { results := [.lit (.bool true)], args := [d] }
  | _ => none }
def runsTellsRow : OpenClaim := { program := "ytahinegnblankaa", sum := "ed496ba05069e7a700d48c16d9586796e3915dad1f028e1dda3f24205e95698c", func := "whorl/whorllaw26.RunsTells", spec := "runsTells", apart := false }
def RunsTellsSaid : Prop := runsTellsRow.holds Try.pinned (OpenSpec.ofChange runsTellsSpec)

/-- ITS FALSE NEIGHBOUR: 'it returns false'. Refute it at one input. -/
def runsTellsWrong : ChangeSpec := { name := "runsTells", fn := fun _ => fun
  | [d] => { results := [.lit (.bool false)], args := [d] }
  | _ => none }
def RunsTellsWrongFalsely : Prop := runsTellsRow.holds Try.pinned (OpenSpec.ofChange runsTellsWrong)

/-- 'whorllaw26.RunsBacks': WHATEVER THE INPUT: true; the input reads as it did. -/
def runsBacksSpec : ChangeSpec := { name := "runsBacks", fn := fun _ => fun
  | [d1, d2] => { results := [.lit (.bool true)], args := [d1, d2] }
  | _ => none }
def runsBacksRow : OpenClaim := { program := "ytahinegnblankaa", sum := "ed496ba05069e7a700d48c16d9586796e3915dad1f028e1dda3f24205e95698c", func := "whorl/whorllaw26.RunsBacks", spec := "runsBacks", apart := false }
def RunsBacksSaid : Prop := runsBacksRow.holds Try.pinned (OpenSpec.ofChange runsBacksSpec)

/-- ITS FALSE NEIGHBOUR: 'it returns false'. Refute it at one input. -/
def runsBacksWrong : ChangeSpec := { name := "runsBacks", fn := fun _ => fun
  | [d1, d2] => { results := [.lit (.bool false)], args := [d1, d2] }
  | _ => none }
def RunsBacksWrongFalsely : Prop := runsBacksRow.holds Try.pinned (OpenSpec.ofChange runsBacksWrong)

/-- 'whorllaw26.RunsOdd': WHATEVER THE INPUT: true; the input reads as it did. -/
def runsOddSpec : ChangeSpec := { name := "runsOdd", fn := fun _ => fun
  | [d1, d2, d3, d4] => { results := [.lit (.bool true)], args := [d1, d2, d3, d4] }
  | _ => none }
def runsOddRow : OpenClaim := { program := "ytahinegnblankaa", sum := "ed496ba05069e7a700d48c16d9586796e3915dad1f028e1dda3f24205e95698c", func := "whorl/whorllaw26.RunsOdd", spec := "runsOdd", apart := false }
def RunsOddSaid : Prop := runsOddRow.holds Try.pinned (OpenSpec.ofChange runsOddSpec)

/-- ITS FALSE NEIGHBOUR: 'it returns false'. Refute it at one input. -/
def runsOddWrong : ChangeSpec := { name := "runsOdd", fn := fun _ => fun
  | [d1, d2, d3, d4] => { results := [.lit (.bool false)], args := [d1, d2, d3, d4] }
  | _ => none }
def RunsOddWrongFalsely : Prop := runsOddRow.holds Try.pinned (OpenSpec.ofChange runsOddWrong)

/-- 'whorllaw27.ModelPlays': WHATEVER THE INPUT: true; the input reads as it did. -/
def modelPlaysSpec : ChangeSpec := { name := "modelPlays", fn := fun _ => fun
  | [d1, d2, d3] => { results := [.lit (.bool true)], args := [d1, d2, d3] }
  | _ => none }
def modelPlaysRow : OpenClaim := { program := "ytahinegnblankaa", sum := "ed496ba05069e7a700d48c16d9586796e3915dad1f028e1dda3f24205e95698c", func := "whorl/whorllaw27.ModelPlays", spec := "modelPlays", apart := false }
def ModelPlaysSaid : Prop := modelPlaysRow.holds Try.pinned (OpenSpec.ofChange modelPlaysSpec)

/-- ITS FALSE NEIGHBOUR: 'it returns false'. Refute it at one input. -/
def modelPlaysWrong : ChangeSpec := { name := "modelPlays", fn := fun _ => fun
  | [d1, d2, d3] => { results := [.lit (.bool false)], args := [d1, d2, d3] }
  | _ => none }
def ModelPlaysWrongFalsely : Prop := modelPlaysRow.holds Try.pinned (OpenSpec.ofChange modelPlaysWrong)

/-- 'whorllaw27.ModelSpans': WHATEVER THE INPUT: true; the input reads as it did. -/
def modelSpansSpec : ChangeSpec := { name := "modelSpans", fn := fun _ => fun
  | [d1, d2] => { results := [.lit (.bool true)], args := [d1, d2] }
  | _ => none }
def modelSpansRow : OpenClaim := { program := "ytahinegnblankaa", sum := "ed496ba05069e7a700d48c16d9586796e3915dad1f028e1dda3f24205e95698c", func := "whorl/whorllaw27.ModelSpans", spec := "modelSpans", apart := false }
def ModelSpansSaid : Prop := modelSpansRow.holds Try.pinned (OpenSpec.ofChange modelSpansSpec)

/-- ITS FALSE NEIGHBOUR: 'it returns false'. Refute it at one input. -/
def modelSpansWrong : ChangeSpec := { name := "modelSpans", fn := fun _ => fun
  | [d1, d2] => { results := [.lit (.bool false)], args := [d1, d2] }
  | _ => none }
def ModelSpansWrongFalsely : Prop := modelSpansRow.holds Try.pinned (OpenSpec.ofChange modelSpansWrong)

/-- 'whorllaw27.ModelBound': WHATEVER THE INPUT: true; the input reads as it did. -/
def modelBoundSpec : ChangeSpec := { name := "modelBound", fn := fun _ => fun
  | [d1, d2, d3] => { results := [.lit (.bool true)], args := [d1, d2, d3] }
  | _ => none }
def modelBoundRow : OpenClaim := { program := "ytahinegnblankaa", sum := "ed496ba05069e7a700d48c16d9586796e3915dad1f028e1dda3f24205e95698c", func := "whorl/whorllaw27.ModelBound", spec := "modelBound", apart := false }
def ModelBoundSaid : Prop := modelBoundRow.holds Try.pinned (OpenSpec.ofChange modelBoundSpec)

/-- ITS FALSE NEIGHBOUR: 'it returns false'. Refute it at one input. -/
def modelBoundWrong : ChangeSpec := { name := "modelBound", fn := fun _ => fun
  | [d1, d2, d3] => { results := [.lit (.bool false)], args := [d1, d2, d3] }
  | _ => none }
def ModelBoundWrongFalsely : Prop := modelBoundRow.holds Try.pinned (OpenSpec.ofChange modelBoundWrong)

/-- 'whorllaw27.ModelNew': WHATEVER THE INPUT: true; the input reads as it did. -/
def modelNewSpec : ChangeSpec := { name := "modelNew", fn := fun _ => fun
  | [d1, d2] => { results := [.lit (.bool true)], args := [d1, d2] }
  | _ => none }
def modelNewRow : OpenClaim := { program := "ytahinegnblankaa", sum := "ed496ba05069e7a700d48c16d9586796e3915dad1f028e1dda3f24205e95698c", func := "whorl/whorllaw27.ModelNew", spec := "modelNew", apart := false }
def ModelNewSaid : Prop := modelNewRow.holds Try.pinned (OpenSpec.ofChange modelNewSpec)

/-- ITS FALSE NEIGHBOUR: 'it returns false'. Refute it at one input. -/
def modelNewWrong : ChangeSpec := { name := "modelNew", fn := fun _ => fun
  | [d1, d2] => { results := [.lit (.bool false)], args := [d1, d2] }
  | _ => none }
def ModelNewWrongFalsely : Prop := modelNewRow.holds Try.pinned (OpenSpec.ofChange modelNewWrong)

/-- 'whorllaw28.CoderTakes': WHATEVER THE INPUT: true; the input reads as it did. -/
def coderTakesSpec : ChangeSpec := { name := "coderTakes", fn := fun _ => fun
  | [d1, d2] => { results := [.lit (.bool true)], args := [d1, d2] }
  | _ => none }
def coderTakesRow : OpenClaim := { program := "ytahinegnblankaa", sum := "ed496ba05069e7a700d48c16d9586796e3915dad1f028e1dda3f24205e95698c", func := "whorl/whorllaw28.CoderTakes", spec := "coderTakes", apart := false }
def CoderTakesSaid : Prop := coderTakesRow.holds Try.pinned (OpenSpec.ofChange coderTakesSpec)

/-- ITS FALSE NEIGHBOUR: 'it returns false'. Refute it at one input. -/
def coderTakesWrong : ChangeSpec := { name := "coderTakes", fn := fun _ => fun
  | [d1, d2] => { results := [.lit (.bool false)], args := [d1, d2] }
  | _ => none }
def CoderTakesWrongFalsely : Prop := coderTakesRow.holds Try.pinned (OpenSpec.ofChange coderTakesWrong)

/-- 'whorllaw28.CoderBack': WHATEVER THE INPUT: true; the input reads as it did. -/
def coderBackSpec : ChangeSpec := { name := "coderBack", fn := fun _ => fun
  | [d] => { results := [.lit (.bool true)], args := [d] }
  | _ => none }
def coderBackRow : OpenClaim := { program := "ytahinegnblankaa", sum := "ed496ba05069e7a700d48c16d9586796e3915dad1f028e1dda3f24205e95698c", func := "whorl/whorllaw28.CoderBack", spec := "coderBack", apart := false }
def CoderBackSaid : Prop := coderBackRow.holds Try.pinned (OpenSpec.ofChange coderBackSpec)

/-- ITS FALSE NEIGHBOUR: 'it returns false'. Refute it at one input. -/
def coderBackWrong : ChangeSpec := { name := "coderBack", fn := fun _ => fun
  | [d] => { results := [.lit (.bool false)], args := [d] }
  | _ => none }
def CoderBackWrongFalsely : Prop := coderBackRow.holds Try.pinned (OpenSpec.ofChange coderBackWrong)

/-- 'whorllaw29.PipePacks': WHATEVER THE INPUT: true; the input reads as it did. -/
def pipePacksSpec : ChangeSpec := { name := "pipePacks", fn := fun _ => fun
  | [d1, d2] => { results := [.lit (.bool true)], args := [d1, d2] }
  | _ => none }
def pipePacksRow : OpenClaim := { program := "ytahinegnblankaa", sum := "ed496ba05069e7a700d48c16d9586796e3915dad1f028e1dda3f24205e95698c", func := "whorl/whorllaw29.PipePacks", spec := "pipePacks", inPlace := ["internal/bytealg.IndexByte"], apart := false }
def PipePacksSaid : Prop := pipePacksRow.holds Try.pinned (OpenSpec.ofChange pipePacksSpec)

/-- ITS FALSE NEIGHBOUR: 'it returns false'. Refute it at one input. -/
def pipePacksWrong : ChangeSpec := { name := "pipePacks", fn := fun _ => fun
  | [d1, d2] => { results := [.lit (.bool false)], args := [d1, d2] }
  | _ => none }
def PipePacksWrongFalsely : Prop := pipePacksRow.holds Try.pinned (OpenSpec.ofChange pipePacksWrong)

/-- 'whorllaw29.PipeUnpacks': WHATEVER THE INPUT: true; the input reads as it did. -/
def pipeUnpacksSpec : ChangeSpec := { name := "pipeUnpacks", fn := fun _ => fun
  | [d1, d2, d3] => { results := [.lit (.bool true)], args := [d1, d2, d3] }
  | _ => none }
def pipeUnpacksRow : OpenClaim := { program := "ytahinegnblankaa", sum := "ed496ba05069e7a700d48c16d9586796e3915dad1f028e1dda3f24205e95698c", func := "whorl/whorllaw29.PipeUnpacks", spec := "pipeUnpacks", inPlace := ["internal/bytealg.IndexByte"], apart := false }
def PipeUnpacksSaid : Prop := pipeUnpacksRow.holds Try.pinned (OpenSpec.ofChange pipeUnpacksSpec)

/-- ITS FALSE NEIGHBOUR: 'it returns false'. Refute it at one input. -/
def pipeUnpacksWrong : ChangeSpec := { name := "pipeUnpacks", fn := fun _ => fun
  | [d1, d2, d3] => { results := [.lit (.bool false)], args := [d1, d2, d3] }
  | _ => none }
def PipeUnpacksWrongFalsely : Prop := pipeUnpacksRow.holds Try.pinned (OpenSpec.ofChange pipeUnpacksWrong)

/-- 'whorllaw29.PipeTurned': WHATEVER THE INPUT: true; the input reads as it did. -/
def pipeTurnedSpec : ChangeSpec := { name := "pipeTurned", fn := fun _ => fun
  | [d1, d2, d3, d4, d5] => { results := [.lit (.bool true)], args := [d1, d2, d3, d4, d5] }
  | _ => none }
def pipeTurnedRow : OpenClaim := { program := "ytahinegnblankaa", sum := "ed496ba05069e7a700d48c16d9586796e3915dad1f028e1dda3f24205e95698c", func := "whorl/whorllaw29.PipeTurned", spec := "pipeTurned", inPlace := ["internal/bytealg.IndexByte"], apart := false }
def PipeTurnedSaid : Prop := pipeTurnedRow.holds Try.pinned (OpenSpec.ofChange pipeTurnedSpec)

/-- ITS FALSE NEIGHBOUR: 'it returns false'. Refute it at one input. -/
def pipeTurnedWrong : ChangeSpec := { name := "pipeTurned", fn := fun _ => fun
  | [d1, d2, d3, d4, d5] => { results := [.lit (.bool false)], args := [d1, d2, d3, d4, d5] }
  | _ => none }
def PipeTurnedWrongFalsely : Prop := pipeTurnedRow.holds Try.pinned (OpenSpec.ofChange pipeTurnedWrong)

/-- 'whorllaw29.PipeClass': WHATEVER THE INPUT: true; the input reads as it did. -/
def pipeClassSpec : ChangeSpec := { name := "pipeClass", fn := fun _ => fun
  | [d] => { results := [.lit (.bool true)], args := [d] }
  | _ => none }
def pipeClassRow : OpenClaim := { program := "ytahinegnblankaa", sum := "ed496ba05069e7a700d48c16d9586796e3915dad1f028e1dda3f24205e95698c", func := "whorl/whorllaw29.PipeClass", spec := "pipeClass", inPlace := ["internal/bytealg.IndexByte"], apart := false }
def PipeClassSaid : Prop := pipeClassRow.holds Try.pinned (OpenSpec.ofChange pipeClassSpec)

/-- ITS FALSE NEIGHBOUR: 'it returns false'. Refute it at one input. -/
def pipeClassWrong : ChangeSpec := { name := "pipeClass", fn := fun _ => fun
  | [d] => { results := [.lit (.bool false)], args := [d] }
  | _ => none }
def PipeClassWrongFalsely : Prop := pipeClassRow.holds Try.pinned (OpenSpec.ofChange pipeClassWrong)

/-- 'whorllaw29.PipeRuns': WHATEVER THE INPUT: true; the input reads as it did. -/
def pipeRunsSpec : ChangeSpec := { name := "pipeRuns", fn := fun _ => fun
  | [d1, d2, d3] => { results := [.lit (.bool true)], args := [d1, d2, d3] }
  | _ => none }
def pipeRunsRow : OpenClaim := { program := "ytahinegnblankaa", sum := "ed496ba05069e7a700d48c16d9586796e3915dad1f028e1dda3f24205e95698c", func := "whorl/whorllaw29.PipeRuns", spec := "pipeRuns", inPlace := ["internal/bytealg.IndexByte"], apart := false }
def PipeRunsSaid : Prop := pipeRunsRow.holds Try.pinned (OpenSpec.ofChange pipeRunsSpec)

/-- ITS FALSE NEIGHBOUR: 'it returns false'. Refute it at one input. -/
def pipeRunsWrong : ChangeSpec := { name := "pipeRuns", fn := fun _ => fun
  | [d1, d2, d3] => { results := [.lit (.bool false)], args := [d1, d2, d3] }
  | _ => none }
def PipeRunsWrongFalsely : Prop := pipeRunsRow.holds Try.pinned (OpenSpec.ofChange pipeRunsWrong)

/- THE SECOND FORM. 'bulk': how many values and letters a reading holds, each counted each time it is reached (what is shared counts as often as it is met; a slice's spare places count too). A statement '..UptoSaid' is the law's where the arguments, and the package variables that the reading takes, are together of bulk at most 1048576: NARROWER than '..Said'. Prove '..Said' where nothing that the law and all that it calls make is longer than what came in: it says more and counts as full. Else prove '..UptoSaid'. A law counts once. -/
mutual
def uptoBulk {H : Type} : DataW H → Nat
  | .lit (.string bytes) => bytes.length + 1
  | .lit _ => 1
  | .nil => 1
  | .ptr d => uptoBulk d + 1
  | .slice elems spare => uptoBulkAll elems + uptoBulkAll spare + 1
  | .agg parts => uptoBulkAll parts + 1
  | .iface _ d => uptoBulk d + 1
  | .map entries => uptoBulkEntries entries + 1
  | .held _ => 1
def uptoBulkAll {H : Type} : List (DataW H) → Nat
  | [] => 0
  | d :: r => uptoBulk d + uptoBulkAll r
def uptoBulkEntries {H : Type} : List (Lit × DataW H) → Nat
  | [] => 0
  | x :: r => uptoBulkEntry x + uptoBulkEntries r
def uptoBulkEntry {H : Type} : Lit × DataW H → Nat
  | (.string bytes, d) => bytes.length + uptoBulk d + 1
  | (_, d) => uptoBulk d + 1
 end
def uptoSmall : (H : Type) → List (DataW H) → Bool := fun _ ds => decide (uptoBulkAll ds ≤ 1048576)
def OpenSpec.upto (s : _root_.Go.ChangeSpec) : _root_.Go.OpenSpec := { _root_.Go.OpenSpec.ofChange s with cond := some uptoSmall }

/-- 'whorllaw26.RunsLong', WHERE WHAT IT READS IS OF BULK AT MOST 1048576: true; the input reads as it did. -/
def runsLongUptoRow : OpenClaim := { program := "ytahinegnblankaa", sum := "ed496ba05069e7a700d48c16d9586796e3915dad1f028e1dda3f24205e95698c", func := "whorl/whorllaw26.RunsLong", spec := "runsLong", apart := false, narrowed := true }
def RunsLongUptoSaid : Prop := runsLongUptoRow.holds Try.pinned (OpenSpec.upto runsLongSpec)

/-- 'whorllaw25.FrontMoves', WHERE WHAT IT READS IS OF BULK AT MOST 1048576: true; the input reads as it did. -/
def frontMovesUptoRow : OpenClaim := { program := "ytahinegnblankaa", sum := "ed496ba05069e7a700d48c16d9586796e3915dad1f028e1dda3f24205e95698c", func := "whorl/whorllaw25.FrontMoves", spec := "frontMoves", inPlace := ["internal/bytealg.IndexByte"], apart := false, narrowed := true }
def FrontMovesUptoSaid : Prop := frontMovesUptoRow.holds Try.pinned (OpenSpec.upto frontMovesSpec)

/-- 'whorllaw25.FrontRuns', WHERE WHAT IT READS IS OF BULK AT MOST 1048576: true; the input reads as it did. -/
def frontRunsUptoRow : OpenClaim := { program := "ytahinegnblankaa", sum := "ed496ba05069e7a700d48c16d9586796e3915dad1f028e1dda3f24205e95698c", func := "whorl/whorllaw25.FrontRuns", spec := "frontRuns", inPlace := ["internal/bytealg.IndexByte"], apart := false, narrowed := true }
def FrontRunsUptoSaid : Prop := frontRunsUptoRow.holds Try.pinned (OpenSpec.upto frontRunsSpec)

/-- 'whorllaw25.FrontOwn', WHERE WHAT IT READS IS OF BULK AT MOST 1048576: true; the input reads as it did. -/
def frontOwnUptoRow : OpenClaim := { program := "ytahinegnblankaa", sum := "ed496ba05069e7a700d48c16d9586796e3915dad1f028e1dda3f24205e95698c", func := "whorl/whorllaw25.FrontOwn", spec := "frontOwn", inPlace := ["internal/bytealg.IndexByte"], apart := false, narrowed := true }
def FrontOwnUptoSaid : Prop := frontOwnUptoRow.holds Try.pinned (OpenSpec.upto frontOwnSpec)

/-- 'whorllaw25.FrontFirst', WHERE WHAT IT READS IS OF BULK AT MOST 1048576: true; the input reads as it did. -/
def frontFirstUptoRow : OpenClaim := { program := "ytahinegnblankaa", sum := "ed496ba05069e7a700d48c16d9586796e3915dad1f028e1dda3f24205e95698c", func := "whorl/whorllaw25.FrontFirst", spec := "frontFirst", inPlace := ["internal/bytealg.IndexByte"], apart := false, narrowed := true }
def FrontFirstUptoSaid : Prop := frontFirstUptoRow.holds Try.pinned (OpenSpec.upto frontFirstSpec)

/-- 'whorllaw28.CoderPuts', WHERE WHAT IT READS IS OF BULK AT MOST 1048576: true; the input reads as it did. -/
def coderPutsUptoRow : OpenClaim := { program := "ytahinegnblankaa", sum := "ed496ba05069e7a700d48c16d9586796e3915dad1f028e1dda3f24205e95698c", func := "whorl/whorllaw28.CoderPuts", spec := "coderPuts", apart := false, narrowed := true }
def CoderPutsUptoSaid : Prop := coderPutsUptoRow.holds Try.pinned (OpenSpec.upto coderPutsSpec)

/-- 'whorllaw28.CoderSure', WHERE WHAT IT READS IS OF BULK AT MOST 1048576: true; the input reads as it did. -/
def coderSureUptoRow : OpenClaim := { program := "ytahinegnblankaa", sum := "ed496ba05069e7a700d48c16d9586796e3915dad1f028e1dda3f24205e95698c", func := "whorl/whorllaw28.CoderSure", spec := "coderSure", apart := false, narrowed := true }
def CoderSureUptoSaid : Prop := coderSureUptoRow.holds Try.pinned (OpenSpec.upto coderSureSpec)

/-- 'whorllaw26.RunsTells', WHERE WHAT IT READS IS OF BULK AT MOST 1048576: true; the input reads as it did. -/
def runsTellsUptoRow : OpenClaim := { program := "ytahinegnblankaa", sum := "ed496ba05069e7a700d48c16d9586796e3915dad1f028e1dda3f24205e95698c", func := "whorl/whorllaw26.RunsTells", spec := "runsTells", apart := false, narrowed := true }
def RunsTellsUptoSaid : Prop := runsTellsUptoRow.holds Try.pinned (OpenSpec.upto runsTellsSpec)

/-- 'whorllaw26.RunsBacks', WHERE WHAT IT READS IS OF BULK AT MOST 1048576: true; the input reads as it did. -/
def runsBacksUptoRow : OpenClaim := { program := "ytahinegnblankaa", sum := "ed496ba05069e7a700d48c16d9586796e3915dad1f028e1dda3f24205e95698c", func := "whorl/whorllaw26.RunsBacks", spec := "runsBacks", apart := false, narrowed := true }
def RunsBacksUptoSaid : Prop := runsBacksUptoRow.holds Try.pinned (OpenSpec.upto runsBacksSpec)

/-- 'whorllaw26.RunsOdd', WHERE WHAT IT READS IS OF BULK AT MOST 1048576: true; the input reads as it did. -/
def runsOddUptoRow : OpenClaim := { program := "ytahinegnblankaa", sum := "ed496ba05069e7a700d48c16d9586796e3915dad1f028e1dda3f24205e95698c", func := "whorl/whorllaw26.RunsOdd", spec := "runsOdd", apart := false, narrowed := true }
def RunsOddUptoSaid : Prop := runsOddUptoRow.holds Try.pinned (OpenSpec.upto runsOddSpec)

/-- 'whorllaw27.ModelPlays', WHERE WHAT IT READS IS OF BULK AT MOST 1048576: true; the input reads as it did. -/
def modelPlaysUptoRow : OpenClaim := { program := "ytahinegnblankaa", sum := "ed496ba05069e7a700d48c16d9586796e3915dad1f028e1dda3f24205e95698c", func := "whorl/whorllaw27.ModelPlays", spec := "modelPlays", apart := false, narrowed := true }
def ModelPlaysUptoSaid : Prop := modelPlaysUptoRow.holds Try.pinned (OpenSpec.upto modelPlaysSpec)

/-- 'whorllaw27.ModelSpans', WHERE WHAT IT READS IS OF BULK AT MOST 1048576: true; the input reads as it did. -/
def modelSpansUptoRow : OpenClaim := { program := "ytahinegnblankaa", sum := "ed496ba05069e7a700d48c16d9586796e3915dad1f028e1dda3f24205e95698c", func := "whorl/whorllaw27.ModelSpans", spec := "modelSpans", apart := false, narrowed := true }
def ModelSpansUptoSaid : Prop := modelSpansUptoRow.holds Try.pinned (OpenSpec.upto modelSpansSpec)

/-- 'whorllaw27.ModelBound', WHERE WHAT IT READS IS OF BULK AT MOST 1048576: true; the input reads as it did. -/
def modelBoundUptoRow : OpenClaim := { program := "ytahinegnblankaa", sum := "ed496ba05069e7a700d48c16d9586796e3915dad1f028e1dda3f24205e95698c", func := "whorl/whorllaw27.ModelBound", spec := "modelBound", apart := false, narrowed := true }
def ModelBoundUptoSaid : Prop := modelBoundUptoRow.holds Try.pinned (OpenSpec.upto modelBoundSpec)

/-- 'whorllaw27.ModelNew', WHERE WHAT IT READS IS OF BULK AT MOST 1048576: true; the input reads as it did. -/
def modelNewUptoRow : OpenClaim := { program := "ytahinegnblankaa", sum := "ed496ba05069e7a700d48c16d9586796e3915dad1f028e1dda3f24205e95698c", func := "whorl/whorllaw27.ModelNew", spec := "modelNew", apart := false, narrowed := true }
def ModelNewUptoSaid : Prop := modelNewUptoRow.holds Try.pinned (OpenSpec.upto modelNewSpec)

/-- 'whorllaw28.CoderTakes', WHERE WHAT IT READS IS OF BULK AT MOST 1048576: true; the input reads as it did. -/
def coderTakesUptoRow : OpenClaim := { program := "ytahinegnblankaa", sum := "ed496ba05069e7a700d48c16d9586796e3915dad1f028e1dda3f24205e95698c", func := "whorl/whorllaw28.CoderTakes", spec := "coderTakes", apart := false, narrowed := true }
def CoderTakesUptoSaid : Prop := coderTakesUptoRow.holds Try.pinned (OpenSpec.upto coderTakesSpec)

/-- 'whorllaw28.CoderBack', WHERE WHAT IT READS IS OF BULK AT MOST 1048576: true; the input reads as it did. -/
def coderBackUptoRow : OpenClaim := { program := "ytahinegnblankaa", sum := "ed496ba05069e7a700d48c16d9586796e3915dad1f028e1dda3f24205e95698c", func := "whorl/whorllaw28.CoderBack", spec := "coderBack", apart := false, narrowed := true }
def CoderBackUptoSaid : Prop := coderBackUptoRow.holds Try.pinned (OpenSpec.upto coderBackSpec)

/-- 'whorllaw29.PipePacks', WHERE WHAT IT READS IS OF BULK AT MOST 1048576: true; the input reads as it did. -/
def pipePacksUptoRow : OpenClaim := { program := "ytahinegnblankaa", sum := "ed496ba05069e7a700d48c16d9586796e3915dad1f028e1dda3f24205e95698c", func := "whorl/whorllaw29.PipePacks", spec := "pipePacks", inPlace := ["internal/bytealg.IndexByte"], apart := false, narrowed := true }
def PipePacksUptoSaid : Prop := pipePacksUptoRow.holds Try.pinned (OpenSpec.upto pipePacksSpec)

/-- 'whorllaw29.PipeUnpacks', WHERE WHAT IT READS IS OF BULK AT MOST 1048576: true; the input reads as it did. -/
def pipeUnpacksUptoRow : OpenClaim := { program := "ytahinegnblankaa", sum := "ed496ba05069e7a700d48c16d9586796e3915dad1f028e1dda3f24205e95698c", func := "whorl/whorllaw29.PipeUnpacks", spec := "pipeUnpacks", inPlace := ["internal/bytealg.IndexByte"], apart := false, narrowed := true }
def PipeUnpacksUptoSaid : Prop := pipeUnpacksUptoRow.holds Try.pinned (OpenSpec.upto pipeUnpacksSpec)

/-- 'whorllaw29.PipeTurned', WHERE WHAT IT READS IS OF BULK AT MOST 1048576: true; the input reads as it did. -/
def pipeTurnedUptoRow : OpenClaim := { program := "ytahinegnblankaa", sum := "ed496ba05069e7a700d48c16d9586796e3915dad1f028e1dda3f24205e95698c", func := "whorl/whorllaw29.PipeTurned", spec := "pipeTurned", inPlace := ["internal/bytealg.IndexByte"], apart := false, narrowed := true }
def PipeTurnedUptoSaid : Prop := pipeTurnedUptoRow.holds Try.pinned (OpenSpec.upto pipeTurnedSpec)

/-- 'whorllaw29.PipeClass', WHERE WHAT IT READS IS OF BULK AT MOST 1048576: true; the input reads as it did. -/
def pipeClassUptoRow : OpenClaim := { program := "ytahinegnblankaa", sum := "ed496ba05069e7a700d48c16d9586796e3915dad1f028e1dda3f24205e95698c", func := "whorl/whorllaw29.PipeClass", spec := "pipeClass", inPlace := ["internal/bytealg.IndexByte"], apart := false, narrowed := true }
def PipeClassUptoSaid : Prop := pipeClassUptoRow.holds Try.pinned (OpenSpec.upto pipeClassSpec)

/-- 'whorllaw29.PipeRuns', WHERE WHAT IT READS IS OF BULK AT MOST 1048576: true; the input reads as it did. -/
def pipeRunsUptoRow : OpenClaim := { program := "ytahinegnblankaa", sum := "ed496ba05069e7a700d48c16d9586796e3915dad1f028e1dda3f24205e95698c", func := "whorl/whorllaw29.PipeRuns", spec := "pipeRuns", inPlace := ["internal/bytealg.IndexByte"], apart := false, narrowed := true }
def PipeRunsUptoSaid : Prop := pipeRunsUptoRow.holds Try.pinned (OpenSpec.upto pipeRunsSpec)

end Rows
end Go.Proofs.Ytahinegnblankaa
