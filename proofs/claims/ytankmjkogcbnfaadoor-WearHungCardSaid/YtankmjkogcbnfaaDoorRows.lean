/-
  NARROWER THAN 'FOR EVERY INPUT', by the rows' own cells (each row's printed sentence says how): WearHung: laid · RidgeHeld: laid · FixRafters: laid · FixBarn: laid.
  DERIVED. THE GIVEN ROWS OF THIS SEAT. 4 by the template 'for every input the law returns true; each argument reads behind the call as it read before'; 0 by the template 'total and deterministic' (their statements: YtankmjkogcbnfaaDoorTotals.lean).
  GIVEN WITH THE SEED: the statements are not yours to turn. If you find one false, say at which input.
  Laid BY PROGRAM, IN A SANDBOX (cutbox-rows.mjs): the forced cells as the released guide's own fill.sh prints them over the translation 3c1c9b6f99bba902… (all of the seat's roots in one cut). By AI agents, Wed Nov 11 2026. No macro, syntax, notation, axiom, sorry.
-/
import Derived.Test.YtankmjkogcbnfaaDoorChecked
import GoSem.Claim
import GoSem.ClaimJoined
import GoSem.ClaimMapViews
import Derived.JoinedTies
import Derived.KernelRfl
namespace Go.Proofs.YtankmjkogcbnfaaDoor
/- THE CELL 'sum', in the pinned program and in every row, IS THE sha256 OF THE DUMP (.gsa) THAT YtankmjkogcbnfaaDoorProg.lean LOADS. Nothing in Lean hashes anything: it is a label: what it is worth is what the hold of that sum in a sandbox is worth. -/
noncomputable def Tryd.pinned : Pinned := { name := "ytankmjkogcbnfaadoor", sum := "3c1c9b6f99bba9026c1596e1c6ddee76e620048c6995fae13321467f5f65f134", checked := Tryd.checked }
namespace Rows
def none {H : Type} : Left H := { results := [], args := [] }

/- WHAT THE LISTED PACKAGE-LEVEL VARIABLES READ AS WHEN THE CALL BEGINS. Each datum BY PROGRAM (the guide's laid-datum.mjs) off the statement by which the dump's own 'gosem.cut.vars' lays the variable. In a bare row this is a premise. The card (YtankmjkogcbnfaaDoorCards.lean) ties it to the program's text. -/
def laid_thatch_fix_source {H : Type} : DataW H := .agg [.lit (.int .i64 (-1)), .agg [.lit (.bool false), .lit (.bool false)]]
def laid_thatch_fix_end {H : Type} : DataW H := .agg [.lit (.int .i64 (-2)), .agg [.lit (.bool false), .lit (.bool false)]]

/-- 'thatchlaw07.WearHung': WHATEVER THE INPUT: true; the input reads as it did. -/
def wearHungSpec : ChangeSpec := { name := "wearHung", fn := fun _ => fun
  | [d1, d2, d3, d4] => { results := [.lit (.bool true)], args := [d1, d2, d3, d4] }
  | _ => none }
def wearHungRow : OpenClaim := { program := "ytankmjkogcbnfaadoor", sum := "3c1c9b6f99bba9026c1596e1c6ddee76e620048c6995fae13321467f5f65f134", func := "thatch/thatchlaw07.WearHung", spec := "wearHung", unfollowed := true, recurses := true, named := ["thatch/fix.source", "thatch/fix.end"], plainKeys := false, leaving := true, apart := false, laid := [("thatch/fix.source", laid_thatch_fix_source), ("thatch/fix.end", laid_thatch_fix_end)] }
def WearHungSaid : Prop := wearHungRow.holds Tryd.pinned (OpenSpec.ofChange wearHungSpec)

/-- ITS FALSE NEIGHBOUR: 'it returns false'. Refute it at one input. -/
def wearHungWrong : ChangeSpec := { name := "wearHung", fn := fun _ => fun
  | [d1, d2, d3, d4] => { results := [.lit (.bool false)], args := [d1, d2, d3, d4] }
  | _ => none }
def WearHungWrongFalsely : Prop := wearHungRow.holds Tryd.pinned (OpenSpec.ofChange wearHungWrong)

/-- 'thatchlaw06.RidgeHeld': WHATEVER THE INPUT: true; the input reads as it did. -/
def ridgeHeldSpec : ChangeSpec := { name := "ridgeHeld", fn := fun _ => fun
  | [d1, d2, d3] => { results := [.lit (.bool true)], args := [d1, d2, d3] }
  | _ => none }
def ridgeHeldRow : OpenClaim := { program := "ytankmjkogcbnfaadoor", sum := "3c1c9b6f99bba9026c1596e1c6ddee76e620048c6995fae13321467f5f65f134", func := "thatch/thatchlaw06.RidgeHeld", spec := "ridgeHeld", unfollowed := true, recurses := true, named := ["thatch/fix.source", "thatch/fix.end"], plainKeys := false, leaving := true, apart := false, laid := [("thatch/fix.source", laid_thatch_fix_source), ("thatch/fix.end", laid_thatch_fix_end)] }
def RidgeHeldSaid : Prop := ridgeHeldRow.holds Tryd.pinned (OpenSpec.ofChange ridgeHeldSpec)

/-- ITS FALSE NEIGHBOUR: 'it returns false'. Refute it at one input. -/
def ridgeHeldWrong : ChangeSpec := { name := "ridgeHeld", fn := fun _ => fun
  | [d1, d2, d3] => { results := [.lit (.bool false)], args := [d1, d2, d3] }
  | _ => none }
def RidgeHeldWrongFalsely : Prop := ridgeHeldRow.holds Tryd.pinned (OpenSpec.ofChange ridgeHeldWrong)

/-- 'thatchlaw04.FixRafters': WHATEVER THE INPUT: true; the input reads as it did. -/
def fixRaftersSpec : ChangeSpec := { name := "fixRafters", fn := fun _ => fun
  | [d1, d2] => { results := [.lit (.bool true)], args := [d1, d2] }
  | _ => none }
def fixRaftersRow : OpenClaim := { program := "ytankmjkogcbnfaadoor", sum := "3c1c9b6f99bba9026c1596e1c6ddee76e620048c6995fae13321467f5f65f134", func := "thatch/thatchlaw04.FixRafters", spec := "fixRafters", unfollowed := true, recurses := true, named := ["thatch/fix.source", "thatch/fix.end"], plainKeys := false, leaving := true, apart := false, laid := [("thatch/fix.source", laid_thatch_fix_source), ("thatch/fix.end", laid_thatch_fix_end)] }
def FixRaftersSaid : Prop := fixRaftersRow.holds Tryd.pinned (OpenSpec.ofChange fixRaftersSpec)

/-- ITS FALSE NEIGHBOUR: 'it returns false'. Refute it at one input. -/
def fixRaftersWrong : ChangeSpec := { name := "fixRafters", fn := fun _ => fun
  | [d1, d2] => { results := [.lit (.bool false)], args := [d1, d2] }
  | _ => none }
def FixRaftersWrongFalsely : Prop := fixRaftersRow.holds Tryd.pinned (OpenSpec.ofChange fixRaftersWrong)

/-- 'thatchlaw04.FixBarn': WHATEVER THE INPUT: true; the input reads as it did. -/
def fixBarnSpec : ChangeSpec := { name := "fixBarn", fn := fun _ => fun
  | [d1, d2, d3] => { results := [.lit (.bool true)], args := [d1, d2, d3] }
  | _ => none }
def fixBarnRow : OpenClaim := { program := "ytankmjkogcbnfaadoor", sum := "3c1c9b6f99bba9026c1596e1c6ddee76e620048c6995fae13321467f5f65f134", func := "thatch/thatchlaw04.FixBarn", spec := "fixBarn", unfollowed := true, recurses := true, named := ["thatch/fix.source", "thatch/fix.end"], plainKeys := false, leaving := true, apart := false, laid := [("thatch/fix.source", laid_thatch_fix_source), ("thatch/fix.end", laid_thatch_fix_end)] }
def FixBarnSaid : Prop := fixBarnRow.holds Tryd.pinned (OpenSpec.ofChange fixBarnSpec)

/-- ITS FALSE NEIGHBOUR: 'it returns false'. Refute it at one input. -/
def fixBarnWrong : ChangeSpec := { name := "fixBarn", fn := fun _ => fun
  | [d1, d2, d3] => { results := [.lit (.bool false)], args := [d1, d2, d3] }
  | _ => none }
def FixBarnWrongFalsely : Prop := fixBarnRow.holds Tryd.pinned (OpenSpec.ofChange fixBarnWrong)

/- THE SECOND FORM. 'bulk': how many values and letters a reading holds, each counted each time it is reached (what is shared counts as often as it is met; a slice's spare places count too). A statement '..UptoSaid' is the law's where the arguments, and the package variables that the reading takes, are together of bulk at most 1048576: NARROWER than '..Said'. Prove '..Said' where nothing that the law and all that it calls make is longer than what came in: it says more and counts as full. Else prove '..UptoSaid'. A law counts once. -/
mutual
def uptoBulk {H : Type} : DataW H → Nat
  | .lit (.string bytes) => bytes.length + 1
  | .lit _ => 1
  | .nil => 1
  | .ptr d => uptoBulk d + 1
  | .slice elems spare => uptoBulkAll elems + uptoBulkAll spare + 1
  | .agg parts => uptoBulkAll parts + 1
  | .iface _ d => uptoBulk d + 1
  | .map entries => uptoBulkEntries entries + 1
  | .held _ => 1
def uptoBulkAll {H : Type} : List (DataW H) → Nat
  | [] => 0
  | d :: r => uptoBulk d + uptoBulkAll r
def uptoBulkEntries {H : Type} : List (Lit × DataW H) → Nat
  | [] => 0
  | x :: r => uptoBulkEntry x + uptoBulkEntries r
def uptoBulkEntry {H : Type} : Lit × DataW H → Nat
  | (.string bytes, d) => bytes.length + uptoBulk d + 1
  | (_, d) => uptoBulk d + 1
 end
def uptoSmall : (H : Type) → List (DataW H) → Bool := fun _ ds => decide (uptoBulkAll ds ≤ 1048576)
def OpenSpec.upto (s : _root_.Go.ChangeSpec) : _root_.Go.OpenSpec := { _root_.Go.OpenSpec.ofChange s with cond := some uptoSmall }

/-- 'thatchlaw07.WearHung', WHERE WHAT IT READS IS OF BULK AT MOST 1048576: true; the input reads as it did. -/
def wearHungUptoRow : OpenClaim := { program := "ytankmjkogcbnfaadoor", sum := "3c1c9b6f99bba9026c1596e1c6ddee76e620048c6995fae13321467f5f65f134", func := "thatch/thatchlaw07.WearHung", spec := "wearHung", unfollowed := true, recurses := true, named := ["thatch/fix.source", "thatch/fix.end"], plainKeys := false, leaving := true, apart := false, laid := [("thatch/fix.source", laid_thatch_fix_source), ("thatch/fix.end", laid_thatch_fix_end)], narrowed := true }
def WearHungUptoSaid : Prop := wearHungUptoRow.holds Tryd.pinned (OpenSpec.upto wearHungSpec)

/-- 'thatchlaw06.RidgeHeld', WHERE WHAT IT READS IS OF BULK AT MOST 1048576: true; the input reads as it did. -/
def ridgeHeldUptoRow : OpenClaim := { program := "ytankmjkogcbnfaadoor", sum := "3c1c9b6f99bba9026c1596e1c6ddee76e620048c6995fae13321467f5f65f134", func := "thatch/thatchlaw06.RidgeHeld", spec := "ridgeHeld", unfollowed := true, recurses := true, named := ["thatch/fix.source", "thatch/fix.end"], plainKeys := false, leaving := true, apart := false, laid := [("thatch/fix.source", laid_thatch_fix_source), ("thatch/fix.end", laid_thatch_fix_end)], narrowed := true }
def RidgeHeldUptoSaid : Prop := ridgeHeldUptoRow.holds Tryd.pinned (OpenSpec.upto ridgeHeldSpec)

/-- 'thatchlaw04.FixRafters', WHERE WHAT IT READS IS OF BULK AT MOST 1048576: true; the input reads as it did. -/
def fixRaftersUptoRow : OpenClaim := { program := "ytankmjkogcbnfaadoor", sum := "3c1c9b6f99bba9026c1596e1c6ddee76e620048c6995fae13321467f5f65f134", func := "thatch/thatchlaw04.FixRafters", spec := "fixRafters", unfollowed := true, recurses := true, named := ["thatch/fix.source", "thatch/fix.end"], plainKeys := false, leaving := true, apart := false, laid := [("thatch/fix.source", laid_thatch_fix_source), ("thatch/fix.end", laid_thatch_fix_end)], narrowed := true }
def FixRaftersUptoSaid : Prop := fixRaftersUptoRow.holds Tryd.pinned (OpenSpec.upto fixRaftersSpec)

/-- 'thatchlaw04.FixBarn', WHERE WHAT IT READS IS OF BULK AT MOST 1048576: true; the input reads as it did. -/
def fixBarnUptoRow : OpenClaim := { program := "ytankmjkogcbnfaadoor", sum := "3c1c9b6f99bba9026c1596e1c6ddee76e620048c6995fae13321467f5f65f134", func := "thatch/thatchlaw04.FixBarn", spec := "fixBarn", unfollowed := true, recurses := true, named := ["thatch/fix.source", "thatch/fix.end"], plainKeys := false, leaving := true, apart := false, laid := [("thatch/fix.source", laid_thatch_fix_source), ("thatch/fix.end", laid_thatch_fix_end)], narrowed := true }
def FixBarnUptoSaid : Prop := fixBarnUptoRow.holds Tryd.pinned (OpenSpec.upto fixBarnSpec)

end Rows
end Go.Proofs.YtankmjkogcbnfaaDoor
