/-
  NARROWER THAN 'FOR EVERY INPUT', by the rows' own cells (each row's printed sentence says how): MachSame: loops · MachForms: loops.
  DERIVED. THE GIVEN ROWS OF THIS SEAT. 9 by the template 'for every input the law returns true; each argument reads behind the call as it read before'; 0 by the template 'total and deterministic' (their statements: YtolfehbfcjfmnaaGreatTotals.lean).
  GIVEN WITH THE SEED: the statements are not yours to turn. If you find one false, say at which input.
  Laid BY PROGRAM, IN A SANDBOX (cutbox-rows.mjs): the forced cells as the released guide's own fill.sh prints them over the translation 49b1b11c9b01d825… (all of the seat's roots in one cut). By AI agents, Wed Nov 11 2026. No macro, syntax, notation, axiom, sorry.
-/
import Derived.Test.YtolfehbfcjfmnaaGreatChecked
import GoSem.Claim
import GoSem.ClaimJoined
import GoSem.ClaimMapViews
import Derived.JoinedTies
import Derived.KernelRfl
namespace Go.Proofs.YtolfehbfcjfmnaaGreat
/- THE CELL 'sum', in the pinned program and in every row, IS THE sha256 OF THE DUMP (.gsa) THAT YtolfehbfcjfmnaaGreatProg.lean LOADS. Nothing in Lean hashes anything: it is a label: what it is worth is what the hold of that sum in a sandbox is worth. -/
noncomputable def Tryz.pinned : Pinned := { name := "ytolfehbfcjfmnaagreat", sum := "49b1b11c9b01d8254ca355e0c495933ba879699e395c05b22a70a828ec6defe4", checked := Tryz.checked }
namespace Rows
def none {H : Type} : Left H := { results := [], args := [] }

/-- 'swinglelaw20.MachSame': WHATEVER THE INPUT: true; the input reads as it did. -/
def machSameSpec : ChangeSpec := { name := "machSame", fn := fun _ => fun
  | [d1, d2, d3] => { results := [.lit (.bool true)], args := [d1, d2, d3] }
  | _ => none }
def machSameRow : OpenClaim := { program := "ytolfehbfcjfmnaagreat", sum := "49b1b11c9b01d8254ca355e0c495933ba879699e395c05b22a70a828ec6defe4", func := "swingle/swinglelaw20.MachSame", spec := "machSame", unfollowed := true, recurses := true, loops := true, plainKeys := false, apart := false }
def MachSameSaid : Prop := machSameRow.holds Tryz.pinned (OpenSpec.ofChange machSameSpec)

/-- ITS FALSE NEIGHBOUR: 'it returns false'. Refute it at one input. -/
def machSameWrong : ChangeSpec := { name := "machSame", fn := fun _ => fun
  | [d1, d2, d3] => { results := [.lit (.bool false)], args := [d1, d2, d3] }
  | _ => none }
def MachSameWrongFalsely : Prop := machSameRow.holds Tryz.pinned (OpenSpec.ofChange machSameWrong)

/-- 'swinglelaw20.MachParts': WHATEVER THE INPUT: true; the input reads as it did. -/
def machPartsSpec : ChangeSpec := { name := "machParts", fn := fun _ => fun
  | [d1, d2, d3, d4] => { results := [.lit (.bool true)], args := [d1, d2, d3, d4] }
  | _ => none }
def machPartsRow : OpenClaim := { program := "ytolfehbfcjfmnaagreat", sum := "49b1b11c9b01d8254ca355e0c495933ba879699e395c05b22a70a828ec6defe4", func := "swingle/swinglelaw20.MachParts", spec := "machParts", unfollowed := true, recurses := true, plainKeys := false, apart := false }
def MachPartsSaid : Prop := machPartsRow.holds Tryz.pinned (OpenSpec.ofChange machPartsSpec)

/-- ITS FALSE NEIGHBOUR: 'it returns false'. Refute it at one input. -/
def machPartsWrong : ChangeSpec := { name := "machParts", fn := fun _ => fun
  | [d1, d2, d3, d4] => { results := [.lit (.bool false)], args := [d1, d2, d3, d4] }
  | _ => none }
def MachPartsWrongFalsely : Prop := machPartsRow.holds Tryz.pinned (OpenSpec.ofChange machPartsWrong)

/-- 'swinglelaw20.MachKnown': WHATEVER THE INPUT: true; the input reads as it did. -/
def machKnownSpec : ChangeSpec := { name := "machKnown", fn := fun _ => fun
  | [] => { results := [.lit (.bool true)], args := [] }
  | _ => none }
def machKnownRow : OpenClaim := { program := "ytolfehbfcjfmnaagreat", sum := "49b1b11c9b01d8254ca355e0c495933ba879699e395c05b22a70a828ec6defe4", func := "swingle/swinglelaw20.MachKnown", spec := "machKnown", unfollowed := true, recurses := true, plainKeys := false, apart := false }
def MachKnownSaid : Prop := machKnownRow.holds Tryz.pinned (OpenSpec.ofChange machKnownSpec)

/-- ITS FALSE NEIGHBOUR: 'it returns false'. Refute it at one input. -/
def machKnownWrong : ChangeSpec := { name := "machKnown", fn := fun _ => fun
  | [] => { results := [.lit (.bool false)], args := [] }
  | _ => none }
def MachKnownWrongFalsely : Prop := machKnownRow.holds Tryz.pinned (OpenSpec.ofChange machKnownWrong)

/-- 'swinglelaw20.MachForms': WHATEVER THE INPUT: true; the input reads as it did. -/
def machFormsSpec : ChangeSpec := { name := "machForms", fn := fun _ => fun
  | [d1, d2, d3] => { results := [.lit (.bool true)], args := [d1, d2, d3] }
  | _ => none }
def machFormsRow : OpenClaim := { program := "ytolfehbfcjfmnaagreat", sum := "49b1b11c9b01d8254ca355e0c495933ba879699e395c05b22a70a828ec6defe4", func := "swingle/swinglelaw20.MachForms", spec := "machForms", unfollowed := true, recurses := true, loops := true, plainKeys := false, apart := false }
def MachFormsSaid : Prop := machFormsRow.holds Tryz.pinned (OpenSpec.ofChange machFormsSpec)

/-- ITS FALSE NEIGHBOUR: 'it returns false'. Refute it at one input. -/
def machFormsWrong : ChangeSpec := { name := "machForms", fn := fun _ => fun
  | [d1, d2, d3] => { results := [.lit (.bool false)], args := [d1, d2, d3] }
  | _ => none }
def MachFormsWrongFalsely : Prop := machFormsRow.holds Tryz.pinned (OpenSpec.ofChange machFormsWrong)

/-- 'swinglelaw20.MachRuns': WHATEVER THE INPUT: true; the input reads as it did. -/
def machRunsSpec : ChangeSpec := { name := "machRuns", fn := fun _ => fun
  | [d1, d2, d3] => { results := [.lit (.bool true)], args := [d1, d2, d3] }
  | _ => none }
def machRunsRow : OpenClaim := { program := "ytolfehbfcjfmnaagreat", sum := "49b1b11c9b01d8254ca355e0c495933ba879699e395c05b22a70a828ec6defe4", func := "swingle/swinglelaw20.MachRuns", spec := "machRuns", unfollowed := true, recurses := true, plainKeys := false, apart := false }
def MachRunsSaid : Prop := machRunsRow.holds Tryz.pinned (OpenSpec.ofChange machRunsSpec)

/-- ITS FALSE NEIGHBOUR: 'it returns false'. Refute it at one input. -/
def machRunsWrong : ChangeSpec := { name := "machRuns", fn := fun _ => fun
  | [d1, d2, d3] => { results := [.lit (.bool false)], args := [d1, d2, d3] }
  | _ => none }
def MachRunsWrongFalsely : Prop := machRunsRow.holds Tryz.pinned (OpenSpec.ofChange machRunsWrong)

/-- 'swinglelaw20.MachBacks': WHATEVER THE INPUT: true; the input reads as it did. -/
def machBacksSpec : ChangeSpec := { name := "machBacks", fn := fun _ => fun
  | [d1, d2] => { results := [.lit (.bool true)], args := [d1, d2] }
  | _ => none }
def machBacksRow : OpenClaim := { program := "ytolfehbfcjfmnaagreat", sum := "49b1b11c9b01d8254ca355e0c495933ba879699e395c05b22a70a828ec6defe4", func := "swingle/swinglelaw20.MachBacks", spec := "machBacks", unfollowed := true, recurses := true, plainKeys := false, apart := false }
def MachBacksSaid : Prop := machBacksRow.holds Tryz.pinned (OpenSpec.ofChange machBacksSpec)

/-- ITS FALSE NEIGHBOUR: 'it returns false'. Refute it at one input. -/
def machBacksWrong : ChangeSpec := { name := "machBacks", fn := fun _ => fun
  | [d1, d2] => { results := [.lit (.bool false)], args := [d1, d2] }
  | _ => none }
def MachBacksWrongFalsely : Prop := machBacksRow.holds Tryz.pinned (OpenSpec.ofChange machBacksWrong)

/-- 'swinglelaw20.MachSteps': WHATEVER THE INPUT: true; the input reads as it did. -/
def machStepsSpec : ChangeSpec := { name := "machSteps", fn := fun _ => fun
  | [d1, d2] => { results := [.lit (.bool true)], args := [d1, d2] }
  | _ => none }
def machStepsRow : OpenClaim := { program := "ytolfehbfcjfmnaagreat", sum := "49b1b11c9b01d8254ca355e0c495933ba879699e395c05b22a70a828ec6defe4", func := "swingle/swinglelaw20.MachSteps", spec := "machSteps", unfollowed := true, recurses := true, plainKeys := false, apart := false }
def MachStepsSaid : Prop := machStepsRow.holds Tryz.pinned (OpenSpec.ofChange machStepsSpec)

/-- ITS FALSE NEIGHBOUR: 'it returns false'. Refute it at one input. -/
def machStepsWrong : ChangeSpec := { name := "machSteps", fn := fun _ => fun
  | [d1, d2] => { results := [.lit (.bool false)], args := [d1, d2] }
  | _ => none }
def MachStepsWrongFalsely : Prop := machStepsRow.holds Tryz.pinned (OpenSpec.ofChange machStepsWrong)

/-- 'swinglelaw20.MachAlts': WHATEVER THE INPUT: true; the input reads as it did. -/
def machAltsSpec : ChangeSpec := { name := "machAlts", fn := fun _ => fun
  | [d1, d2, d3] => { results := [.lit (.bool true)], args := [d1, d2, d3] }
  | _ => none }
def machAltsRow : OpenClaim := { program := "ytolfehbfcjfmnaagreat", sum := "49b1b11c9b01d8254ca355e0c495933ba879699e395c05b22a70a828ec6defe4", func := "swingle/swinglelaw20.MachAlts", spec := "machAlts", unfollowed := true, recurses := true, plainKeys := false, apart := false }
def MachAltsSaid : Prop := machAltsRow.holds Tryz.pinned (OpenSpec.ofChange machAltsSpec)

/-- ITS FALSE NEIGHBOUR: 'it returns false'. Refute it at one input. -/
def machAltsWrong : ChangeSpec := { name := "machAlts", fn := fun _ => fun
  | [d1, d2, d3] => { results := [.lit (.bool false)], args := [d1, d2, d3] }
  | _ => none }
def MachAltsWrongFalsely : Prop := machAltsRow.holds Tryz.pinned (OpenSpec.ofChange machAltsWrong)

/-- 'swinglelaw20.MachUndone': WHATEVER THE INPUT: true; the input reads as it did. -/
def machUndoneSpec : ChangeSpec := { name := "machUndone", fn := fun _ => fun
  | [d1, d2, d3, d4] => { results := [.lit (.bool true)], args := [d1, d2, d3, d4] }
  | _ => none }
def machUndoneRow : OpenClaim := { program := "ytolfehbfcjfmnaagreat", sum := "49b1b11c9b01d8254ca355e0c495933ba879699e395c05b22a70a828ec6defe4", func := "swingle/swinglelaw20.MachUndone", spec := "machUndone", unfollowed := true, recurses := true, plainKeys := false, apart := false }
def MachUndoneSaid : Prop := machUndoneRow.holds Tryz.pinned (OpenSpec.ofChange machUndoneSpec)

/-- ITS FALSE NEIGHBOUR: 'it returns false'. Refute it at one input. -/
def machUndoneWrong : ChangeSpec := { name := "machUndone", fn := fun _ => fun
  | [d1, d2, d3, d4] => { results := [.lit (.bool false)], args := [d1, d2, d3, d4] }
  | _ => none }
def MachUndoneWrongFalsely : Prop := machUndoneRow.holds Tryz.pinned (OpenSpec.ofChange machUndoneWrong)

/- THE SECOND FORM. 'bulk': how many values and letters a reading holds, each counted each time it is reached (what is shared counts as often as it is met; a slice's spare places count too). A statement '..UptoSaid' is the law's where the arguments, and the package variables that the reading takes, are together of bulk at most 1048576: NARROWER than '..Said'. Prove '..Said' where nothing that the law and all that it calls make is longer than what came in: it says more and counts as full. Else prove '..UptoSaid'. A law counts once. -/
mutual
def uptoBulk {H : Type} : DataW H → Nat
  | .lit (.string bytes) => bytes.length + 1
  | .lit _ => 1
  | .nil => 1
  | .ptr d => uptoBulk d + 1
  | .slice elems spare => uptoBulkAll elems + uptoBulkAll spare + 1
  | .agg parts => uptoBulkAll parts + 1
  | .iface _ d => uptoBulk d + 1
  | .map entries => uptoBulkEntries entries + 1
  | .held _ => 1
def uptoBulkAll {H : Type} : List (DataW H) → Nat
  | [] => 0
  | d :: r => uptoBulk d + uptoBulkAll r
def uptoBulkEntries {H : Type} : List (Lit × DataW H) → Nat
  | [] => 0
  | x :: r => uptoBulkEntry x + uptoBulkEntries r
def uptoBulkEntry {H : Type} : Lit × DataW H → Nat
  | (.string bytes, d) => bytes.length + uptoBulk d + 1
  | (_, d) => uptoBulk d + 1
 end
def uptoSmall : (H : Type) → List (DataW H) → Bool := fun _ ds => decide (uptoBulkAll ds ≤ 1048576)
def OpenSpec.upto (s : _root_.Go.ChangeSpec) : _root_.Go.OpenSpec := { _root_.Go.OpenSpec.ofChange s with cond := some uptoSmall }

/-- 'swinglelaw20.MachSame', WHERE WHAT IT READS IS OF BULK AT MOST 1048576: true; the input reads as it did. -/
def machSameUptoRow : OpenClaim := { program := "ytolfehbfcjfmnaagreat", sum := "49b1b11c9b01d8254ca355e0c495933ba879699e395c05b22a70a828ec6defe4", func := "swingle/swinglelaw20.MachSame", spec := "machSame", unfollowed := true, recurses := true, loops := true, plainKeys := false, apart := false, narrowed := true }
def MachSameUptoSaid : Prop := machSameUptoRow.holds Tryz.pinned (OpenSpec.upto machSameSpec)

/-- 'swinglelaw20.MachParts', WHERE WHAT IT READS IS OF BULK AT MOST 1048576: true; the input reads as it did. -/
def machPartsUptoRow : OpenClaim := { program := "ytolfehbfcjfmnaagreat", sum := "49b1b11c9b01d8254ca355e0c495933ba879699e395c05b22a70a828ec6defe4", func := "swingle/swinglelaw20.MachParts", spec := "machParts", unfollowed := true, recurses := true, plainKeys := false, apart := false, narrowed := true }
def MachPartsUptoSaid : Prop := machPartsUptoRow.holds Tryz.pinned (OpenSpec.upto machPartsSpec)

/-- 'swinglelaw20.MachKnown', WHERE WHAT IT READS IS OF BULK AT MOST 1048576: true; the input reads as it did. -/
def machKnownUptoRow : OpenClaim := { program := "ytolfehbfcjfmnaagreat", sum := "49b1b11c9b01d8254ca355e0c495933ba879699e395c05b22a70a828ec6defe4", func := "swingle/swinglelaw20.MachKnown", spec := "machKnown", unfollowed := true, recurses := true, plainKeys := false, apart := false, narrowed := true }
def MachKnownUptoSaid : Prop := machKnownUptoRow.holds Tryz.pinned (OpenSpec.upto machKnownSpec)

/-- 'swinglelaw20.MachForms', WHERE WHAT IT READS IS OF BULK AT MOST 1048576: true; the input reads as it did. -/
def machFormsUptoRow : OpenClaim := { program := "ytolfehbfcjfmnaagreat", sum := "49b1b11c9b01d8254ca355e0c495933ba879699e395c05b22a70a828ec6defe4", func := "swingle/swinglelaw20.MachForms", spec := "machForms", unfollowed := true, recurses := true, loops := true, plainKeys := false, apart := false, narrowed := true }
def MachFormsUptoSaid : Prop := machFormsUptoRow.holds Tryz.pinned (OpenSpec.upto machFormsSpec)

/-- 'swinglelaw20.MachRuns', WHERE WHAT IT READS IS OF BULK AT MOST 1048576: true; the input reads as it did. -/
def machRunsUptoRow : OpenClaim := { program := "ytolfehbfcjfmnaagreat", sum := "49b1b11c9b01d8254ca355e0c495933ba879699e395c05b22a70a828ec6defe4", func := "swingle/swinglelaw20.MachRuns", spec := "machRuns", unfollowed := true, recurses := true, plainKeys := false, apart := false, narrowed := true }
def MachRunsUptoSaid : Prop := machRunsUptoRow.holds Tryz.pinned (OpenSpec.upto machRunsSpec)

/-- 'swinglelaw20.MachBacks', WHERE WHAT IT READS IS OF BULK AT MOST 1048576: true; the input reads as it did. -/
def machBacksUptoRow : OpenClaim := { program := "ytolfehbfcjfmnaagreat", sum := "49b1b11c9b01d8254ca355e0c495933ba879699e395c05b22a70a828ec6defe4", func := "swingle/swinglelaw20.MachBacks", spec := "machBacks", unfollowed := true, recurses := true, plainKeys := false, apart := false, narrowed := true }
def MachBacksUptoSaid : Prop := machBacksUptoRow.holds Tryz.pinned (OpenSpec.upto machBacksSpec)

/-- 'swinglelaw20.MachSteps', WHERE WHAT IT READS IS OF BULK AT MOST 1048576: true; the input reads as it did. -/
def machStepsUptoRow : OpenClaim := { program := "ytolfehbfcjfmnaagreat", sum := "49b1b11c9b01d8254ca355e0c495933ba879699e395c05b22a70a828ec6defe4", func := "swingle/swinglelaw20.MachSteps", spec := "machSteps", unfollowed := true, recurses := true, plainKeys := false, apart := false, narrowed := true }
def MachStepsUptoSaid : Prop := machStepsUptoRow.holds Tryz.pinned (OpenSpec.upto machStepsSpec)

/-- 'swinglelaw20.MachAlts', WHERE WHAT IT READS IS OF BULK AT MOST 1048576: true; the input reads as it did. -/
def machAltsUptoRow : OpenClaim := { program := "ytolfehbfcjfmnaagreat", sum := "49b1b11c9b01d8254ca355e0c495933ba879699e395c05b22a70a828ec6defe4", func := "swingle/swinglelaw20.MachAlts", spec := "machAlts", unfollowed := true, recurses := true, plainKeys := false, apart := false, narrowed := true }
def MachAltsUptoSaid : Prop := machAltsUptoRow.holds Tryz.pinned (OpenSpec.upto machAltsSpec)

/-- 'swinglelaw20.MachUndone', WHERE WHAT IT READS IS OF BULK AT MOST 1048576: true; the input reads as it did. -/
def machUndoneUptoRow : OpenClaim := { program := "ytolfehbfcjfmnaagreat", sum := "49b1b11c9b01d8254ca355e0c495933ba879699e395c05b22a70a828ec6defe4", func := "swingle/swinglelaw20.MachUndone", spec := "machUndone", unfollowed := true, recurses := true, plainKeys := false, apart := false, narrowed := true }
def MachUndoneUptoSaid : Prop := machUndoneUptoRow.holds Tryz.pinned (OpenSpec.upto machUndoneSpec)

end Rows
end Go.Proofs.YtolfehbfcjfmnaaGreat
