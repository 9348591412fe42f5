/-
  No cell of these rows narrows 'for every input' (looked for: loops, veiled, ifaces, maps, wideKeys, modest, calm, conditions, laid).
  DERIVED. THE GIVEN ROWS OF THIS SEAT. 7 by the template 'for every input the law returns true; each argument reads behind the call as it read before'; 0 by the template 'total and deterministic' (their statements: YtjfmgoickokbjaaTotals.lean).
  GIVEN WITH THE SEED: the statements are not yours to turn. If you find one false, say at which input.
  Laid BY PROGRAM, IN A SANDBOX (cutbox-rows.mjs): the forced cells as the released guide's own fill.sh prints them over the translation 6c03f62190329297… (all of the seat's roots in one cut). By AI agents, Wed Nov 11 2026. No macro, syntax, notation, axiom, sorry.
-/
import Derived.Test.YtjfmgoickokbjaaChecked
import GoSem.Claim
import GoSem.ClaimJoined
import GoSem.ClaimMapViews
import Derived.JoinedTies
import Derived.KernelRfl
namespace Go.Proofs.Ytjfmgoickokbjaa
/- THE CELL 'sum', in the pinned program and in every row, IS THE sha256 OF THE DUMP (.gsa) THAT YtjfmgoickokbjaaProg.lean LOADS. Nothing in Lean hashes anything: it is a label: what it is worth is what the hold of that sum in a sandbox is worth. -/
noncomputable def Try.pinned : Pinned := { name := "ytjfmgoickokbjaa", sum := "6c03f621903292978fb8e616ed8c0ef6ce84db9a74611e93a000d8458135bba6", checked := Try.checked }
namespace Rows
def none {H : Type} : Left H := { results := [], args := [] }

/-- 'portreevelaw09.MachKeeps': WHATEVER THE INPUT: true; the input reads as it did. -/
def machKeepsSpec : ChangeSpec := { name := "machKeeps", fn := fun _ => fun
  | [d1, d2, d3, d4, d5] => { results := [.lit (.bool true)], args := [d1, d2, d3, d4, d5] }
  | _ => none }
def machKeepsRow : OpenClaim := { program := "ytjfmgoickokbjaa", sum := "6c03f621903292978fb8e616ed8c0ef6ce84db9a74611e93a000d8458135bba6", func := "portreeve/portreevelaw09.MachKeeps", spec := "machKeeps", unfollowed := true, recurses := true, apart := false }
def MachKeepsSaid : Prop := machKeepsRow.holds Try.pinned (OpenSpec.ofChange machKeepsSpec)

/-- ITS FALSE NEIGHBOUR: 'it returns false'. Refute it at one input. -/
def machKeepsWrong : ChangeSpec := { name := "machKeeps", fn := fun _ => fun
  | [d1, d2, d3, d4, d5] => { results := [.lit (.bool false)], args := [d1, d2, d3, d4, d5] }
  | _ => none }
def MachKeepsWrongFalsely : Prop := machKeepsRow.holds Try.pinned (OpenSpec.ofChange machKeepsWrong)

/-- 'portreevelaw09.MachFits': WHATEVER THE INPUT: true; the input reads as it did. -/
def machFitsSpec : ChangeSpec := { name := "machFits", fn := fun _ => fun
  | [d] => { results := [.lit (.bool true)], args := [d] }
  | _ => none }
def machFitsRow : OpenClaim := { program := "ytjfmgoickokbjaa", sum := "6c03f621903292978fb8e616ed8c0ef6ce84db9a74611e93a000d8458135bba6", func := "portreeve/portreevelaw09.MachFits", spec := "machFits", unfollowed := true, recurses := true, apart := false }
def MachFitsSaid : Prop := machFitsRow.holds Try.pinned (OpenSpec.ofChange machFitsSpec)

/-- ITS FALSE NEIGHBOUR: 'it returns false'. Refute it at one input. -/
def machFitsWrong : ChangeSpec := { name := "machFits", fn := fun _ => fun
  | [d] => { results := [.lit (.bool false)], args := [d] }
  | _ => none }
def MachFitsWrongFalsely : Prop := machFitsRow.holds Try.pinned (OpenSpec.ofChange machFitsWrong)

/-- 'portreevelaw09.MachFlashes': WHATEVER THE INPUT: true; the input reads as it did. -/
def machFlashesSpec : ChangeSpec := { name := "machFlashes", fn := fun _ => fun
  | [d1, d2, d3] => { results := [.lit (.bool true)], args := [d1, d2, d3] }
  | _ => none }
def machFlashesRow : OpenClaim := { program := "ytjfmgoickokbjaa", sum := "6c03f621903292978fb8e616ed8c0ef6ce84db9a74611e93a000d8458135bba6", func := "portreeve/portreevelaw09.MachFlashes", spec := "machFlashes", unfollowed := true, recurses := true, apart := false }
def MachFlashesSaid : Prop := machFlashesRow.holds Try.pinned (OpenSpec.ofChange machFlashesSpec)

/-- ITS FALSE NEIGHBOUR: 'it returns false'. Refute it at one input. -/
def machFlashesWrong : ChangeSpec := { name := "machFlashes", fn := fun _ => fun
  | [d1, d2, d3] => { results := [.lit (.bool false)], args := [d1, d2, d3] }
  | _ => none }
def MachFlashesWrongFalsely : Prop := machFlashesRow.holds Try.pinned (OpenSpec.ofChange machFlashesWrong)

/-- 'portreevelaw09.MachWords': WHATEVER THE INPUT: true; the input reads as it did. -/
def machWordsSpec : ChangeSpec := { name := "machWords", fn := fun _ => fun
  | [d1, d2, d3] => { results := [.lit (.bool true)], args := [d1, d2, d3] }
  | _ => none }
def machWordsRow : OpenClaim := { program := "ytjfmgoickokbjaa", sum := "6c03f621903292978fb8e616ed8c0ef6ce84db9a74611e93a000d8458135bba6", func := "portreeve/portreevelaw09.MachWords", spec := "machWords", unfollowed := true, recurses := true, apart := false }
def MachWordsSaid : Prop := machWordsRow.holds Try.pinned (OpenSpec.ofChange machWordsSpec)

/-- ITS FALSE NEIGHBOUR: 'it returns false'. Refute it at one input. -/
def machWordsWrong : ChangeSpec := { name := "machWords", fn := fun _ => fun
  | [d1, d2, d3] => { results := [.lit (.bool false)], args := [d1, d2, d3] }
  | _ => none }
def MachWordsWrongFalsely : Prop := machWordsRow.holds Try.pinned (OpenSpec.ofChange machWordsWrong)

/-- 'portreevelaw09.MachMakes': WHATEVER THE INPUT: true; the input reads as it did. -/
def machMakesSpec : ChangeSpec := { name := "machMakes", fn := fun _ => fun
  | [d1, d2, d3, d4, d5] => { results := [.lit (.bool true)], args := [d1, d2, d3, d4, d5] }
  | _ => none }
def machMakesRow : OpenClaim := { program := "ytjfmgoickokbjaa", sum := "6c03f621903292978fb8e616ed8c0ef6ce84db9a74611e93a000d8458135bba6", func := "portreeve/portreevelaw09.MachMakes", spec := "machMakes", unfollowed := true, recurses := true, apart := false }
def MachMakesSaid : Prop := machMakesRow.holds Try.pinned (OpenSpec.ofChange machMakesSpec)

/-- ITS FALSE NEIGHBOUR: 'it returns false'. Refute it at one input. -/
def machMakesWrong : ChangeSpec := { name := "machMakes", fn := fun _ => fun
  | [d1, d2, d3, d4, d5] => { results := [.lit (.bool false)], args := [d1, d2, d3, d4, d5] }
  | _ => none }
def MachMakesWrongFalsely : Prop := machMakesRow.holds Try.pinned (OpenSpec.ofChange machMakesWrong)

/-- 'portreevelaw09.MachDoes': WHATEVER THE INPUT: true; the input reads as it did. -/
def machDoesSpec : ChangeSpec := { name := "machDoes", fn := fun _ => fun
  | [d1, d2, d3] => { results := [.lit (.bool true)], args := [d1, d2, d3] }
  | _ => none }
def machDoesRow : OpenClaim := { program := "ytjfmgoickokbjaa", sum := "6c03f621903292978fb8e616ed8c0ef6ce84db9a74611e93a000d8458135bba6", func := "portreeve/portreevelaw09.MachDoes", spec := "machDoes", unfollowed := true, recurses := true, apart := false }
def MachDoesSaid : Prop := machDoesRow.holds Try.pinned (OpenSpec.ofChange machDoesSpec)

/-- ITS FALSE NEIGHBOUR: 'it returns false'. Refute it at one input. -/
def machDoesWrong : ChangeSpec := { name := "machDoes", fn := fun _ => fun
  | [d1, d2, d3] => { results := [.lit (.bool false)], args := [d1, d2, d3] }
  | _ => none }
def MachDoesWrongFalsely : Prop := machDoesRow.holds Try.pinned (OpenSpec.ofChange machDoesWrong)

/-- 'portreevelaw09.MachNone': WHATEVER THE INPUT: true; the input reads as it did. -/
def machNoneSpec : ChangeSpec := { name := "machNone", fn := fun _ => fun
  | [d1, d2, d3] => { results := [.lit (.bool true)], args := [d1, d2, d3] }
  | _ => none }
def machNoneRow : OpenClaim := { program := "ytjfmgoickokbjaa", sum := "6c03f621903292978fb8e616ed8c0ef6ce84db9a74611e93a000d8458135bba6", func := "portreeve/portreevelaw09.MachNone", spec := "machNone", unfollowed := true, recurses := true, apart := false }
def MachNoneSaid : Prop := machNoneRow.holds Try.pinned (OpenSpec.ofChange machNoneSpec)

/-- ITS FALSE NEIGHBOUR: 'it returns false'. Refute it at one input. -/
def machNoneWrong : ChangeSpec := { name := "machNone", fn := fun _ => fun
  | [d1, d2, d3] => { results := [.lit (.bool false)], args := [d1, d2, d3] }
  | _ => none }
def MachNoneWrongFalsely : Prop := machNoneRow.holds Try.pinned (OpenSpec.ofChange machNoneWrong)

/- THE SECOND FORM. 'bulk': how many values and letters a reading holds, each counted each time it is reached (what is shared counts as often as it is met; a slice's spare places count too). A statement '..UptoSaid' is the law's where the arguments, and the package variables that the reading takes, are together of bulk at most 1048576: NARROWER than '..Said'. Prove '..Said' where nothing that the law and all that it calls make is longer than what came in: it says more and counts as full. Else prove '..UptoSaid'. A law counts once. -/
mutual
def uptoBulk {H : Type} : DataW H → Nat
  | .lit (.string bytes) => bytes.length + 1
  | .lit _ => 1
  | .nil => 1
  | .ptr d => uptoBulk d + 1
  | .slice elems spare => uptoBulkAll elems + uptoBulkAll spare + 1
  | .agg parts => uptoBulkAll parts + 1
  | .iface _ d => uptoBulk d + 1
  | .map entries => uptoBulkEntries entries + 1
  | .held _ => 1
def uptoBulkAll {H : Type} : List (DataW H) → Nat
  | [] => 0
  | d :: r => uptoBulk d + uptoBulkAll r
def uptoBulkEntries {H : Type} : List (Lit × DataW H) → Nat
  | [] => 0
  | x :: r => uptoBulkEntry x + uptoBulkEntries r
def uptoBulkEntry {H : Type} : Lit × DataW H → Nat
  | (.string bytes, d) => bytes.length + uptoBulk d + 1
  | (_, d) => uptoBulk d + 1
 end
def uptoSmall : (H : Type) → List (DataW H) → Bool := fun _ ds => decide (uptoBulkAll ds ≤ 1048576)
def OpenSpec.upto (s : _root_.Go.ChangeSpec) : _root_.Go.OpenSpec := { _root_.Go.OpenSpec.ofChange s with cond := some uptoSmall }

/-- 'portreevelaw09.MachKeeps', WHERE WHAT IT READS IS OF BULK AT MOST 1048576: true; the input reads as it did. -/
def machKeepsUptoRow : OpenClaim := { program := "ytjfmgoickokbjaa", sum := "6c03f621903292978fb8e616ed8c0ef6ce84db9a74611e93a000d8458135bba6", func := "portreeve/portreevelaw09.MachKeeps", spec := "machKeeps", unfollowed := true, recurses := true, apart := false, narrowed := true }
def MachKeepsUptoSaid : Prop := machKeepsUptoRow.holds Try.pinned (OpenSpec.upto machKeepsSpec)

/-- 'portreevelaw09.MachFits', WHERE WHAT IT READS IS OF BULK AT MOST 1048576: true; the input reads as it did. -/
def machFitsUptoRow : OpenClaim := { program := "ytjfmgoickokbjaa", sum := "6c03f621903292978fb8e616ed8c0ef6ce84db9a74611e93a000d8458135bba6", func := "portreeve/portreevelaw09.MachFits", spec := "machFits", unfollowed := true, recurses := true, apart := false, narrowed := true }
def MachFitsUptoSaid : Prop := machFitsUptoRow.holds Try.pinned (OpenSpec.upto machFitsSpec)

/-- 'portreevelaw09.MachFlashes', WHERE WHAT IT READS IS OF BULK AT MOST 1048576: true; the input reads as it did. -/
def machFlashesUptoRow : OpenClaim := { program := "ytjfmgoickokbjaa", sum := "6c03f621903292978fb8e616ed8c0ef6ce84db9a74611e93a000d8458135bba6", func := "portreeve/portreevelaw09.MachFlashes", spec := "machFlashes", unfollowed := true, recurses := true, apart := false, narrowed := true }
def MachFlashesUptoSaid : Prop := machFlashesUptoRow.holds Try.pinned (OpenSpec.upto machFlashesSpec)

/-- 'portreevelaw09.MachWords', WHERE WHAT IT READS IS OF BULK AT MOST 1048576: true; the input reads as it did. -/
def machWordsUptoRow : OpenClaim := { program := "ytjfmgoickokbjaa", sum := "6c03f621903292978fb8e616ed8c0ef6ce84db9a74611e93a000d8458135bba6", func := "portreeve/portreevelaw09.MachWords", spec := "machWords", unfollowed := true, recurses := true, apart := false, narrowed := true }
def MachWordsUptoSaid : Prop := machWordsUptoRow.holds Try.pinned (OpenSpec.upto machWordsSpec)

/-- 'portreevelaw09.MachMakes', WHERE WHAT IT READS IS OF BULK AT MOST 1048576: true; the input reads as it did. -/
def machMakesUptoRow : OpenClaim := { program := "ytjfmgoickokbjaa", sum := "6c03f621903292978fb8e616ed8c0ef6ce84db9a74611e93a000d8458135bba6", func := "portreeve/portreevelaw09.MachMakes", spec := "machMakes", unfollowed := true, recurses := true, apart := false, narrowed := true }
def MachMakesUptoSaid : Prop := machMakesUptoRow.holds Try.pinned (OpenSpec.upto machMakesSpec)

/-- 'portreevelaw09.MachDoes', WHERE WHAT IT READS IS OF BULK AT MOST 1048576: true; the input reads as it did. -/
def machDoesUptoRow : OpenClaim := { program := "ytjfmgoickokbjaa", sum := "6c03f621903292978fb8e616ed8c0ef6ce84db9a74611e93a000d8458135bba6", func := "portreeve/portreevelaw09.MachDoes", spec := "machDoes", unfollowed := true, recurses := true, apart := false, narrowed := true }
def MachDoesUptoSaid : Prop := machDoesUptoRow.holds Try.pinned (OpenSpec.upto machDoesSpec)

/-- 'portreevelaw09.MachNone', WHERE WHAT IT READS IS OF BULK AT MOST 1048576: true; the input reads as it did. -/
def machNoneUptoRow : OpenClaim := { program := "ytjfmgoickokbjaa", sum := "6c03f621903292978fb8e616ed8c0ef6ce84db9a74611e93a000d8458135bba6", func := "portreeve/portreevelaw09.MachNone", spec := "machNone", unfollowed := true, recurses := true, apart := false, narrowed := true }
def MachNoneUptoSaid : Prop := machNoneUptoRow.holds Try.pinned (OpenSpec.upto machNoneSpec)

end Rows
end Go.Proofs.Ytjfmgoickokbjaa
