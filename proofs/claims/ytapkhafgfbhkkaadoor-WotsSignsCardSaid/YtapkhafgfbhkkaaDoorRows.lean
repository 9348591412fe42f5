/-
  NARROWER THAN 'FOR EVERY INPUT', by the rows' own cells (each row's printed sentence says how): PrfKeyed: laid · PrfNodes: laid · PrfMsgs: laid · PrfXors: laid · PrfRands: laid · WotsChains: laid · WotsSteps: laid · WotsPublic: laid · WotsKeys: laid · WotsSigns: laid.
  DERIVED. THE GIVEN ROWS OF THIS SEAT. 10 by the template 'for every input the law returns true; each argument reads behind the call as it read before'; 0 by the template 'total and deterministic' (their statements: YtapkhafgfbhkkaaDoorTotals.lean).
  GIVEN WITH THE SEED: the statements are not yours to turn. If you find one false, say at which input.
  Laid BY PROGRAM, IN A SANDBOX (cutbox-rows.mjs): the forced cells as the released guide's own fill.sh prints them over the translation 07d548d3638d2799… (all of the seat's roots in one cut). By AI agents, Wed Nov 11 2026. No macro, syntax, notation, axiom, sorry.
-/
import Derived.Test.YtapkhafgfbhkkaaDoorChecked
import GoSem.Claim
import GoSem.ClaimJoined
import GoSem.ClaimMapViews
import Derived.JoinedTies
import Derived.KernelRfl
namespace Go.Proofs.YtapkhafgfbhkkaaDoor
/- THE CELL 'sum', in the pinned program and in every row, IS THE sha256 OF THE DUMP (.gsa) THAT YtapkhafgfbhkkaaDoorProg.lean LOADS. Nothing in Lean hashes anything: it is a label: what it is worth is what the hold of that sum in a sandbox is worth. -/
noncomputable def Tryd.pinned : Pinned := { name := "ytapkhafgfbhkkaadoor", sum := "07d548d3638d2799e18f34cb4e02c9f91184a677298d2aa61609398b98458978", checked := Tryd.checked }
namespace Rows
def none {H : Type} : Left H := { results := [], args := [] }

/- WHAT THE LISTED PACKAGE-LEVEL VARIABLES READ AS WHEN THE CALL BEGINS. Each datum BY PROGRAM (the guide's laid-datum.mjs) off the statement by which the dump's own 'gosem.cut.vars' lays the variable. In a bare row this is a premise. The card (YtapkhafgfbhkkaaDoorCards.lean) ties it to the program's text. -/
def laid_portreeve_sha_first {H : Type} : DataW H := .agg [.lit (.int .u32 1779033703), .lit (.int .u32 3144134277), .lit (.int .u32 1013904242), .lit (.int .u32 2773480762), .lit (.int .u32 1359893119), .lit (.int .u32 2600822924), .lit (.int .u32 528734635), .lit (.int .u32 1541459225)]
def laid_portreeve_sha_rounds {H : Type} : DataW H := .agg [.lit (.int .u32 1116352408), .lit (.int .u32 1899447441), .lit (.int .u32 3049323471), .lit (.int .u32 3921009573), .lit (.int .u32 961987163), .lit (.int .u32 1508970993), .lit (.int .u32 2453635748), .lit (.int .u32 2870763221), .lit (.int .u32 3624381080), .lit (.int .u32 310598401), .lit (.int .u32 607225278), .lit (.int .u32 1426881987), .lit (.int .u32 1925078388), .lit (.int .u32 2162078206), .lit (.int .u32 2614888103), .lit (.int .u32 3248222580), .lit (.int .u32 3835390401), .lit (.int .u32 4022224774), .lit (.int .u32 264347078), .lit (.int .u32 604807628), .lit (.int .u32 770255983), .lit (.int .u32 1249150122), .lit (.int .u32 1555081692), .lit (.int .u32 1996064986), .lit (.int .u32 2554220882), .lit (.int .u32 2821834349), .lit (.int .u32 2952996808), .lit (.int .u32 3210313671), .lit (.int .u32 3336571891), .lit (.int .u32 3584528711), .lit (.int .u32 113926993), .lit (.int .u32 338241895), .lit (.int .u32 666307205), .lit (.int .u32 773529912), .lit (.int .u32 1294757372), .lit (.int .u32 1396182291), .lit (.int .u32 1695183700), .lit (.int .u32 1986661051), .lit (.int .u32 2177026350), .lit (.int .u32 2456956037), .lit (.int .u32 2730485921), .lit (.int .u32 2820302411), .lit (.int .u32 3259730800), .lit (.int .u32 3345764771), .lit (.int .u32 3516065817), .lit (.int .u32 3600352804), .lit (.int .u32 4094571909), .lit (.int .u32 275423344), .lit (.int .u32 430227734), .lit (.int .u32 506948616), .lit (.int .u32 659060556), .lit (.int .u32 883997877), .lit (.int .u32 958139571), .lit (.int .u32 1322822218), .lit (.int .u32 1537002063), .lit (.int .u32 1747873779), .lit (.int .u32 1955562222), .lit (.int .u32 2024104815), .lit (.int .u32 2227730452), .lit (.int .u32 2361852424), .lit (.int .u32 2428436474), .lit (.int .u32 2756734187), .lit (.int .u32 3204031479), .lit (.int .u32 3329325298)]

/-- 'portreevelaw05.PrfKeyed': WHATEVER THE INPUT: true; the input reads as it did. -/
def prfKeyedSpec : ChangeSpec := { name := "prfKeyed", fn := fun _ => fun
  | [d1, d2] => { results := [.lit (.bool true)], args := [d1, d2] }
  | _ => none }
def prfKeyedRow : OpenClaim := { program := "ytapkhafgfbhkkaadoor", sum := "07d548d3638d2799e18f34cb4e02c9f91184a677298d2aa61609398b98458978", func := "portreeve/portreevelaw05.PrfKeyed", spec := "prfKeyed", named := ["portreeve/sha.first", "portreeve/sha.rounds"], apart := false, laid := [("portreeve/sha.first", laid_portreeve_sha_first), ("portreeve/sha.rounds", laid_portreeve_sha_rounds)] }
def PrfKeyedSaid : Prop := prfKeyedRow.holds Tryd.pinned (OpenSpec.ofChange prfKeyedSpec)

/-- ITS FALSE NEIGHBOUR: 'it returns false'. Refute it at one input. -/
def prfKeyedWrong : ChangeSpec := { name := "prfKeyed", fn := fun _ => fun
  | [d1, d2] => { results := [.lit (.bool false)], args := [d1, d2] }
  | _ => none }
def PrfKeyedWrongFalsely : Prop := prfKeyedRow.holds Tryd.pinned (OpenSpec.ofChange prfKeyedWrong)

/-- 'portreevelaw05.PrfNodes': WHATEVER THE INPUT: true; the input reads as it did. -/
def prfNodesSpec : ChangeSpec := { name := "prfNodes", fn := fun _ => fun
  | [d1, d2, d3] => { results := [.lit (.bool true)], args := [d1, d2, d3] }
  | _ => none }
def prfNodesRow : OpenClaim := { program := "ytapkhafgfbhkkaadoor", sum := "07d548d3638d2799e18f34cb4e02c9f91184a677298d2aa61609398b98458978", func := "portreeve/portreevelaw05.PrfNodes", spec := "prfNodes", named := ["portreeve/sha.first", "portreeve/sha.rounds"], apart := false, laid := [("portreeve/sha.first", laid_portreeve_sha_first), ("portreeve/sha.rounds", laid_portreeve_sha_rounds)] }
def PrfNodesSaid : Prop := prfNodesRow.holds Tryd.pinned (OpenSpec.ofChange prfNodesSpec)

/-- ITS FALSE NEIGHBOUR: 'it returns false'. Refute it at one input. -/
def prfNodesWrong : ChangeSpec := { name := "prfNodes", fn := fun _ => fun
  | [d1, d2, d3] => { results := [.lit (.bool false)], args := [d1, d2, d3] }
  | _ => none }
def PrfNodesWrongFalsely : Prop := prfNodesRow.holds Tryd.pinned (OpenSpec.ofChange prfNodesWrong)

/-- 'portreevelaw05.PrfMsgs': WHATEVER THE INPUT: true; the input reads as it did. -/
def prfMsgsSpec : ChangeSpec := { name := "prfMsgs", fn := fun _ => fun
  | [d1, d2, d3, d4] => { results := [.lit (.bool true)], args := [d1, d2, d3, d4] }
  | _ => none }
def prfMsgsRow : OpenClaim := { program := "ytapkhafgfbhkkaadoor", sum := "07d548d3638d2799e18f34cb4e02c9f91184a677298d2aa61609398b98458978", func := "portreeve/portreevelaw05.PrfMsgs", spec := "prfMsgs", named := ["portreeve/sha.first", "portreeve/sha.rounds"], apart := false, laid := [("portreeve/sha.first", laid_portreeve_sha_first), ("portreeve/sha.rounds", laid_portreeve_sha_rounds)] }
def PrfMsgsSaid : Prop := prfMsgsRow.holds Tryd.pinned (OpenSpec.ofChange prfMsgsSpec)

/-- ITS FALSE NEIGHBOUR: 'it returns false'. Refute it at one input. -/
def prfMsgsWrong : ChangeSpec := { name := "prfMsgs", fn := fun _ => fun
  | [d1, d2, d3, d4] => { results := [.lit (.bool false)], args := [d1, d2, d3, d4] }
  | _ => none }
def PrfMsgsWrongFalsely : Prop := prfMsgsRow.holds Tryd.pinned (OpenSpec.ofChange prfMsgsWrong)

/-- 'portreevelaw05.PrfXors': WHATEVER THE INPUT: true; the input reads as it did. -/
def prfXorsSpec : ChangeSpec := { name := "prfXors", fn := fun _ => fun
  | [d1, d2] => { results := [.lit (.bool true)], args := [d1, d2] }
  | _ => none }
def prfXorsRow : OpenClaim := { program := "ytapkhafgfbhkkaadoor", sum := "07d548d3638d2799e18f34cb4e02c9f91184a677298d2aa61609398b98458978", func := "portreeve/portreevelaw05.PrfXors", spec := "prfXors", named := ["portreeve/sha.first", "portreeve/sha.rounds"], apart := false, laid := [("portreeve/sha.first", laid_portreeve_sha_first), ("portreeve/sha.rounds", laid_portreeve_sha_rounds)] }
def PrfXorsSaid : Prop := prfXorsRow.holds Tryd.pinned (OpenSpec.ofChange prfXorsSpec)

/-- ITS FALSE NEIGHBOUR: 'it returns false'. Refute it at one input. -/
def prfXorsWrong : ChangeSpec := { name := "prfXors", fn := fun _ => fun
  | [d1, d2] => { results := [.lit (.bool false)], args := [d1, d2] }
  | _ => none }
def PrfXorsWrongFalsely : Prop := prfXorsRow.holds Tryd.pinned (OpenSpec.ofChange prfXorsWrong)

/-- 'portreevelaw05.PrfRands': WHATEVER THE INPUT: true; the input reads as it did. -/
def prfRandsSpec : ChangeSpec := { name := "prfRands", fn := fun _ => fun
  | [d1, d2, d3, d4] => { results := [.lit (.bool true)], args := [d1, d2, d3, d4] }
  | _ => none }
def prfRandsRow : OpenClaim := { program := "ytapkhafgfbhkkaadoor", sum := "07d548d3638d2799e18f34cb4e02c9f91184a677298d2aa61609398b98458978", func := "portreeve/portreevelaw05.PrfRands", spec := "prfRands", unfollowed := true, recurses := true, named := ["portreeve/sha.first", "portreeve/sha.rounds"], apart := false, laid := [("portreeve/sha.first", laid_portreeve_sha_first), ("portreeve/sha.rounds", laid_portreeve_sha_rounds)] }
def PrfRandsSaid : Prop := prfRandsRow.holds Tryd.pinned (OpenSpec.ofChange prfRandsSpec)

/-- ITS FALSE NEIGHBOUR: 'it returns false'. Refute it at one input. -/
def prfRandsWrong : ChangeSpec := { name := "prfRands", fn := fun _ => fun
  | [d1, d2, d3, d4] => { results := [.lit (.bool false)], args := [d1, d2, d3, d4] }
  | _ => none }
def PrfRandsWrongFalsely : Prop := prfRandsRow.holds Tryd.pinned (OpenSpec.ofChange prfRandsWrong)

/-- 'portreevelaw06.WotsChains': WHATEVER THE INPUT: true; the input reads as it did. -/
def wotsChainsSpec : ChangeSpec := { name := "wotsChains", fn := fun _ => fun
  | [d1, d2, d3, d4, d5, d6] => { results := [.lit (.bool true)], args := [d1, d2, d3, d4, d5, d6] }
  | _ => none }
def wotsChainsRow : OpenClaim := { program := "ytapkhafgfbhkkaadoor", sum := "07d548d3638d2799e18f34cb4e02c9f91184a677298d2aa61609398b98458978", func := "portreeve/portreevelaw06.WotsChains", spec := "wotsChains", unfollowed := true, recurses := true, named := ["portreeve/sha.first", "portreeve/sha.rounds"], apart := false, laid := [("portreeve/sha.first", laid_portreeve_sha_first), ("portreeve/sha.rounds", laid_portreeve_sha_rounds)] }
def WotsChainsSaid : Prop := wotsChainsRow.holds Tryd.pinned (OpenSpec.ofChange wotsChainsSpec)

/-- ITS FALSE NEIGHBOUR: 'it returns false'. Refute it at one input. -/
def wotsChainsWrong : ChangeSpec := { name := "wotsChains", fn := fun _ => fun
  | [d1, d2, d3, d4, d5, d6] => { results := [.lit (.bool false)], args := [d1, d2, d3, d4, d5, d6] }
  | _ => none }
def WotsChainsWrongFalsely : Prop := wotsChainsRow.holds Tryd.pinned (OpenSpec.ofChange wotsChainsWrong)

/-- 'portreevelaw06.WotsSteps': WHATEVER THE INPUT: true; the input reads as it did. -/
def wotsStepsSpec : ChangeSpec := { name := "wotsSteps", fn := fun _ => fun
  | [d1, d2, d3, d4, d5, d6] => { results := [.lit (.bool true)], args := [d1, d2, d3, d4, d5, d6] }
  | _ => none }
def wotsStepsRow : OpenClaim := { program := "ytapkhafgfbhkkaadoor", sum := "07d548d3638d2799e18f34cb4e02c9f91184a677298d2aa61609398b98458978", func := "portreeve/portreevelaw06.WotsSteps", spec := "wotsSteps", unfollowed := true, recurses := true, named := ["portreeve/sha.first", "portreeve/sha.rounds"], apart := false, laid := [("portreeve/sha.first", laid_portreeve_sha_first), ("portreeve/sha.rounds", laid_portreeve_sha_rounds)] }
def WotsStepsSaid : Prop := wotsStepsRow.holds Tryd.pinned (OpenSpec.ofChange wotsStepsSpec)

/-- ITS FALSE NEIGHBOUR: 'it returns false'. Refute it at one input. -/
def wotsStepsWrong : ChangeSpec := { name := "wotsSteps", fn := fun _ => fun
  | [d1, d2, d3, d4, d5, d6] => { results := [.lit (.bool false)], args := [d1, d2, d3, d4, d5, d6] }
  | _ => none }
def WotsStepsWrongFalsely : Prop := wotsStepsRow.holds Tryd.pinned (OpenSpec.ofChange wotsStepsWrong)

/-- 'portreevelaw06.WotsPublic': WHATEVER THE INPUT: true; the input reads as it did. -/
def wotsPublicSpec : ChangeSpec := { name := "wotsPublic", fn := fun _ => fun
  | [d1, d2, d3, d4] => { results := [.lit (.bool true)], args := [d1, d2, d3, d4] }
  | _ => none }
def wotsPublicRow : OpenClaim := { program := "ytapkhafgfbhkkaadoor", sum := "07d548d3638d2799e18f34cb4e02c9f91184a677298d2aa61609398b98458978", func := "portreeve/portreevelaw06.WotsPublic", spec := "wotsPublic", unfollowed := true, recurses := true, named := ["portreeve/sha.first", "portreeve/sha.rounds"], apart := false, laid := [("portreeve/sha.first", laid_portreeve_sha_first), ("portreeve/sha.rounds", laid_portreeve_sha_rounds)] }
def WotsPublicSaid : Prop := wotsPublicRow.holds Tryd.pinned (OpenSpec.ofChange wotsPublicSpec)

/-- ITS FALSE NEIGHBOUR: 'it returns false'. Refute it at one input. -/
def wotsPublicWrong : ChangeSpec := { name := "wotsPublic", fn := fun _ => fun
  | [d1, d2, d3, d4] => { results := [.lit (.bool false)], args := [d1, d2, d3, d4] }
  | _ => none }
def WotsPublicWrongFalsely : Prop := wotsPublicRow.holds Tryd.pinned (OpenSpec.ofChange wotsPublicWrong)

/-- 'portreevelaw06.WotsKeys': WHATEVER THE INPUT: true; the input reads as it did. -/
def wotsKeysSpec : ChangeSpec := { name := "wotsKeys", fn := fun _ => fun
  | [d1, d2, d3, d4] => { results := [.lit (.bool true)], args := [d1, d2, d3, d4] }
  | _ => none }
def wotsKeysRow : OpenClaim := { program := "ytapkhafgfbhkkaadoor", sum := "07d548d3638d2799e18f34cb4e02c9f91184a677298d2aa61609398b98458978", func := "portreeve/portreevelaw06.WotsKeys", spec := "wotsKeys", unfollowed := true, recurses := true, named := ["portreeve/sha.first", "portreeve/sha.rounds"], apart := false, laid := [("portreeve/sha.first", laid_portreeve_sha_first), ("portreeve/sha.rounds", laid_portreeve_sha_rounds)] }
def WotsKeysSaid : Prop := wotsKeysRow.holds Tryd.pinned (OpenSpec.ofChange wotsKeysSpec)

/-- ITS FALSE NEIGHBOUR: 'it returns false'. Refute it at one input. -/
def wotsKeysWrong : ChangeSpec := { name := "wotsKeys", fn := fun _ => fun
  | [d1, d2, d3, d4] => { results := [.lit (.bool false)], args := [d1, d2, d3, d4] }
  | _ => none }
def WotsKeysWrongFalsely : Prop := wotsKeysRow.holds Tryd.pinned (OpenSpec.ofChange wotsKeysWrong)

/-- 'portreevelaw06.WotsSigns': WHATEVER THE INPUT: true; the input reads as it did. -/
def wotsSignsSpec : ChangeSpec := { name := "wotsSigns", fn := fun _ => fun
  | [d1, d2, d3, d4] => { results := [.lit (.bool true)], args := [d1, d2, d3, d4] }
  | _ => none }
def wotsSignsRow : OpenClaim := { program := "ytapkhafgfbhkkaadoor", sum := "07d548d3638d2799e18f34cb4e02c9f91184a677298d2aa61609398b98458978", func := "portreeve/portreevelaw06.WotsSigns", spec := "wotsSigns", unfollowed := true, recurses := true, named := ["portreeve/sha.first", "portreeve/sha.rounds"], apart := false, laid := [("portreeve/sha.first", laid_portreeve_sha_first), ("portreeve/sha.rounds", laid_portreeve_sha_rounds)] }
def WotsSignsSaid : Prop := wotsSignsRow.holds Tryd.pinned (OpenSpec.ofChange wotsSignsSpec)

/-- ITS FALSE NEIGHBOUR: 'it returns false'. Refute it at one input. -/
def wotsSignsWrong : ChangeSpec := { name := "wotsSigns", fn := fun _ => fun
  | [d1, d2, d3, d4] => { results := [.lit (.bool false)], args := [d1, d2, d3, d4] }
  | _ => none }
def WotsSignsWrongFalsely : Prop := wotsSignsRow.holds Tryd.pinned (OpenSpec.ofChange wotsSignsWrong)

/- THE SECOND FORM. 'bulk': how many values and letters a reading holds, each counted each time it is reached (what is shared counts as often as it is met; a slice's spare places count too). A statement '..UptoSaid' is the law's where the arguments, and the package variables that the reading takes, are together of bulk at most 1048576: NARROWER than '..Said'. Prove '..Said' where nothing that the law and all that it calls make is longer than what came in: it says more and counts as full. Else prove '..UptoSaid'. A law counts once. -/
mutual
def uptoBulk {H : Type} : DataW H → Nat
  | .lit (.string bytes) => bytes.length + 1
  | .lit _ => 1
  | .nil => 1
  | .ptr d => uptoBulk d + 1
  | .slice elems spare => uptoBulkAll elems + uptoBulkAll spare + 1
  | .agg parts => uptoBulkAll parts + 1
  | .iface _ d => uptoBulk d + 1
  | .map entries => uptoBulkEntries entries + 1
  | .held _ => 1
def uptoBulkAll {H : Type} : List (DataW H) → Nat
  | [] => 0
  | d :: r => uptoBulk d + uptoBulkAll r
def uptoBulkEntries {H : Type} : List (Lit × DataW H) → Nat
  | [] => 0
  | x :: r => uptoBulkEntry x + uptoBulkEntries r
def uptoBulkEntry {H : Type} : Lit × DataW H → Nat
  | (.string bytes, d) => bytes.length + uptoBulk d + 1
  | (_, d) => uptoBulk d + 1
 end
def uptoSmall : (H : Type) → List (DataW H) → Bool := fun _ ds => decide (uptoBulkAll ds ≤ 1048576)
def OpenSpec.upto (s : _root_.Go.ChangeSpec) : _root_.Go.OpenSpec := { _root_.Go.OpenSpec.ofChange s with cond := some uptoSmall }

/-- 'portreevelaw05.PrfKeyed', WHERE WHAT IT READS IS OF BULK AT MOST 1048576: true; the input reads as it did. -/
def prfKeyedUptoRow : OpenClaim := { program := "ytapkhafgfbhkkaadoor", sum := "07d548d3638d2799e18f34cb4e02c9f91184a677298d2aa61609398b98458978", func := "portreeve/portreevelaw05.PrfKeyed", spec := "prfKeyed", named := ["portreeve/sha.first", "portreeve/sha.rounds"], apart := false, laid := [("portreeve/sha.first", laid_portreeve_sha_first), ("portreeve/sha.rounds", laid_portreeve_sha_rounds)], narrowed := true }
def PrfKeyedUptoSaid : Prop := prfKeyedUptoRow.holds Tryd.pinned (OpenSpec.upto prfKeyedSpec)

/-- 'portreevelaw05.PrfNodes', WHERE WHAT IT READS IS OF BULK AT MOST 1048576: true; the input reads as it did. -/
def prfNodesUptoRow : OpenClaim := { program := "ytapkhafgfbhkkaadoor", sum := "07d548d3638d2799e18f34cb4e02c9f91184a677298d2aa61609398b98458978", func := "portreeve/portreevelaw05.PrfNodes", spec := "prfNodes", named := ["portreeve/sha.first", "portreeve/sha.rounds"], apart := false, laid := [("portreeve/sha.first", laid_portreeve_sha_first), ("portreeve/sha.rounds", laid_portreeve_sha_rounds)], narrowed := true }
def PrfNodesUptoSaid : Prop := prfNodesUptoRow.holds Tryd.pinned (OpenSpec.upto prfNodesSpec)

/-- 'portreevelaw05.PrfMsgs', WHERE WHAT IT READS IS OF BULK AT MOST 1048576: true; the input reads as it did. -/
def prfMsgsUptoRow : OpenClaim := { program := "ytapkhafgfbhkkaadoor", sum := "07d548d3638d2799e18f34cb4e02c9f91184a677298d2aa61609398b98458978", func := "portreeve/portreevelaw05.PrfMsgs", spec := "prfMsgs", named := ["portreeve/sha.first", "portreeve/sha.rounds"], apart := false, laid := [("portreeve/sha.first", laid_portreeve_sha_first), ("portreeve/sha.rounds", laid_portreeve_sha_rounds)], narrowed := true }
def PrfMsgsUptoSaid : Prop := prfMsgsUptoRow.holds Tryd.pinned (OpenSpec.upto prfMsgsSpec)

/-- 'portreevelaw05.PrfXors', WHERE WHAT IT READS IS OF BULK AT MOST 1048576: true; the input reads as it did. -/
def prfXorsUptoRow : OpenClaim := { program := "ytapkhafgfbhkkaadoor", sum := "07d548d3638d2799e18f34cb4e02c9f91184a677298d2aa61609398b98458978", func := "portreeve/portreevelaw05.PrfXors", spec := "prfXors", named := ["portreeve/sha.first", "portreeve/sha.rounds"], apart := false, laid := [("portreeve/sha.first", laid_portreeve_sha_first), ("portreeve/sha.rounds", laid_portreeve_sha_rounds)], narrowed := true }
def PrfXorsUptoSaid : Prop := prfXorsUptoRow.holds Tryd.pinned (OpenSpec.upto prfXorsSpec)

/-- 'portreevelaw05.PrfRands', WHERE WHAT IT READS IS OF BULK AT MOST 1048576: true; the input reads as it did. -/
def prfRandsUptoRow : OpenClaim := { program := "ytapkhafgfbhkkaadoor", sum := "07d548d3638d2799e18f34cb4e02c9f91184a677298d2aa61609398b98458978", func := "portreeve/portreevelaw05.PrfRands", spec := "prfRands", unfollowed := true, recurses := true, named := ["portreeve/sha.first", "portreeve/sha.rounds"], apart := false, laid := [("portreeve/sha.first", laid_portreeve_sha_first), ("portreeve/sha.rounds", laid_portreeve_sha_rounds)], narrowed := true }
def PrfRandsUptoSaid : Prop := prfRandsUptoRow.holds Tryd.pinned (OpenSpec.upto prfRandsSpec)

/-- 'portreevelaw06.WotsChains', WHERE WHAT IT READS IS OF BULK AT MOST 1048576: true; the input reads as it did. -/
def wotsChainsUptoRow : OpenClaim := { program := "ytapkhafgfbhkkaadoor", sum := "07d548d3638d2799e18f34cb4e02c9f91184a677298d2aa61609398b98458978", func := "portreeve/portreevelaw06.WotsChains", spec := "wotsChains", unfollowed := true, recurses := true, named := ["portreeve/sha.first", "portreeve/sha.rounds"], apart := false, laid := [("portreeve/sha.first", laid_portreeve_sha_first), ("portreeve/sha.rounds", laid_portreeve_sha_rounds)], narrowed := true }
def WotsChainsUptoSaid : Prop := wotsChainsUptoRow.holds Tryd.pinned (OpenSpec.upto wotsChainsSpec)

/-- 'portreevelaw06.WotsSteps', WHERE WHAT IT READS IS OF BULK AT MOST 1048576: true; the input reads as it did. -/
def wotsStepsUptoRow : OpenClaim := { program := "ytapkhafgfbhkkaadoor", sum := "07d548d3638d2799e18f34cb4e02c9f91184a677298d2aa61609398b98458978", func := "portreeve/portreevelaw06.WotsSteps", spec := "wotsSteps", unfollowed := true, recurses := true, named := ["portreeve/sha.first", "portreeve/sha.rounds"], apart := false, laid := [("portreeve/sha.first", laid_portreeve_sha_first), ("portreeve/sha.rounds", laid_portreeve_sha_rounds)], narrowed := true }
def WotsStepsUptoSaid : Prop := wotsStepsUptoRow.holds Tryd.pinned (OpenSpec.upto wotsStepsSpec)

/-- 'portreevelaw06.WotsPublic', WHERE WHAT IT READS IS OF BULK AT MOST 1048576: true; the input reads as it did. -/
def wotsPublicUptoRow : OpenClaim := { program := "ytapkhafgfbhkkaadoor", sum := "07d548d3638d2799e18f34cb4e02c9f91184a677298d2aa61609398b98458978", func := "portreeve/portreevelaw06.WotsPublic", spec := "wotsPublic", unfollowed := true, recurses := true, named := ["portreeve/sha.first", "portreeve/sha.rounds"], apart := false, laid := [("portreeve/sha.first", laid_portreeve_sha_first), ("portreeve/sha.rounds", laid_portreeve_sha_rounds)], narrowed := true }
def WotsPublicUptoSaid : Prop := wotsPublicUptoRow.holds Tryd.pinned (OpenSpec.upto wotsPublicSpec)

/-- 'portreevelaw06.WotsKeys', WHERE WHAT IT READS IS OF BULK AT MOST 1048576: true; the input reads as it did. -/
def wotsKeysUptoRow : OpenClaim := { program := "ytapkhafgfbhkkaadoor", sum := "07d548d3638d2799e18f34cb4e02c9f91184a677298d2aa61609398b98458978", func := "portreeve/portreevelaw06.WotsKeys", spec := "wotsKeys", unfollowed := true, recurses := true, named := ["portreeve/sha.first", "portreeve/sha.rounds"], apart := false, laid := [("portreeve/sha.first", laid_portreeve_sha_first), ("portreeve/sha.rounds", laid_portreeve_sha_rounds)], narrowed := true }
def WotsKeysUptoSaid : Prop := wotsKeysUptoRow.holds Tryd.pinned (OpenSpec.upto wotsKeysSpec)

/-- 'portreevelaw06.WotsSigns', WHERE WHAT IT READS IS OF BULK AT MOST 1048576: true; the input reads as it did. -/
def wotsSignsUptoRow : OpenClaim := { program := "ytapkhafgfbhkkaadoor", sum := "07d548d3638d2799e18f34cb4e02c9f91184a677298d2aa61609398b98458978", func := "portreeve/portreevelaw06.WotsSigns", spec := "wotsSigns", unfollowed := true, recurses := true, named := ["portreeve/sha.first", "portreeve/sha.rounds"], apart := false, laid := [("portreeve/sha.first", laid_portreeve_sha_first), ("portreeve/sha.rounds", laid_portreeve_sha_rounds)], narrowed := true }
def WotsSignsUptoSaid : Prop := wotsSignsUptoRow.holds Tryd.pinned (OpenSpec.upto wotsSignsSpec)

end Rows
end Go.Proofs.YtapkhafgfbhkkaaDoor
