/-
  No cell of these rows narrows 'for every input' (looked for: loops, veiled, ifaces, maps, wideKeys, modest, calm, conditions, laid).
  DERIVED. THE GIVEN ROWS OF THIS SEAT. 12 by the template 'for every input the law returns true; each argument reads behind the call as it read before'; 0 by the template 'total and deterministic' (their statements: YtnjfghlgknnhmaaTotals.lean).
  GIVEN WITH THE SEED: the statements are not yours to turn. If you find one false, say at which input.
  Laid BY PROGRAM, IN A SANDBOX (cutbox-rows.mjs): the forced cells as the released guide's own fill.sh prints them over the translation b1d08eb5c735c7ca… (all of the seat's roots in one cut). By AI agents, Wed Nov 11 2026. No macro, syntax, notation, axiom, sorry.
-/
import Derived.Test.YtnjfghlgknnhmaaChecked
import GoSem.Claim
import GoSem.ClaimJoined
import GoSem.ClaimMapViews
import Derived.JoinedTies
import Derived.KernelRfl
namespace Go.Proofs.Ytnjfghlgknnhmaa
/- THE CELL 'sum', in the pinned program and in every row, IS THE sha256 OF THE DUMP (.gsa) THAT YtnjfghlgknnhmaaProg.lean LOADS. Nothing in Lean hashes anything: it is a label: what it is worth is what the hold of that sum in a sandbox is worth. -/
noncomputable def Try.pinned : Pinned := { name := "ytnjfghlgknnhmaa", sum := "b1d08eb5c735c7ca084c84fcdc2b5677fb0a0e867db3034d4a4c053784227019", checked := Try.checked }
namespace Rows
def none {H : Type} : Left H := { results := [], args := [] }

/-- 'portreevelaw08.XmssKinds': WHATEVER THE INPUT: true; the input reads as it did. -/
def xmssKindsSpec : ChangeSpec := { name := "xmssKinds", fn := fun _ => fun
  | [d] => { results := [.lit (.bool true)], args := [d] }
  | _ => none }
def xmssKindsRow : OpenClaim := { program := "ytnjfghlgknnhmaa", sum := "b1d08eb5c735c7ca084c84fcdc2b5677fb0a0e867db3034d4a4c053784227019", func := "portreeve/portreevelaw08.XmssKinds", spec := "xmssKinds", unfollowed := true, recurses := true, apart := false }
def XmssKindsSaid : Prop := xmssKindsRow.holds Try.pinned (OpenSpec.ofChange xmssKindsSpec)

/-- ITS FALSE NEIGHBOUR: 'it returns false'. Refute it at one input. -/
def xmssKindsWrong : ChangeSpec := { name := "xmssKinds", fn := fun _ => fun
  | [d] => { results := [.lit (.bool false)], args := [d] }
  | _ => none }
def XmssKindsWrongFalsely : Prop := xmssKindsRow.holds Try.pinned (OpenSpec.ofChange xmssKindsWrong)

/-- 'portreevelaw08.XmssSigs': WHATEVER THE INPUT: true; the input reads as it did. -/
def xmssSigsSpec : ChangeSpec := { name := "xmssSigs", fn := fun _ => fun
  | [d1, d2] => { results := [.lit (.bool true)], args := [d1, d2] }
  | _ => none }
def xmssSigsRow : OpenClaim := { program := "ytnjfghlgknnhmaa", sum := "b1d08eb5c735c7ca084c84fcdc2b5677fb0a0e867db3034d4a4c053784227019", func := "portreeve/portreevelaw08.XmssSigs", spec := "xmssSigs", unfollowed := true, recurses := true, apart := false }
def XmssSigsSaid : Prop := xmssSigsRow.holds Try.pinned (OpenSpec.ofChange xmssSigsSpec)

/-- ITS FALSE NEIGHBOUR: 'it returns false'. Refute it at one input. -/
def xmssSigsWrong : ChangeSpec := { name := "xmssSigs", fn := fun _ => fun
  | [d1, d2] => { results := [.lit (.bool false)], args := [d1, d2] }
  | _ => none }
def XmssSigsWrongFalsely : Prop := xmssSigsRow.holds Try.pinned (OpenSpec.ofChange xmssSigsWrong)

/-- 'portreevelaw08.XmssKeys': WHATEVER THE INPUT: true; the input reads as it did. -/
def xmssKeysSpec : ChangeSpec := { name := "xmssKeys", fn := fun _ => fun
  | [d1, d2] => { results := [.lit (.bool true)], args := [d1, d2] }
  | _ => none }
def xmssKeysRow : OpenClaim := { program := "ytnjfghlgknnhmaa", sum := "b1d08eb5c735c7ca084c84fcdc2b5677fb0a0e867db3034d4a4c053784227019", func := "portreeve/portreevelaw08.XmssKeys", spec := "xmssKeys", unfollowed := true, recurses := true, apart := false }
def XmssKeysSaid : Prop := xmssKeysRow.holds Try.pinned (OpenSpec.ofChange xmssKeysSpec)

/-- ITS FALSE NEIGHBOUR: 'it returns false'. Refute it at one input. -/
def xmssKeysWrong : ChangeSpec := { name := "xmssKeys", fn := fun _ => fun
  | [d1, d2] => { results := [.lit (.bool false)], args := [d1, d2] }
  | _ => none }
def XmssKeysWrongFalsely : Prop := xmssKeysRow.holds Try.pinned (OpenSpec.ofChange xmssKeysWrong)

/-- 'portreevelaw08.XmssPuts': WHATEVER THE INPUT: true; the input reads as it did. -/
def xmssPutsSpec : ChangeSpec := { name := "xmssPuts", fn := fun _ => fun
  | [d1, d2] => { results := [.lit (.bool true)], args := [d1, d2] }
  | _ => none }
def xmssPutsRow : OpenClaim := { program := "ytnjfghlgknnhmaa", sum := "b1d08eb5c735c7ca084c84fcdc2b5677fb0a0e867db3034d4a4c053784227019", func := "portreeve/portreevelaw08.XmssPuts", spec := "xmssPuts", unfollowed := true, recurses := true, apart := false }
def XmssPutsSaid : Prop := xmssPutsRow.holds Try.pinned (OpenSpec.ofChange xmssPutsSpec)

/-- ITS FALSE NEIGHBOUR: 'it returns false'. Refute it at one input. -/
def xmssPutsWrong : ChangeSpec := { name := "xmssPuts", fn := fun _ => fun
  | [d1, d2] => { results := [.lit (.bool false)], args := [d1, d2] }
  | _ => none }
def XmssPutsWrongFalsely : Prop := xmssPutsRow.holds Try.pinned (OpenSpec.ofChange xmssPutsWrong)

/-- 'portreevelaw15.ImgHeaders': WHATEVER THE INPUT: true; the input reads as it did. -/
def imgHeadersSpec : ChangeSpec := { name := "imgHeaders", fn := fun _ => fun
  | [d1, d2] => { results := [.lit (.bool true)], args := [d1, d2] }
  | _ => none }
def imgHeadersRow : OpenClaim := { program := "ytnjfghlgknnhmaa", sum := "b1d08eb5c735c7ca084c84fcdc2b5677fb0a0e867db3034d4a4c053784227019", func := "portreeve/portreevelaw15.ImgHeaders", spec := "imgHeaders", apart := false }
def ImgHeadersSaid : Prop := imgHeadersRow.holds Try.pinned (OpenSpec.ofChange imgHeadersSpec)

/-- ITS FALSE NEIGHBOUR: 'it returns false'. Refute it at one input. -/
def imgHeadersWrong : ChangeSpec := { name := "imgHeaders", fn := fun _ => fun
  | [d1, d2] => { results := [.lit (.bool false)], args := [d1, d2] }
  | _ => none }
def ImgHeadersWrongFalsely : Prop := imgHeadersRow.holds Try.pinned (OpenSpec.ofChange imgHeadersWrong)

/-- 'portreevelaw15.ImgBack': WHATEVER THE INPUT: true; the input reads as it did. -/
def imgBackSpec : ChangeSpec := { name := "imgBack", fn := fun _ => fun
  | [d1, d2] => { results := [.lit (.bool true)], args := [d1, d2] }
  | _ => none }
def imgBackRow : OpenClaim := { program := "ytnjfghlgknnhmaa", sum := "b1d08eb5c735c7ca084c84fcdc2b5677fb0a0e867db3034d4a4c053784227019", func := "portreeve/portreevelaw15.ImgBack", spec := "imgBack", apart := false }
def ImgBackSaid : Prop := imgBackRow.holds Try.pinned (OpenSpec.ofChange imgBackSpec)

/-- ITS FALSE NEIGHBOUR: 'it returns false'. Refute it at one input. -/
def imgBackWrong : ChangeSpec := { name := "imgBack", fn := fun _ => fun
  | [d1, d2] => { results := [.lit (.bool false)], args := [d1, d2] }
  | _ => none }
def ImgBackWrongFalsely : Prop := imgBackRow.holds Try.pinned (OpenSpec.ofChange imgBackWrong)

/-- 'portreevelaw15.ImgSplits': WHATEVER THE INPUT: true; the input reads as it did. -/
def imgSplitsSpec : ChangeSpec := { name := "imgSplits", fn := fun _ => fun
  | [d1, d2] => { results := [.lit (.bool true)], args := [d1, d2] }
  | _ => none }
def imgSplitsRow : OpenClaim := { program := "ytnjfghlgknnhmaa", sum := "b1d08eb5c735c7ca084c84fcdc2b5677fb0a0e867db3034d4a4c053784227019", func := "portreeve/portreevelaw15.ImgSplits", spec := "imgSplits", unfollowed := true, recurses := true, apart := false }
def ImgSplitsSaid : Prop := imgSplitsRow.holds Try.pinned (OpenSpec.ofChange imgSplitsSpec)

/-- ITS FALSE NEIGHBOUR: 'it returns false'. Refute it at one input. -/
def imgSplitsWrong : ChangeSpec := { name := "imgSplits", fn := fun _ => fun
  | [d1, d2] => { results := [.lit (.bool false)], args := [d1, d2] }
  | _ => none }
def ImgSplitsWrongFalsely : Prop := imgSplitsRow.holds Try.pinned (OpenSpec.ofChange imgSplitsWrong)

/-- 'portreevelaw15.ImgPacks': WHATEVER THE INPUT: true; the input reads as it did. -/
def imgPacksSpec : ChangeSpec := { name := "imgPacks", fn := fun _ => fun
  | [d1, d2, d3, d4] => { results := [.lit (.bool true)], args := [d1, d2, d3, d4] }
  | _ => none }
def imgPacksRow : OpenClaim := { program := "ytnjfghlgknnhmaa", sum := "b1d08eb5c735c7ca084c84fcdc2b5677fb0a0e867db3034d4a4c053784227019", func := "portreeve/portreevelaw15.ImgPacks", spec := "imgPacks", unfollowed := true, recurses := true, apart := false }
def ImgPacksSaid : Prop := imgPacksRow.holds Try.pinned (OpenSpec.ofChange imgPacksSpec)

/-- ITS FALSE NEIGHBOUR: 'it returns false'. Refute it at one input. -/
def imgPacksWrong : ChangeSpec := { name := "imgPacks", fn := fun _ => fun
  | [d1, d2, d3, d4] => { results := [.lit (.bool false)], args := [d1, d2, d3, d4] }
  | _ => none }
def ImgPacksWrongFalsely : Prop := imgPacksRow.holds Try.pinned (OpenSpec.ofChange imgPacksWrong)

/-- 'portreevelaw33.ReportLines': WHATEVER THE INPUT: true; the input reads as it did. -/
def reportLinesSpec : ChangeSpec := { name := "reportLines", fn := fun _ => fun
  | [d] => { results := [.lit (.bool true)], args := [d] }
  | _ => none }
def reportLinesRow : OpenClaim := { program := "ytnjfghlgknnhmaa", sum := "b1d08eb5c735c7ca084c84fcdc2b5677fb0a0e867db3034d4a4c053784227019", func := "portreeve/portreevelaw33.ReportLines", spec := "reportLines", apart := false }
def ReportLinesSaid : Prop := reportLinesRow.holds Try.pinned (OpenSpec.ofChange reportLinesSpec)

/-- ITS FALSE NEIGHBOUR: 'it returns false'. Refute it at one input. -/
def reportLinesWrong : ChangeSpec := { name := "reportLines", fn := fun _ => fun
  | [d] => { results := [.lit (.bool false)], args := [d] }
  | _ => none }
def ReportLinesWrongFalsely : Prop := reportLinesRow.holds Try.pinned (OpenSpec.ofChange reportLinesWrong)

/-- 'portreevelaw33.ReportNumbers': WHATEVER THE INPUT: true; the input reads as it did. -/
def reportNumbersSpec : ChangeSpec := { name := "reportNumbers", fn := fun _ => fun
  | [d1, d2] => { results := [.lit (.bool true)], args := [d1, d2] }
  | _ => none }
def reportNumbersRow : OpenClaim := { program := "ytnjfghlgknnhmaa", sum := "b1d08eb5c735c7ca084c84fcdc2b5677fb0a0e867db3034d4a4c053784227019", func := "portreeve/portreevelaw33.ReportNumbers", spec := "reportNumbers", apart := false }
def ReportNumbersSaid : Prop := reportNumbersRow.holds Try.pinned (OpenSpec.ofChange reportNumbersSpec)

/-- ITS FALSE NEIGHBOUR: 'it returns false'. Refute it at one input. -/
def reportNumbersWrong : ChangeSpec := { name := "reportNumbers", fn := fun _ => fun
  | [d1, d2] => { results := [.lit (.bool false)], args := [d1, d2] }
  | _ => none }
def ReportNumbersWrongFalsely : Prop := reportNumbersRow.holds Try.pinned (OpenSpec.ofChange reportNumbersWrong)

/-- 'portreevelaw33.ReportNames': WHATEVER THE INPUT: true; the input reads as it did. -/
def reportNamesSpec : ChangeSpec := { name := "reportNames", fn := fun _ => fun
  | [d1, d2] => { results := [.lit (.bool true)], args := [d1, d2] }
  | _ => none }
def reportNamesRow : OpenClaim := { program := "ytnjfghlgknnhmaa", sum := "b1d08eb5c735c7ca084c84fcdc2b5677fb0a0e867db3034d4a4c053784227019", func := "portreeve/portreevelaw33.ReportNames", spec := "reportNames", apart := false }
def ReportNamesSaid : Prop := reportNamesRow.holds Try.pinned (OpenSpec.ofChange reportNamesSpec)

/-- ITS FALSE NEIGHBOUR: 'it returns false'. Refute it at one input. -/
def reportNamesWrong : ChangeSpec := { name := "reportNames", fn := fun _ => fun
  | [d1, d2] => { results := [.lit (.bool false)], args := [d1, d2] }
  | _ => none }
def ReportNamesWrongFalsely : Prop := reportNamesRow.holds Try.pinned (OpenSpec.ofChange reportNamesWrong)

/-- 'portreevelaw33.ReportApart': WHATEVER THE INPUT: true; the input reads as it did. -/
def reportApartSpec : ChangeSpec := { name := "reportApart", fn := fun _ => fun
  | [d1, d2] => { results := [.lit (.bool true)], args := [d1, d2] }
  | _ => none }
def reportApartRow : OpenClaim := { program := "ytnjfghlgknnhmaa", sum := "b1d08eb5c735c7ca084c84fcdc2b5677fb0a0e867db3034d4a4c053784227019", func := "portreeve/portreevelaw33.ReportApart", spec := "reportApart", apart := false }
def ReportApartSaid : Prop := reportApartRow.holds Try.pinned (OpenSpec.ofChange reportApartSpec)

/-- ITS FALSE NEIGHBOUR: 'it returns false'. Refute it at one input. -/
def reportApartWrong : ChangeSpec := { name := "reportApart", fn := fun _ => fun
  | [d1, d2] => { results := [.lit (.bool false)], args := [d1, d2] }
  | _ => none }
def ReportApartWrongFalsely : Prop := reportApartRow.holds Try.pinned (OpenSpec.ofChange reportApartWrong)

/- THE SECOND FORM. 'bulk': how many values and letters a reading holds, each counted each time it is reached (what is shared counts as often as it is met; a slice's spare places count too). A statement '..UptoSaid' is the law's where the arguments, and the package variables that the reading takes, are together of bulk at most 1048576: NARROWER than '..Said'. Prove '..Said' where nothing that the law and all that it calls make is longer than what came in: it says more and counts as full. Else prove '..UptoSaid'. A law counts once. -/
mutual
def uptoBulk {H : Type} : DataW H → Nat
  | .lit (.string bytes) => bytes.length + 1
  | .lit _ => 1
  | .nil => 1
  | .ptr d => uptoBulk d + 1
  | .slice elems spare => uptoBulkAll elems + uptoBulkAll spare + 1
  | .agg parts => uptoBulkAll parts + 1
  | .iface _ d => uptoBulk d + 1
  | .map entries => uptoBulkEntries entries + 1
  | .held _ => 1
def uptoBulkAll {H : Type} : List (DataW H) → Nat
  | [] => 0
  | d :: r => uptoBulk d + uptoBulkAll r
def uptoBulkEntries {H : Type} : List (Lit × DataW H) → Nat
  | [] => 0
  | x :: r => uptoBulkEntry x + uptoBulkEntries r
def uptoBulkEntry {H : Type} : Lit × DataW H → Nat
  | (.string bytes, d) => bytes.length + uptoBulk d + 1
  | (_, d) => uptoBulk d + 1
 end
def uptoSmall : (H : Type) → List (DataW H) → Bool := fun _ ds => decide (uptoBulkAll ds ≤ 1048576)
def OpenSpec.upto (s : _root_.Go.ChangeSpec) : _root_.Go.OpenSpec := { _root_.Go.OpenSpec.ofChange s with cond := some uptoSmall }

/-- 'portreevelaw08.XmssKinds', WHERE WHAT IT READS IS OF BULK AT MOST 1048576: true; the input reads as it did. -/
def xmssKindsUptoRow : OpenClaim := { program := "ytnjfghlgknnhmaa", sum := "b1d08eb5c735c7ca084c84fcdc2b5677fb0a0e867db3034d4a4c053784227019", func := "portreeve/portreevelaw08.XmssKinds", spec := "xmssKinds", unfollowed := true, recurses := true, apart := false, narrowed := true }
def XmssKindsUptoSaid : Prop := xmssKindsUptoRow.holds Try.pinned (OpenSpec.upto xmssKindsSpec)

/-- 'portreevelaw08.XmssSigs', WHERE WHAT IT READS IS OF BULK AT MOST 1048576: true; the input reads as it did. -/
def xmssSigsUptoRow : OpenClaim := { program := "ytnjfghlgknnhmaa", sum := "b1d08eb5c735c7ca084c84fcdc2b5677fb0a0e867db3034d4a4c053784227019", func := "portreeve/portreevelaw08.XmssSigs", spec := "xmssSigs", unfollowed := true, recurses := true, apart := false, narrowed := true }
def XmssSigsUptoSaid : Prop := xmssSigsUptoRow.holds Try.pinned (OpenSpec.upto xmssSigsSpec)

/-- 'portreevelaw08.XmssKeys', WHERE WHAT IT READS IS OF BULK AT MOST 1048576: true; the input reads as it did. -/
def xmssKeysUptoRow : OpenClaim := { program := "ytnjfghlgknnhmaa", sum := "b1d08eb5c735c7ca084c84fcdc2b5677fb0a0e867db3034d4a4c053784227019", func := "portreeve/portreevelaw08.XmssKeys", spec := "xmssKeys", unfollowed := true, recurses := true, apart := false, narrowed := true }
def XmssKeysUptoSaid : Prop := xmssKeysUptoRow.holds Try.pinned (OpenSpec.upto xmssKeysSpec)

/-- 'portreevelaw08.XmssPuts', WHERE WHAT IT READS IS OF BULK AT MOST 1048576: true; the input reads as it did. -/
def xmssPutsUptoRow : OpenClaim := { program := "ytnjfghlgknnhmaa", sum := "b1d08eb5c735c7ca084c84fcdc2b5677fb0a0e867db3034d4a4c053784227019", func := "portreeve/portreevelaw08.XmssPuts", spec := "xmssPuts", unfollowed := true, recurses := true, apart := false, narrowed := true }
def XmssPutsUptoSaid : Prop := xmssPutsUptoRow.holds Try.pinned (OpenSpec.upto xmssPutsSpec)

/-- 'portreevelaw15.ImgHeaders', WHERE WHAT IT READS IS OF BULK AT MOST 1048576: true; the input reads as it did. -/
def imgHeadersUptoRow : OpenClaim := { program := "ytnjfghlgknnhmaa", sum := "b1d08eb5c735c7ca084c84fcdc2b5677fb0a0e867db3034d4a4c053784227019", func := "portreeve/portreevelaw15.ImgHeaders", spec := "imgHeaders", apart := false, narrowed := true }
def ImgHeadersUptoSaid : Prop := imgHeadersUptoRow.holds Try.pinned (OpenSpec.upto imgHeadersSpec)

/-- 'portreevelaw15.ImgBack', WHERE WHAT IT READS IS OF BULK AT MOST 1048576: true; the input reads as it did. -/
def imgBackUptoRow : OpenClaim := { program := "ytnjfghlgknnhmaa", sum := "b1d08eb5c735c7ca084c84fcdc2b5677fb0a0e867db3034d4a4c053784227019", func := "portreeve/portreevelaw15.ImgBack", spec := "imgBack", apart := false, narrowed := true }
def ImgBackUptoSaid : Prop := imgBackUptoRow.holds Try.pinned (OpenSpec.upto imgBackSpec)

/-- 'portreevelaw15.ImgSplits', WHERE WHAT IT READS IS OF BULK AT MOST 1048576: true; the input reads as it did. -/
def imgSplitsUptoRow : OpenClaim := { program := "ytnjfghlgknnhmaa", sum := "b1d08eb5c735c7ca084c84fcdc2b5677fb0a0e867db3034d4a4c053784227019", func := "portreeve/portreevelaw15.ImgSplits", spec := "imgSplits", unfollowed := true, recurses := true, apart := false, narrowed := true }
def ImgSplitsUptoSaid : Prop := imgSplitsUptoRow.holds Try.pinned (OpenSpec.upto imgSplitsSpec)

/-- 'portreevelaw15.ImgPacks', WHERE WHAT IT READS IS OF BULK AT MOST 1048576: true; the input reads as it did. -/
def imgPacksUptoRow : OpenClaim := { program := "ytnjfghlgknnhmaa", sum := "b1d08eb5c735c7ca084c84fcdc2b5677fb0a0e867db3034d4a4c053784227019", func := "portreeve/portreevelaw15.ImgPacks", spec := "imgPacks", unfollowed := true, recurses := true, apart := false, narrowed := true }
def ImgPacksUptoSaid : Prop := imgPacksUptoRow.holds Try.pinned (OpenSpec.upto imgPacksSpec)

/-- 'portreevelaw33.ReportLines', WHERE WHAT IT READS IS OF BULK AT MOST 1048576: true; the input reads as it did. -/
def reportLinesUptoRow : OpenClaim := { program := "ytnjfghlgknnhmaa", sum := "b1d08eb5c735c7ca084c84fcdc2b5677fb0a0e867db3034d4a4c053784227019", func := "portreeve/portreevelaw33.ReportLines", spec := "reportLines", apart := false, narrowed := true }
def ReportLinesUptoSaid : Prop := reportLinesUptoRow.holds Try.pinned (OpenSpec.upto reportLinesSpec)

/-- 'portreevelaw33.ReportNumbers', WHERE WHAT IT READS IS OF BULK AT MOST 1048576: true; the input reads as it did. -/
def reportNumbersUptoRow : OpenClaim := { program := "ytnjfghlgknnhmaa", sum := "b1d08eb5c735c7ca084c84fcdc2b5677fb0a0e867db3034d4a4c053784227019", func := "portreeve/portreevelaw33.ReportNumbers", spec := "reportNumbers", apart := false, narrowed := true }
def ReportNumbersUptoSaid : Prop := reportNumbersUptoRow.holds Try.pinned (OpenSpec.upto reportNumbersSpec)

/-- 'portreevelaw33.ReportNames', WHERE WHAT IT READS IS OF BULK AT MOST 1048576: true; the input reads as it did. -/
def reportNamesUptoRow : OpenClaim := { program := "ytnjfghlgknnhmaa", sum := "b1d08eb5c735c7ca084c84fcdc2b5677fb0a0e867db3034d4a4c053784227019", func := "portreeve/portreevelaw33.ReportNames", spec := "reportNames", apart := false, narrowed := true }
def ReportNamesUptoSaid : Prop := reportNamesUptoRow.holds Try.pinned (OpenSpec.upto reportNamesSpec)

/-- 'portreevelaw33.ReportApart', WHERE WHAT IT READS IS OF BULK AT MOST 1048576: true; the input reads as it did. -/
def reportApartUptoRow : OpenClaim := { program := "ytnjfghlgknnhmaa", sum := "b1d08eb5c735c7ca084c84fcdc2b5677fb0a0e867db3034d4a4c053784227019", func := "portreeve/portreevelaw33.ReportApart", spec := "reportApart", apart := false, narrowed := true }
def ReportApartUptoSaid : Prop := reportApartUptoRow.holds Try.pinned (OpenSpec.upto reportApartSpec)

end Rows
end Go.Proofs.Ytnjfghlgknnhmaa
