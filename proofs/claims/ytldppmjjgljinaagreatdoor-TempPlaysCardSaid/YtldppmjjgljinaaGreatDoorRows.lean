/-
  NARROWER THAN 'FOR EVERY INPUT', by the rows' own cells (each row's printed sentence says how): TempResumes: laid · DiskWhole: laid · DiskLasts: laid · DiskCopies: laid · DiskPlays: laid · TempOrder: laid · TempPlays: laid · DiskKnown: laid · TempKnown: laid.
  DERIVED. THE GIVEN ROWS OF THIS SEAT. 9 by the template 'for every input the law returns true; each argument reads behind the call as it read before'; 0 by the template 'total and deterministic' (their statements: YtldppmjjgljinaaGreatDoorTotals.lean).
  GIVEN WITH THE SEED: the statements are not yours to turn. If you find one false, say at which input.
  Laid BY PROGRAM, IN A SANDBOX (cutbox-rows.mjs): the forced cells as the released guide's own fill.sh prints them over the translation f6421370777a8714… (all of the seat's roots in one cut). By AI agents, Wed Nov 11 2026. No macro, syntax, notation, axiom, sorry.
-/
import Derived.Test.YtldppmjjgljinaaGreatDoorChecked
import GoSem.PinnedTables
import GoSem.Claim
import GoSem.ClaimJoined
import GoSem.ClaimMapViews
import Derived.JoinedTies
import Derived.KernelRfl
namespace Go.Proofs.YtldppmjjgljinaaGreatDoor
/- THE CELL 'sum', in the pinned program and in every row, IS THE sha256 OF THE DUMP (.gsa) THAT YtldppmjjgljinaaGreatDoorProg.lean LOADS. Nothing in Lean hashes anything: it is a label: what it is worth is what the hold of that sum in a sandbox is worth. -/
noncomputable def Tryz.pinned : Pinned := { name := "ytldppmjjgljinaagreatdoor", sum := "f6421370777a8714bb036b16e0e7cd0be3a12aeb890708034f36b346758a7d19", checked := Tryz.checked }
namespace Rows
def none {H : Type} : Left H := { results := [], args := [] }

/- WHAT THE LISTED PACKAGE-LEVEL VARIABLES READ AS WHEN THE CALL BEGINS. Each datum BY PROGRAM (the guide's laid-datum.mjs) off the statement by which the dump's own 'gosem.cut.vars' lays the variable. In a bare row this is a premise. The card (YtldppmjjgljinaaGreatDoorCards.lean) ties it to the program's text. -/
def laid_unicode_utf8_acceptRanges {H : Type} : DataW H := .agg [.agg [.lit (.int .u8 128), .lit (.int .u8 191)], .agg [.lit (.int .u8 160), .lit (.int .u8 191)], .agg [.lit (.int .u8 128), .lit (.int .u8 159)], .agg [.lit (.int .u8 144), .lit (.int .u8 191)], .agg [.lit (.int .u8 128), .lit (.int .u8 143)], .agg [.lit (.int .u8 0), .lit (.int .u8 0)], .agg [.lit (.int .u8 0), .lit (.int .u8 0)], .agg [.lit (.int .u8 0), .lit (.int .u8 0)], .agg [.lit (.int .u8 0), .lit (.int .u8 0)], .agg [.lit (.int .u8 0), .lit (.int .u8 0)], .agg [.lit (.int .u8 0), .lit (.int .u8 0)], .agg [.lit (.int .u8 0), .lit (.int .u8 0)], .agg [.lit (.int .u8 0), .lit (.int .u8 0)], .agg [.lit (.int .u8 0), .lit (.int .u8 0)], .agg [.lit (.int .u8 0), .lit (.int .u8 0)], .agg [.lit (.int .u8 0), .lit (.int .u8 0)]]
def laid_caravan_sha_first {H : Type} : DataW H := .agg [.lit (.int .u32 1779033703), .lit (.int .u32 3144134277), .lit (.int .u32 1013904242), .lit (.int .u32 2773480762), .lit (.int .u32 1359893119), .lit (.int .u32 2600822924), .lit (.int .u32 528734635), .lit (.int .u32 1541459225)]
def laid_caravan_sha_roots {H : Type} : DataW H := .agg [.lit (.int .u32 1116352408), .lit (.int .u32 1899447441), .lit (.int .u32 3049323471), .lit (.int .u32 3921009573), .lit (.int .u32 961987163), .lit (.int .u32 1508970993), .lit (.int .u32 2453635748), .lit (.int .u32 2870763221), .lit (.int .u32 3624381080), .lit (.int .u32 310598401), .lit (.int .u32 607225278), .lit (.int .u32 1426881987), .lit (.int .u32 1925078388), .lit (.int .u32 2162078206), .lit (.int .u32 2614888103), .lit (.int .u32 3248222580), .lit (.int .u32 3835390401), .lit (.int .u32 4022224774), .lit (.int .u32 264347078), .lit (.int .u32 604807628), .lit (.int .u32 770255983), .lit (.int .u32 1249150122), .lit (.int .u32 1555081692), .lit (.int .u32 1996064986), .lit (.int .u32 2554220882), .lit (.int .u32 2821834349), .lit (.int .u32 2952996808), .lit (.int .u32 3210313671), .lit (.int .u32 3336571891), .lit (.int .u32 3584528711), .lit (.int .u32 113926993), .lit (.int .u32 338241895), .lit (.int .u32 666307205), .lit (.int .u32 773529912), .lit (.int .u32 1294757372), .lit (.int .u32 1396182291), .lit (.int .u32 1695183700), .lit (.int .u32 1986661051), .lit (.int .u32 2177026350), .lit (.int .u32 2456956037), .lit (.int .u32 2730485921), .lit (.int .u32 2820302411), .lit (.int .u32 3259730800), .lit (.int .u32 3345764771), .lit (.int .u32 3516065817), .lit (.int .u32 3600352804), .lit (.int .u32 4094571909), .lit (.int .u32 275423344), .lit (.int .u32 430227734), .lit (.int .u32 506948616), .lit (.int .u32 659060556), .lit (.int .u32 883997877), .lit (.int .u32 958139571), .lit (.int .u32 1322822218), .lit (.int .u32 1537002063), .lit (.int .u32 1747873779), .lit (.int .u32 1955562222), .lit (.int .u32 2024104815), .lit (.int .u32 2227730452), .lit (.int .u32 2361852424), .lit (.int .u32 2428436474), .lit (.int .u32 2756734187), .lit (.int .u32 3204031479), .lit (.int .u32 3329325298)]
/-- One of Go's own tables, pinned by name: the form's constant. -/
def laid_unicode_utf8_first : DataW Unit := Go.Pinned.utf8First

/-- 'caravanlaw23.TempResumes': WHATEVER THE INPUT: true; the input reads as it did. -/
def tempResumesSpec : ChangeSpec := { name := "tempResumes", fn := fun _ => fun
  | [d1, d2] => { results := [.lit (.bool true)], args := [d1, d2] }
  | _ => none }
def tempResumesRow : OpenClaim := { program := "ytldppmjjgljinaagreatdoor", sum := "f6421370777a8714bb036b16e0e7cd0be3a12aeb890708034f36b346758a7d19", func := "caravan/caravanlaw23.TempResumes", spec := "tempResumes", inPlace := ["maps.clone", "internal/bytealg.CountString", "internal/bytealg.IndexByteString", "internal/bytealg.IndexString", "internal/abi.NoEscape", "internal/bytealg.MakeNoZero"], unfollowed := true, recurses := true, named := ["unicode/utf8.first", "unicode/utf8.acceptRanges", "internal/bytealg.MaxLen", "caravan/sha.first", "caravan/sha.roots"], plainKeys := false, apart := false, laid := [("unicode/utf8.acceptRanges", laid_unicode_utf8_acceptRanges), ("caravan/sha.first", laid_caravan_sha_first), ("caravan/sha.roots", laid_caravan_sha_roots), ("unicode/utf8.first", laid_unicode_utf8_first)] }
def TempResumesSaid : Prop := tempResumesRow.holds Tryz.pinned (OpenSpec.ofChange tempResumesSpec)

/-- ITS FALSE NEIGHBOUR: 'it returns false'. Refute it at one input. -/
def tempResumesWrong : ChangeSpec := { name := "tempResumes", fn := fun _ => fun
  | [d1, d2] => { results := [.lit (.bool false)], args := [d1, d2] }
  | _ => none }
def TempResumesWrongFalsely : Prop := tempResumesRow.holds Tryz.pinned (OpenSpec.ofChange tempResumesWrong)

/-- 'caravanlaw09.DiskWhole': WHATEVER THE INPUT: true; the input reads as it did. -/
def diskWholeSpec : ChangeSpec := { name := "diskWhole", fn := fun _ => fun
  | [d] => { results := [.lit (.bool true)], args := [d] }
  | _ => none }
def diskWholeRow : OpenClaim := { program := "ytldppmjjgljinaagreatdoor", sum := "f6421370777a8714bb036b16e0e7cd0be3a12aeb890708034f36b346758a7d19", func := "caravan/caravanlaw09.DiskWhole", spec := "diskWhole", inPlace := ["maps.clone", "internal/bytealg.CountString", "internal/bytealg.IndexByteString", "internal/bytealg.IndexString"], unfollowed := true, recurses := true, named := ["unicode/utf8.first", "unicode/utf8.acceptRanges", "internal/bytealg.MaxLen"], plainKeys := false, apart := false, laid := [("unicode/utf8.acceptRanges", laid_unicode_utf8_acceptRanges), ("unicode/utf8.first", laid_unicode_utf8_first)] }
def DiskWholeSaid : Prop := diskWholeRow.holds Tryz.pinned (OpenSpec.ofChange diskWholeSpec)

/-- ITS FALSE NEIGHBOUR: 'it returns false'. Refute it at one input. -/
def diskWholeWrong : ChangeSpec := { name := "diskWhole", fn := fun _ => fun
  | [d] => { results := [.lit (.bool false)], args := [d] }
  | _ => none }
def DiskWholeWrongFalsely : Prop := diskWholeRow.holds Tryz.pinned (OpenSpec.ofChange diskWholeWrong)

/-- 'caravanlaw09.DiskLasts': WHATEVER THE INPUT: true; the input reads as it did. -/
def diskLastsSpec : ChangeSpec := { name := "diskLasts", fn := fun _ => fun
  | [d1, d2, d3] => { results := [.lit (.bool true)], args := [d1, d2, d3] }
  | _ => none }
def diskLastsRow : OpenClaim := { program := "ytldppmjjgljinaagreatdoor", sum := "f6421370777a8714bb036b16e0e7cd0be3a12aeb890708034f36b346758a7d19", func := "caravan/caravanlaw09.DiskLasts", spec := "diskLasts", inPlace := ["maps.clone", "internal/bytealg.CountString", "internal/bytealg.IndexByteString", "internal/bytealg.IndexString"], unfollowed := true, recurses := true, named := ["unicode/utf8.first", "unicode/utf8.acceptRanges", "internal/bytealg.MaxLen"], plainKeys := false, apart := false, laid := [("unicode/utf8.acceptRanges", laid_unicode_utf8_acceptRanges), ("unicode/utf8.first", laid_unicode_utf8_first)] }
def DiskLastsSaid : Prop := diskLastsRow.holds Tryz.pinned (OpenSpec.ofChange diskLastsSpec)

/-- ITS FALSE NEIGHBOUR: 'it returns false'. Refute it at one input. -/
def diskLastsWrong : ChangeSpec := { name := "diskLasts", fn := fun _ => fun
  | [d1, d2, d3] => { results := [.lit (.bool false)], args := [d1, d2, d3] }
  | _ => none }
def DiskLastsWrongFalsely : Prop := diskLastsRow.holds Tryz.pinned (OpenSpec.ofChange diskLastsWrong)

/-- 'caravanlaw09.DiskCopies': WHATEVER THE INPUT: true; the input reads as it did. -/
def diskCopiesSpec : ChangeSpec := { name := "diskCopies", fn := fun _ => fun
  | [d1, d2, d3] => { results := [.lit (.bool true)], args := [d1, d2, d3] }
  | _ => none }
def diskCopiesRow : OpenClaim := { program := "ytldppmjjgljinaagreatdoor", sum := "f6421370777a8714bb036b16e0e7cd0be3a12aeb890708034f36b346758a7d19", func := "caravan/caravanlaw09.DiskCopies", spec := "diskCopies", inPlace := ["maps.clone", "internal/bytealg.CountString", "internal/bytealg.IndexByteString", "internal/bytealg.IndexString"], unfollowed := true, recurses := true, named := ["unicode/utf8.first", "unicode/utf8.acceptRanges", "internal/bytealg.MaxLen"], plainKeys := false, apart := false, laid := [("unicode/utf8.acceptRanges", laid_unicode_utf8_acceptRanges), ("unicode/utf8.first", laid_unicode_utf8_first)] }
def DiskCopiesSaid : Prop := diskCopiesRow.holds Tryz.pinned (OpenSpec.ofChange diskCopiesSpec)

/-- ITS FALSE NEIGHBOUR: 'it returns false'. Refute it at one input. -/
def diskCopiesWrong : ChangeSpec := { name := "diskCopies", fn := fun _ => fun
  | [d1, d2, d3] => { results := [.lit (.bool false)], args := [d1, d2, d3] }
  | _ => none }
def DiskCopiesWrongFalsely : Prop := diskCopiesRow.holds Tryz.pinned (OpenSpec.ofChange diskCopiesWrong)

/-- 'caravanlaw09.DiskPlays': WHATEVER THE INPUT: true; the input reads as it did. -/
def diskPlaysSpec : ChangeSpec := { name := "diskPlays", fn := fun _ => fun
  | [d1, d2] => { results := [.lit (.bool true)], args := [d1, d2] }
  | _ => none }
def diskPlaysRow : OpenClaim := { program := "ytldppmjjgljinaagreatdoor", sum := "f6421370777a8714bb036b16e0e7cd0be3a12aeb890708034f36b346758a7d19", func := "caravan/caravanlaw09.DiskPlays", spec := "diskPlays", inPlace := ["maps.clone", "internal/bytealg.CountString", "internal/bytealg.IndexByteString", "internal/bytealg.IndexString"], unfollowed := true, recurses := true, named := ["unicode/utf8.first", "unicode/utf8.acceptRanges", "internal/bytealg.MaxLen"], plainKeys := false, apart := false, laid := [("unicode/utf8.acceptRanges", laid_unicode_utf8_acceptRanges), ("unicode/utf8.first", laid_unicode_utf8_first)] }
def DiskPlaysSaid : Prop := diskPlaysRow.holds Tryz.pinned (OpenSpec.ofChange diskPlaysSpec)

/-- ITS FALSE NEIGHBOUR: 'it returns false'. Refute it at one input. -/
def diskPlaysWrong : ChangeSpec := { name := "diskPlays", fn := fun _ => fun
  | [d1, d2] => { results := [.lit (.bool false)], args := [d1, d2] }
  | _ => none }
def DiskPlaysWrongFalsely : Prop := diskPlaysRow.holds Tryz.pinned (OpenSpec.ofChange diskPlaysWrong)

/-- 'caravanlaw23.TempOrder': WHATEVER THE INPUT: true; the input reads as it did. -/
def tempOrderSpec : ChangeSpec := { name := "tempOrder", fn := fun _ => fun
  | [d1, d2] => { results := [.lit (.bool true)], args := [d1, d2] }
  | _ => none }
def tempOrderRow : OpenClaim := { program := "ytldppmjjgljinaagreatdoor", sum := "f6421370777a8714bb036b16e0e7cd0be3a12aeb890708034f36b346758a7d19", func := "caravan/caravanlaw23.TempOrder", spec := "tempOrder", inPlace := ["maps.clone", "internal/bytealg.CountString", "internal/bytealg.IndexByteString", "internal/bytealg.IndexString", "internal/abi.NoEscape", "internal/bytealg.MakeNoZero"], unfollowed := true, recurses := true, named := ["unicode/utf8.first", "unicode/utf8.acceptRanges", "internal/bytealg.MaxLen", "caravan/sha.first", "caravan/sha.roots"], plainKeys := false, apart := false, laid := [("unicode/utf8.acceptRanges", laid_unicode_utf8_acceptRanges), ("caravan/sha.first", laid_caravan_sha_first), ("caravan/sha.roots", laid_caravan_sha_roots), ("unicode/utf8.first", laid_unicode_utf8_first)] }
def TempOrderSaid : Prop := tempOrderRow.holds Tryz.pinned (OpenSpec.ofChange tempOrderSpec)

/-- ITS FALSE NEIGHBOUR: 'it returns false'. Refute it at one input. -/
def tempOrderWrong : ChangeSpec := { name := "tempOrder", fn := fun _ => fun
  | [d1, d2] => { results := [.lit (.bool false)], args := [d1, d2] }
  | _ => none }
def TempOrderWrongFalsely : Prop := tempOrderRow.holds Tryz.pinned (OpenSpec.ofChange tempOrderWrong)

/-- 'caravanlaw23.TempPlays': WHATEVER THE INPUT: true; the input reads as it did. -/
def tempPlaysSpec : ChangeSpec := { name := "tempPlays", fn := fun _ => fun
  | [d1, d2, d3] => { results := [.lit (.bool true)], args := [d1, d2, d3] }
  | _ => none }
def tempPlaysRow : OpenClaim := { program := "ytldppmjjgljinaagreatdoor", sum := "f6421370777a8714bb036b16e0e7cd0be3a12aeb890708034f36b346758a7d19", func := "caravan/caravanlaw23.TempPlays", spec := "tempPlays", inPlace := ["maps.clone", "internal/bytealg.CountString", "internal/bytealg.IndexByteString", "internal/bytealg.IndexString", "internal/abi.NoEscape", "internal/bytealg.MakeNoZero"], unfollowed := true, recurses := true, named := ["unicode/utf8.first", "unicode/utf8.acceptRanges", "internal/bytealg.MaxLen", "caravan/sha.first", "caravan/sha.roots"], plainKeys := false, apart := false, laid := [("unicode/utf8.acceptRanges", laid_unicode_utf8_acceptRanges), ("caravan/sha.first", laid_caravan_sha_first), ("caravan/sha.roots", laid_caravan_sha_roots), ("unicode/utf8.first", laid_unicode_utf8_first)] }
def TempPlaysSaid : Prop := tempPlaysRow.holds Tryz.pinned (OpenSpec.ofChange tempPlaysSpec)

/-- ITS FALSE NEIGHBOUR: 'it returns false'. Refute it at one input. -/
def tempPlaysWrong : ChangeSpec := { name := "tempPlays", fn := fun _ => fun
  | [d1, d2, d3] => { results := [.lit (.bool false)], args := [d1, d2, d3] }
  | _ => none }
def TempPlaysWrongFalsely : Prop := tempPlaysRow.holds Tryz.pinned (OpenSpec.ofChange tempPlaysWrong)

/-- 'caravanlaw09.DiskKnown': WHATEVER THE INPUT: true; the input reads as it did. -/
def diskKnownSpec : ChangeSpec := { name := "diskKnown", fn := fun _ => fun
  | [] => { results := [.lit (.bool true)], args := [] }
  | _ => none }
def diskKnownRow : OpenClaim := { program := "ytldppmjjgljinaagreatdoor", sum := "f6421370777a8714bb036b16e0e7cd0be3a12aeb890708034f36b346758a7d19", func := "caravan/caravanlaw09.DiskKnown", spec := "diskKnown", inPlace := ["maps.clone", "internal/bytealg.CountString", "internal/bytealg.IndexByteString", "internal/bytealg.IndexString", "internal/abi.NoEscape", "internal/bytealg.MakeNoZero"], unfollowed := true, recurses := true, named := ["unicode/utf8.first", "unicode/utf8.acceptRanges", "internal/bytealg.MaxLen"], plainKeys := false, apart := false, laid := [("unicode/utf8.acceptRanges", laid_unicode_utf8_acceptRanges), ("unicode/utf8.first", laid_unicode_utf8_first)] }
def DiskKnownSaid : Prop := diskKnownRow.holds Tryz.pinned (OpenSpec.ofChange diskKnownSpec)

/-- ITS FALSE NEIGHBOUR: 'it returns false'. Refute it at one input. -/
def diskKnownWrong : ChangeSpec := { name := "diskKnown", fn := fun _ => fun
  | [] => { results := [.lit (.bool false)], args := [] }
  | _ => none }
def DiskKnownWrongFalsely : Prop := diskKnownRow.holds Tryz.pinned (OpenSpec.ofChange diskKnownWrong)

/-- 'caravanlaw23.TempKnown': WHATEVER THE INPUT: true; the input reads as it did. -/
def tempKnownSpec : ChangeSpec := { name := "tempKnown", fn := fun _ => fun
  | [] => { results := [.lit (.bool true)], args := [] }
  | _ => none }
def tempKnownRow : OpenClaim := { program := "ytldppmjjgljinaagreatdoor", sum := "f6421370777a8714bb036b16e0e7cd0be3a12aeb890708034f36b346758a7d19", func := "caravan/caravanlaw23.TempKnown", spec := "tempKnown", inPlace := ["maps.clone", "internal/bytealg.CountString", "internal/bytealg.IndexByteString", "internal/bytealg.IndexString", "internal/abi.NoEscape", "internal/bytealg.MakeNoZero"], unfollowed := true, recurses := true, named := ["unicode/utf8.first", "unicode/utf8.acceptRanges", "internal/bytealg.MaxLen", "caravan/sha.first", "caravan/sha.roots"], plainKeys := false, apart := false, laid := [("unicode/utf8.acceptRanges", laid_unicode_utf8_acceptRanges), ("caravan/sha.first", laid_caravan_sha_first), ("caravan/sha.roots", laid_caravan_sha_roots), ("unicode/utf8.first", laid_unicode_utf8_first)] }
def TempKnownSaid : Prop := tempKnownRow.holds Tryz.pinned (OpenSpec.ofChange tempKnownSpec)

/-- ITS FALSE NEIGHBOUR: 'it returns false'. Refute it at one input. -/
def tempKnownWrong : ChangeSpec := { name := "tempKnown", fn := fun _ => fun
  | [] => { results := [.lit (.bool false)], args := [] }
  | _ => none }
def TempKnownWrongFalsely : Prop := tempKnownRow.holds Tryz.pinned (OpenSpec.ofChange tempKnownWrong)

/- THE SECOND FORM. 'bulk': how many values and letters a reading holds, each counted each time it is reached (what is shared counts as often as it is met; a slice's spare places count too). A statement '..UptoSaid' is the law's where the arguments, and the package variables that the reading takes, are together of bulk at most 1048576: NARROWER than '..Said'. Prove '..Said' where nothing that the law and all that it calls make is longer than what came in: it says more and counts as full. Else prove '..UptoSaid'. A law counts once. -/
mutual
def uptoBulk {H : Type} : DataW H → Nat
  | .lit (.string bytes) => bytes.length + 1
  | .lit _ => 1
  | .nil => 1
  | .ptr d => uptoBulk d + 1
  | .slice elems spare => uptoBulkAll elems + uptoBulkAll spare + 1
  | .agg parts => uptoBulkAll parts + 1
  | .iface _ d => uptoBulk d + 1
  | .map entries => uptoBulkEntries entries + 1
  | .held _ => 1
def uptoBulkAll {H : Type} : List (DataW H) → Nat
  | [] => 0
  | d :: r => uptoBulk d + uptoBulkAll r
def uptoBulkEntries {H : Type} : List (Lit × DataW H) → Nat
  | [] => 0
  | x :: r => uptoBulkEntry x + uptoBulkEntries r
def uptoBulkEntry {H : Type} : Lit × DataW H → Nat
  | (.string bytes, d) => bytes.length + uptoBulk d + 1
  | (_, d) => uptoBulk d + 1
 end
def uptoSmall : (H : Type) → List (DataW H) → Bool := fun _ ds => decide (uptoBulkAll ds ≤ 1048576)
def OpenSpec.upto (s : _root_.Go.ChangeSpec) : _root_.Go.OpenSpec := { _root_.Go.OpenSpec.ofChange s with cond := some uptoSmall }

/-- 'caravanlaw23.TempResumes', WHERE WHAT IT READS IS OF BULK AT MOST 1048576: true; the input reads as it did. -/
def tempResumesUptoRow : OpenClaim := { program := "ytldppmjjgljinaagreatdoor", sum := "f6421370777a8714bb036b16e0e7cd0be3a12aeb890708034f36b346758a7d19", func := "caravan/caravanlaw23.TempResumes", spec := "tempResumes", inPlace := ["maps.clone", "internal/bytealg.CountString", "internal/bytealg.IndexByteString", "internal/bytealg.IndexString", "internal/abi.NoEscape", "internal/bytealg.MakeNoZero"], unfollowed := true, recurses := true, named := ["unicode/utf8.first", "unicode/utf8.acceptRanges", "internal/bytealg.MaxLen", "caravan/sha.first", "caravan/sha.roots"], plainKeys := false, apart := false, laid := [("unicode/utf8.acceptRanges", laid_unicode_utf8_acceptRanges), ("caravan/sha.first", laid_caravan_sha_first), ("caravan/sha.roots", laid_caravan_sha_roots), ("unicode/utf8.first", laid_unicode_utf8_first)], narrowed := true }
def TempResumesUptoSaid : Prop := tempResumesUptoRow.holds Tryz.pinned (OpenSpec.upto tempResumesSpec)

/-- 'caravanlaw09.DiskWhole', WHERE WHAT IT READS IS OF BULK AT MOST 1048576: true; the input reads as it did. -/
def diskWholeUptoRow : OpenClaim := { program := "ytldppmjjgljinaagreatdoor", sum := "f6421370777a8714bb036b16e0e7cd0be3a12aeb890708034f36b346758a7d19", func := "caravan/caravanlaw09.DiskWhole", spec := "diskWhole", inPlace := ["maps.clone", "internal/bytealg.CountString", "internal/bytealg.IndexByteString", "internal/bytealg.IndexString"], unfollowed := true, recurses := true, named := ["unicode/utf8.first", "unicode/utf8.acceptRanges", "internal/bytealg.MaxLen"], plainKeys := false, apart := false, laid := [("unicode/utf8.acceptRanges", laid_unicode_utf8_acceptRanges), ("unicode/utf8.first", laid_unicode_utf8_first)], narrowed := true }
def DiskWholeUptoSaid : Prop := diskWholeUptoRow.holds Tryz.pinned (OpenSpec.upto diskWholeSpec)

/-- 'caravanlaw09.DiskLasts', WHERE WHAT IT READS IS OF BULK AT MOST 1048576: true; the input reads as it did. -/
def diskLastsUptoRow : OpenClaim := { program := "ytldppmjjgljinaagreatdoor", sum := "f6421370777a8714bb036b16e0e7cd0be3a12aeb890708034f36b346758a7d19", func := "caravan/caravanlaw09.DiskLasts", spec := "diskLasts", inPlace := ["maps.clone", "internal/bytealg.CountString", "internal/bytealg.IndexByteString", "internal/bytealg.IndexString"], unfollowed := true, recurses := true, named := ["unicode/utf8.first", "unicode/utf8.acceptRanges", "internal/bytealg.MaxLen"], plainKeys := false, apart := false, laid := [("unicode/utf8.acceptRanges", laid_unicode_utf8_acceptRanges), ("unicode/utf8.first", laid_unicode_utf8_first)], narrowed := true }
def DiskLastsUptoSaid : Prop := diskLastsUptoRow.holds Tryz.pinned (OpenSpec.upto diskLastsSpec)

/-- 'caravanlaw09.DiskCopies', WHERE WHAT IT READS IS OF BULK AT MOST 1048576: true; the input reads as it did. -/
def diskCopiesUptoRow : OpenClaim := { program := "ytldppmjjgljinaagreatdoor", sum := "f6421370777a8714bb036b16e0e7cd0be3a12aeb890708034f36b346758a7d19", func := "caravan/caravanlaw09.DiskCopies", spec := "diskCopies", inPlace := ["maps.clone", "internal/bytealg.CountString", "internal/bytealg.IndexByteString", "internal/bytealg.IndexString"], unfollowed := true, recurses := true, named := ["unicode/utf8.first", "unicode/utf8.acceptRanges", "internal/bytealg.MaxLen"], plainKeys := false, apart := false, laid := [("unicode/utf8.acceptRanges", laid_unicode_utf8_acceptRanges), ("unicode/utf8.first", laid_unicode_utf8_first)], narrowed := true }
def DiskCopiesUptoSaid : Prop := diskCopiesUptoRow.holds Tryz.pinned (OpenSpec.upto diskCopiesSpec)

/-- 'caravanlaw09.DiskPlays', WHERE WHAT IT READS IS OF BULK AT MOST 1048576: true; the input reads as it did. -/
def diskPlaysUptoRow : OpenClaim := { program := "ytldppmjjgljinaagreatdoor", sum := "f6421370777a8714bb036b16e0e7cd0be3a12aeb890708034f36b346758a7d19", func := "caravan/caravanlaw09.DiskPlays", spec := "diskPlays", inPlace := ["maps.clone", "internal/bytealg.CountString", "internal/bytealg.IndexByteString", "internal/bytealg.IndexString"], unfollowed := true, recurses := true, named := ["unicode/utf8.first", "unicode/utf8.acceptRanges", "internal/bytealg.MaxLen"], plainKeys := false, apart := false, laid := [("unicode/utf8.acceptRanges", laid_unicode_utf8_acceptRanges), ("unicode/utf8.first", laid_unicode_utf8_first)], narrowed := true }
def DiskPlaysUptoSaid : Prop := diskPlaysUptoRow.holds Tryz.pinned (OpenSpec.upto diskPlaysSpec)

/-- 'caravanlaw23.TempOrder', WHERE WHAT IT READS IS OF BULK AT MOST 1048576: true; the input reads as it did. -/
def tempOrderUptoRow : OpenClaim := { program := "ytldppmjjgljinaagreatdoor", sum := "f6421370777a8714bb036b16e0e7cd0be3a12aeb890708034f36b346758a7d19", func := "caravan/caravanlaw23.TempOrder", spec := "tempOrder", inPlace := ["maps.clone", "internal/bytealg.CountString", "internal/bytealg.IndexByteString", "internal/bytealg.IndexString", "internal/abi.NoEscape", "internal/bytealg.MakeNoZero"], unfollowed := true, recurses := true, named := ["unicode/utf8.first", "unicode/utf8.acceptRanges", "internal/bytealg.MaxLen", "caravan/sha.first", "caravan/sha.roots"], plainKeys := false, apart := false, laid := [("unicode/utf8.acceptRanges", laid_unicode_utf8_acceptRanges), ("caravan/sha.first", laid_caravan_sha_first), ("caravan/sha.roots", laid_caravan_sha_roots), ("unicode/utf8.first", laid_unicode_utf8_first)], narrowed := true }
def TempOrderUptoSaid : Prop := tempOrderUptoRow.holds Tryz.pinned (OpenSpec.upto tempOrderSpec)

/-- 'caravanlaw23.TempPlays', WHERE WHAT IT READS IS OF BULK AT MOST 1048576: true; the input reads as it did. -/
def tempPlaysUptoRow : OpenClaim := { program := "ytldppmjjgljinaagreatdoor", sum := "f6421370777a8714bb036b16e0e7cd0be3a12aeb890708034f36b346758a7d19", func := "caravan/caravanlaw23.TempPlays", spec := "tempPlays", inPlace := ["maps.clone", "internal/bytealg.CountString", "internal/bytealg.IndexByteString", "internal/bytealg.IndexString", "internal/abi.NoEscape", "internal/bytealg.MakeNoZero"], unfollowed := true, recurses := true, named := ["unicode/utf8.first", "unicode/utf8.acceptRanges", "internal/bytealg.MaxLen", "caravan/sha.first", "caravan/sha.roots"], plainKeys := false, apart := false, laid := [("unicode/utf8.acceptRanges", laid_unicode_utf8_acceptRanges), ("caravan/sha.first", laid_caravan_sha_first), ("caravan/sha.roots", laid_caravan_sha_roots), ("unicode/utf8.first", laid_unicode_utf8_first)], narrowed := true }
def TempPlaysUptoSaid : Prop := tempPlaysUptoRow.holds Tryz.pinned (OpenSpec.upto tempPlaysSpec)

/-- 'caravanlaw09.DiskKnown', WHERE WHAT IT READS IS OF BULK AT MOST 1048576: true; the input reads as it did. -/
def diskKnownUptoRow : OpenClaim := { program := "ytldppmjjgljinaagreatdoor", sum := "f6421370777a8714bb036b16e0e7cd0be3a12aeb890708034f36b346758a7d19", func := "caravan/caravanlaw09.DiskKnown", spec := "diskKnown", inPlace := ["maps.clone", "internal/bytealg.CountString", "internal/bytealg.IndexByteString", "internal/bytealg.IndexString", "internal/abi.NoEscape", "internal/bytealg.MakeNoZero"], unfollowed := true, recurses := true, named := ["unicode/utf8.first", "unicode/utf8.acceptRanges", "internal/bytealg.MaxLen"], plainKeys := false, apart := false, laid := [("unicode/utf8.acceptRanges", laid_unicode_utf8_acceptRanges), ("unicode/utf8.first", laid_unicode_utf8_first)], narrowed := true }
def DiskKnownUptoSaid : Prop := diskKnownUptoRow.holds Tryz.pinned (OpenSpec.upto diskKnownSpec)

/-- 'caravanlaw23.TempKnown', WHERE WHAT IT READS IS OF BULK AT MOST 1048576: true; the input reads as it did. -/
def tempKnownUptoRow : OpenClaim := { program := "ytldppmjjgljinaagreatdoor", sum := "f6421370777a8714bb036b16e0e7cd0be3a12aeb890708034f36b346758a7d19", func := "caravan/caravanlaw23.TempKnown", spec := "tempKnown", inPlace := ["maps.clone", "internal/bytealg.CountString", "internal/bytealg.IndexByteString", "internal/bytealg.IndexString", "internal/abi.NoEscape", "internal/bytealg.MakeNoZero"], unfollowed := true, recurses := true, named := ["unicode/utf8.first", "unicode/utf8.acceptRanges", "internal/bytealg.MaxLen", "caravan/sha.first", "caravan/sha.roots"], plainKeys := false, apart := false, laid := [("unicode/utf8.acceptRanges", laid_unicode_utf8_acceptRanges), ("caravan/sha.first", laid_caravan_sha_first), ("caravan/sha.roots", laid_caravan_sha_roots), ("unicode/utf8.first", laid_unicode_utf8_first)], narrowed := true }
def TempKnownUptoSaid : Prop := tempKnownUptoRow.holds Tryz.pinned (OpenSpec.upto tempKnownSpec)

end Rows
end Go.Proofs.YtldppmjjgljinaaGreatDoor
