/-
  No cell of these rows narrows 'for every input' (looked for: loops, veiled, ifaces, maps, wideKeys, modest, calm, conditions, laid).
  DERIVED. THE GIVEN ROWS OF THIS SEAT. 13 by the template 'for every input the law returns true; each argument reads behind the call as it read before'; 0 by the template 'total and deterministic' (their statements: YtgalileklafbbaaTotals.lean).
  GIVEN WITH THE SEED: the statements are not yours to turn. If you find one false, say at which input.
  Laid BY PROGRAM, IN A SANDBOX (cutbox-rows.mjs): the forced cells as the released guide's own fill.sh prints them over the translation 215c26872293cd4c… (all of the seat's roots in one cut). By AI agents, Wed Nov 11 2026. No macro, syntax, notation, axiom, sorry.
-/
import Derived.Test.YtgalileklafbbaaChecked
import GoSem.Claim
import GoSem.ClaimJoined
import GoSem.ClaimMapViews
import Derived.JoinedTies
import Derived.KernelRfl
namespace Go.Proofs.Ytgalileklafbbaa
/- THE CELL 'sum', in the pinned program and in every row, IS THE sha256 OF THE DUMP (.gsa) THAT YtgalileklafbbaaProg.lean LOADS. Nothing in Lean hashes anything: it is a label: what it is worth is what the hold of that sum in a sandbox is worth. -/
noncomputable def Try.pinned : Pinned := { name := "ytgalileklafbbaa", sum := "215c26872293cd4ce7722060171a1eee6039c91fa64c039d263b9c86095dd7ea", checked := Try.checked }
namespace Rows
def none {H : Type} : Left H := { results := [], args := [] }

/-- 'missivelaw05.DiskTurns': WHATEVER THE INPUT: true; the input reads as it did. -/
def diskTurnsSpec : ChangeSpec := { name := "diskTurns", fn := fun _ => fun
  | [d1, d2, d3, d4] => { results := [.lit (.bool true)], args := [d1, d2, d3, d4] }
  | _ => none }
def diskTurnsRow : OpenClaim := { program := "ytgalileklafbbaa", sum := "215c26872293cd4ce7722060171a1eee6039c91fa64c039d263b9c86095dd7ea", func := "missive/missivelaw05.DiskTurns", spec := "diskTurns", unfollowed := true, recurses := true, apart := false }
def DiskTurnsSaid : Prop := diskTurnsRow.holds Try.pinned (OpenSpec.ofChange diskTurnsSpec)

/-- ITS FALSE NEIGHBOUR: 'it returns false'. Refute it at one input. -/
def diskTurnsWrong : ChangeSpec := { name := "diskTurns", fn := fun _ => fun
  | [d1, d2, d3, d4] => { results := [.lit (.bool false)], args := [d1, d2, d3, d4] }
  | _ => none }
def DiskTurnsWrongFalsely : Prop := diskTurnsRow.holds Try.pinned (OpenSpec.ofChange diskTurnsWrong)

/-- 'missivelaw05.DiskReorders': WHATEVER THE INPUT: true; the input reads as it did. -/
def diskReordersSpec : ChangeSpec := { name := "diskReorders", fn := fun _ => fun
  | [d1, d2, d3, d4] => { results := [.lit (.bool true)], args := [d1, d2, d3, d4] }
  | _ => none }
def diskReordersRow : OpenClaim := { program := "ytgalileklafbbaa", sum := "215c26872293cd4ce7722060171a1eee6039c91fa64c039d263b9c86095dd7ea", func := "missive/missivelaw05.DiskReorders", spec := "diskReorders", unfollowed := true, recurses := true, apart := false }
def DiskReordersSaid : Prop := diskReordersRow.holds Try.pinned (OpenSpec.ofChange diskReordersSpec)

/-- ITS FALSE NEIGHBOUR: 'it returns false'. Refute it at one input. -/
def diskReordersWrong : ChangeSpec := { name := "diskReorders", fn := fun _ => fun
  | [d1, d2, d3, d4] => { results := [.lit (.bool false)], args := [d1, d2, d3, d4] }
  | _ => none }
def DiskReordersWrongFalsely : Prop := diskReordersRow.holds Try.pinned (OpenSpec.ofChange diskReordersWrong)

/-- 'missivelaw05.DiskLasts': WHATEVER THE INPUT: true; the input reads as it did. -/
def diskLastsSpec : ChangeSpec := { name := "diskLasts", fn := fun _ => fun
  | [d1, d2] => { results := [.lit (.bool true)], args := [d1, d2] }
  | _ => none }
def diskLastsRow : OpenClaim := { program := "ytgalileklafbbaa", sum := "215c26872293cd4ce7722060171a1eee6039c91fa64c039d263b9c86095dd7ea", func := "missive/missivelaw05.DiskLasts", spec := "diskLasts", unfollowed := true, recurses := true, apart := false }
def DiskLastsSaid : Prop := diskLastsRow.holds Try.pinned (OpenSpec.ofChange diskLastsSpec)

/-- ITS FALSE NEIGHBOUR: 'it returns false'. Refute it at one input. -/
def diskLastsWrong : ChangeSpec := { name := "diskLasts", fn := fun _ => fun
  | [d1, d2] => { results := [.lit (.bool false)], args := [d1, d2] }
  | _ => none }
def DiskLastsWrongFalsely : Prop := diskLastsRow.holds Try.pinned (OpenSpec.ofChange diskLastsWrong)

/-- 'missivelaw05.DiskArms': WHATEVER THE INPUT: true; the input reads as it did. -/
def diskArmsSpec : ChangeSpec := { name := "diskArms", fn := fun _ => fun
  | [d1, d2, d3] => { results := [.lit (.bool true)], args := [d1, d2, d3] }
  | _ => none }
def diskArmsRow : OpenClaim := { program := "ytgalileklafbbaa", sum := "215c26872293cd4ce7722060171a1eee6039c91fa64c039d263b9c86095dd7ea", func := "missive/missivelaw05.DiskArms", spec := "diskArms", unfollowed := true, recurses := true, apart := false }
def DiskArmsSaid : Prop := diskArmsRow.holds Try.pinned (OpenSpec.ofChange diskArmsSpec)

/-- ITS FALSE NEIGHBOUR: 'it returns false'. Refute it at one input. -/
def diskArmsWrong : ChangeSpec := { name := "diskArms", fn := fun _ => fun
  | [d1, d2, d3] => { results := [.lit (.bool false)], args := [d1, d2, d3] }
  | _ => none }
def DiskArmsWrongFalsely : Prop := diskArmsRow.holds Try.pinned (OpenSpec.ofChange diskArmsWrong)

/-- 'missivelaw05.DiskLoses': WHATEVER THE INPUT: true; the input reads as it did. -/
def diskLosesSpec : ChangeSpec := { name := "diskLoses", fn := fun _ => fun
  | [d1, d2] => { results := [.lit (.bool true)], args := [d1, d2] }
  | _ => none }
def diskLosesRow : OpenClaim := { program := "ytgalileklafbbaa", sum := "215c26872293cd4ce7722060171a1eee6039c91fa64c039d263b9c86095dd7ea", func := "missive/missivelaw05.DiskLoses", spec := "diskLoses", unfollowed := true, recurses := true, apart := false }
def DiskLosesSaid : Prop := diskLosesRow.holds Try.pinned (OpenSpec.ofChange diskLosesSpec)

/-- ITS FALSE NEIGHBOUR: 'it returns false'. Refute it at one input. -/
def diskLosesWrong : ChangeSpec := { name := "diskLoses", fn := fun _ => fun
  | [d1, d2] => { results := [.lit (.bool false)], args := [d1, d2] }
  | _ => none }
def DiskLosesWrongFalsely : Prop := diskLosesRow.holds Try.pinned (OpenSpec.ofChange diskLosesWrong)

/-- 'missivelaw05.DiskTells': WHATEVER THE INPUT: true; the input reads as it did. -/
def diskTellsSpec : ChangeSpec := { name := "diskTells", fn := fun _ => fun
  | [d] => { results := [.lit (.bool true)], args := [d] }
  | _ => none }
def diskTellsRow : OpenClaim := { program := "ytgalileklafbbaa", sum := "215c26872293cd4ce7722060171a1eee6039c91fa64c039d263b9c86095dd7ea", func := "missive/missivelaw05.DiskTells", spec := "diskTells", unfollowed := true, recurses := true, apart := false }
def DiskTellsSaid : Prop := diskTellsRow.holds Try.pinned (OpenSpec.ofChange diskTellsSpec)

/-- ITS FALSE NEIGHBOUR: 'it returns false'. Refute it at one input. -/
def diskTellsWrong : ChangeSpec := { name := "diskTells", fn := fun _ => fun
  | [d] => { results := [.lit (.bool false)], args := [d] }
  | _ => none }
def DiskTellsWrongFalsely : Prop := diskTellsRow.holds Try.pinned (OpenSpec.ofChange diskTellsWrong)

/-- 'missivelaw05.DiskDown': WHATEVER THE INPUT: true; the input reads as it did. -/
def diskDownSpec : ChangeSpec := { name := "diskDown", fn := fun _ => fun
  | [d1, d2] => { results := [.lit (.bool true)], args := [d1, d2] }
  | _ => none }
def diskDownRow : OpenClaim := { program := "ytgalileklafbbaa", sum := "215c26872293cd4ce7722060171a1eee6039c91fa64c039d263b9c86095dd7ea", func := "missive/missivelaw05.DiskDown", spec := "diskDown", unfollowed := true, recurses := true, apart := false }
def DiskDownSaid : Prop := diskDownRow.holds Try.pinned (OpenSpec.ofChange diskDownSpec)

/-- ITS FALSE NEIGHBOUR: 'it returns false'. Refute it at one input. -/
def diskDownWrong : ChangeSpec := { name := "diskDown", fn := fun _ => fun
  | [d1, d2] => { results := [.lit (.bool false)], args := [d1, d2] }
  | _ => none }
def DiskDownWrongFalsely : Prop := diskDownRow.holds Try.pinned (OpenSpec.ofChange diskDownWrong)

/-- 'missivelaw06.JournalForms': WHATEVER THE INPUT: true; the input reads as it did. -/
def journalFormsSpec : ChangeSpec := { name := "journalForms", fn := fun _ => fun
  | [d1, d2] => { results := [.lit (.bool true)], args := [d1, d2] }
  | _ => none }
def journalFormsRow : OpenClaim := { program := "ytgalileklafbbaa", sum := "215c26872293cd4ce7722060171a1eee6039c91fa64c039d263b9c86095dd7ea", func := "missive/missivelaw06.JournalForms", spec := "journalForms", inPlace := ["internal/abi.NoEscape"], unfollowed := true, recurses := true, apart := false }
def JournalFormsSaid : Prop := journalFormsRow.holds Try.pinned (OpenSpec.ofChange journalFormsSpec)

/-- ITS FALSE NEIGHBOUR: 'it returns false'. Refute it at one input. -/
def journalFormsWrong : ChangeSpec := { name := "journalForms", fn := fun _ => fun
  | [d1, d2] => { results := [.lit (.bool false)], args := [d1, d2] }
  | _ => none }
def JournalFormsWrongFalsely : Prop := journalFormsRow.holds Try.pinned (OpenSpec.ofChange journalFormsWrong)

/-- 'missivelaw06.JournalTurns': WHATEVER THE INPUT: true; the input reads as it did. -/
def journalTurnsSpec : ChangeSpec := { name := "journalTurns", fn := fun _ => fun
  | [d1, d2, d3, d4] => { results := [.lit (.bool true)], args := [d1, d2, d3, d4] }
  | _ => none }
def journalTurnsRow : OpenClaim := { program := "ytgalileklafbbaa", sum := "215c26872293cd4ce7722060171a1eee6039c91fa64c039d263b9c86095dd7ea", func := "missive/missivelaw06.JournalTurns", spec := "journalTurns", inPlace := ["internal/abi.NoEscape"], unfollowed := true, recurses := true, apart := false }
def JournalTurnsSaid : Prop := journalTurnsRow.holds Try.pinned (OpenSpec.ofChange journalTurnsSpec)

/-- ITS FALSE NEIGHBOUR: 'it returns false'. Refute it at one input. -/
def journalTurnsWrong : ChangeSpec := { name := "journalTurns", fn := fun _ => fun
  | [d1, d2, d3, d4] => { results := [.lit (.bool false)], args := [d1, d2, d3, d4] }
  | _ => none }
def JournalTurnsWrongFalsely : Prop := journalTurnsRow.holds Try.pinned (OpenSpec.ofChange journalTurnsWrong)

/-- 'missivelaw06.JournalLists': WHATEVER THE INPUT: true; the input reads as it did. -/
def journalListsSpec : ChangeSpec := { name := "journalLists", fn := fun _ => fun
  | [d] => { results := [.lit (.bool true)], args := [d] }
  | _ => none }
def journalListsRow : OpenClaim := { program := "ytgalileklafbbaa", sum := "215c26872293cd4ce7722060171a1eee6039c91fa64c039d263b9c86095dd7ea", func := "missive/missivelaw06.JournalLists", spec := "journalLists", inPlace := ["internal/abi.NoEscape"], unfollowed := true, recurses := true, apart := false }
def JournalListsSaid : Prop := journalListsRow.holds Try.pinned (OpenSpec.ofChange journalListsSpec)

/-- ITS FALSE NEIGHBOUR: 'it returns false'. Refute it at one input. -/
def journalListsWrong : ChangeSpec := { name := "journalLists", fn := fun _ => fun
  | [d] => { results := [.lit (.bool false)], args := [d] }
  | _ => none }
def JournalListsWrongFalsely : Prop := journalListsRow.holds Try.pinned (OpenSpec.ofChange journalListsWrong)

/-- 'missivelaw06.JournalSpoils': WHATEVER THE INPUT: true; the input reads as it did. -/
def journalSpoilsSpec : ChangeSpec := { name := "journalSpoils", fn := fun _ => fun
  | [d1, d2, d3] => { results := [.lit (.bool true)], args := [d1, d2, d3] }
  | _ => none }
def journalSpoilsRow : OpenClaim := { program := "ytgalileklafbbaa", sum := "215c26872293cd4ce7722060171a1eee6039c91fa64c039d263b9c86095dd7ea", func := "missive/missivelaw06.JournalSpoils", spec := "journalSpoils", inPlace := ["internal/abi.NoEscape"], unfollowed := true, recurses := true, apart := false }
def JournalSpoilsSaid : Prop := journalSpoilsRow.holds Try.pinned (OpenSpec.ofChange journalSpoilsSpec)

/-- ITS FALSE NEIGHBOUR: 'it returns false'. Refute it at one input. -/
def journalSpoilsWrong : ChangeSpec := { name := "journalSpoils", fn := fun _ => fun
  | [d1, d2, d3] => { results := [.lit (.bool false)], args := [d1, d2, d3] }
  | _ => none }
def JournalSpoilsWrongFalsely : Prop := journalSpoilsRow.holds Try.pinned (OpenSpec.ofChange journalSpoilsWrong)

/-- 'missivelaw06.JournalTells': WHATEVER THE INPUT: true; the input reads as it did. -/
def journalTellsSpec : ChangeSpec := { name := "journalTells", fn := fun _ => fun
  | [d1, d2] => { results := [.lit (.bool true)], args := [d1, d2] }
  | _ => none }
def journalTellsRow : OpenClaim := { program := "ytgalileklafbbaa", sum := "215c26872293cd4ce7722060171a1eee6039c91fa64c039d263b9c86095dd7ea", func := "missive/missivelaw06.JournalTells", spec := "journalTells", inPlace := ["internal/abi.NoEscape"], unfollowed := true, recurses := true, apart := false }
def JournalTellsSaid : Prop := journalTellsRow.holds Try.pinned (OpenSpec.ofChange journalTellsSpec)

/-- ITS FALSE NEIGHBOUR: 'it returns false'. Refute it at one input. -/
def journalTellsWrong : ChangeSpec := { name := "journalTells", fn := fun _ => fun
  | [d1, d2] => { results := [.lit (.bool false)], args := [d1, d2] }
  | _ => none }
def JournalTellsWrongFalsely : Prop := journalTellsRow.holds Try.pinned (OpenSpec.ofChange journalTellsWrong)

/-- 'missivelaw06.JournalLasts': WHATEVER THE INPUT: true; the input reads as it did. -/
def journalLastsSpec : ChangeSpec := { name := "journalLasts", fn := fun _ => fun
  | [d1, d2] => { results := [.lit (.bool true)], args := [d1, d2] }
  | _ => none }
def journalLastsRow : OpenClaim := { program := "ytgalileklafbbaa", sum := "215c26872293cd4ce7722060171a1eee6039c91fa64c039d263b9c86095dd7ea", func := "missive/missivelaw06.JournalLasts", spec := "journalLasts", inPlace := ["internal/abi.NoEscape"], unfollowed := true, recurses := true, apart := false }
def JournalLastsSaid : Prop := journalLastsRow.holds Try.pinned (OpenSpec.ofChange journalLastsSpec)

/-- ITS FALSE NEIGHBOUR: 'it returns false'. Refute it at one input. -/
def journalLastsWrong : ChangeSpec := { name := "journalLasts", fn := fun _ => fun
  | [d1, d2] => { results := [.lit (.bool false)], args := [d1, d2] }
  | _ => none }
def JournalLastsWrongFalsely : Prop := journalLastsRow.holds Try.pinned (OpenSpec.ofChange journalLastsWrong)

/- THE SECOND FORM. 'bulk': how many values and letters a reading holds, each counted each time it is reached (what is shared counts as often as it is met; a slice's spare places count too). A statement '..UptoSaid' is the law's where the arguments, and the package variables that the reading takes, are together of bulk at most 1048576: NARROWER than '..Said'. Prove '..Said' where nothing that the law and all that it calls make is longer than what came in: it says more and counts as full. Else prove '..UptoSaid'. A law counts once. -/
mutual
def uptoBulk {H : Type} : DataW H → Nat
  | .lit (.string bytes) => bytes.length + 1
  | .lit _ => 1
  | .nil => 1
  | .ptr d => uptoBulk d + 1
  | .slice elems spare => uptoBulkAll elems + uptoBulkAll spare + 1
  | .agg parts => uptoBulkAll parts + 1
  | .iface _ d => uptoBulk d + 1
  | .map entries => uptoBulkEntries entries + 1
  | .held _ => 1
def uptoBulkAll {H : Type} : List (DataW H) → Nat
  | [] => 0
  | d :: r => uptoBulk d + uptoBulkAll r
def uptoBulkEntries {H : Type} : List (Lit × DataW H) → Nat
  | [] => 0
  | x :: r => uptoBulkEntry x + uptoBulkEntries r
def uptoBulkEntry {H : Type} : Lit × DataW H → Nat
  | (.string bytes, d) => bytes.length + uptoBulk d + 1
  | (_, d) => uptoBulk d + 1
 end
def uptoSmall : (H : Type) → List (DataW H) → Bool := fun _ ds => decide (uptoBulkAll ds ≤ 1048576)
def OpenSpec.upto (s : _root_.Go.ChangeSpec) : _root_.Go.OpenSpec := { _root_.Go.OpenSpec.ofChange s with cond := some uptoSmall }

/-- 'missivelaw05.DiskTurns', WHERE WHAT IT READS IS OF BULK AT MOST 1048576: true; the input reads as it did. -/
def diskTurnsUptoRow : OpenClaim := { program := "ytgalileklafbbaa", sum := "215c26872293cd4ce7722060171a1eee6039c91fa64c039d263b9c86095dd7ea", func := "missive/missivelaw05.DiskTurns", spec := "diskTurns", unfollowed := true, recurses := true, apart := false, narrowed := true }
def DiskTurnsUptoSaid : Prop := diskTurnsUptoRow.holds Try.pinned (OpenSpec.upto diskTurnsSpec)

/-- 'missivelaw05.DiskReorders', WHERE WHAT IT READS IS OF BULK AT MOST 1048576: true; the input reads as it did. -/
def diskReordersUptoRow : OpenClaim := { program := "ytgalileklafbbaa", sum := "215c26872293cd4ce7722060171a1eee6039c91fa64c039d263b9c86095dd7ea", func := "missive/missivelaw05.DiskReorders", spec := "diskReorders", unfollowed := true, recurses := true, apart := false, narrowed := true }
def DiskReordersUptoSaid : Prop := diskReordersUptoRow.holds Try.pinned (OpenSpec.upto diskReordersSpec)

/-- 'missivelaw05.DiskLasts', WHERE WHAT IT READS IS OF BULK AT MOST 1048576: true; the input reads as it did. -/
def diskLastsUptoRow : OpenClaim := { program := "ytgalileklafbbaa", sum := "215c26872293cd4ce7722060171a1eee6039c91fa64c039d263b9c86095dd7ea", func := "missive/missivelaw05.DiskLasts", spec := "diskLasts", unfollowed := true, recurses := true, apart := false, narrowed := true }
def DiskLastsUptoSaid : Prop := diskLastsUptoRow.holds Try.pinned (OpenSpec.upto diskLastsSpec)

/-- 'missivelaw05.DiskArms', WHERE WHAT IT READS IS OF BULK AT MOST 1048576: true; the input reads as it did. -/
def diskArmsUptoRow : OpenClaim := { program := "ytgalileklafbbaa", sum := "215c26872293cd4ce7722060171a1eee6039c91fa64c039d263b9c86095dd7ea", func := "missive/missivelaw05.DiskArms", spec := "diskArms", unfollowed := true, recurses := true, apart := false, narrowed := true }
def DiskArmsUptoSaid : Prop := diskArmsUptoRow.holds Try.pinned (OpenSpec.upto diskArmsSpec)

/-- 'missivelaw05.DiskLoses', WHERE WHAT IT READS IS OF BULK AT MOST 1048576: true; the input reads as it did. -/
def diskLosesUptoRow : OpenClaim := { program := "ytgalileklafbbaa", sum := "215c26872293cd4ce7722060171a1eee6039c91fa64c039d263b9c86095dd7ea", func := "missive/missivelaw05.DiskLoses", spec := "diskLoses", unfollowed := true, recurses := true, apart := false, narrowed := true }
def DiskLosesUptoSaid : Prop := diskLosesUptoRow.holds Try.pinned (OpenSpec.upto diskLosesSpec)

/-- 'missivelaw05.DiskTells', WHERE WHAT IT READS IS OF BULK AT MOST 1048576: true; the input reads as it did. -/
def diskTellsUptoRow : OpenClaim := { program := "ytgalileklafbbaa", sum := "215c26872293cd4ce7722060171a1eee6039c91fa64c039d263b9c86095dd7ea", func := "missive/missivelaw05.DiskTells", spec := "diskTells", unfollowed := true, recurses := true, apart := false, narrowed := true }
def DiskTellsUptoSaid : Prop := diskTellsUptoRow.holds Try.pinned (OpenSpec.upto diskTellsSpec)

/-- 'missivelaw05.DiskDown', WHERE WHAT IT READS IS OF BULK AT MOST 1048576: true; the input reads as it did. -/
def diskDownUptoRow : OpenClaim := { program := "ytgalileklafbbaa", sum := "215c26872293cd4ce7722060171a1eee6039c91fa64c039d263b9c86095dd7ea", func := "missive/missivelaw05.DiskDown", spec := "diskDown", unfollowed := true, recurses := true, apart := false, narrowed := true }
def DiskDownUptoSaid : Prop := diskDownUptoRow.holds Try.pinned (OpenSpec.upto diskDownSpec)

/-- 'missivelaw06.JournalForms', WHERE WHAT IT READS IS OF BULK AT MOST 1048576: true; the input reads as it did. -/
def journalFormsUptoRow : OpenClaim := { program := "ytgalileklafbbaa", sum := "215c26872293cd4ce7722060171a1eee6039c91fa64c039d263b9c86095dd7ea", func := "missive/missivelaw06.JournalForms", spec := "journalForms", inPlace := ["internal/abi.NoEscape"], unfollowed := true, recurses := true, apart := false, narrowed := true }
def JournalFormsUptoSaid : Prop := journalFormsUptoRow.holds Try.pinned (OpenSpec.upto journalFormsSpec)

/-- 'missivelaw06.JournalTurns', WHERE WHAT IT READS IS OF BULK AT MOST 1048576: true; the input reads as it did. -/
def journalTurnsUptoRow : OpenClaim := { program := "ytgalileklafbbaa", sum := "215c26872293cd4ce7722060171a1eee6039c91fa64c039d263b9c86095dd7ea", func := "missive/missivelaw06.JournalTurns", spec := "journalTurns", inPlace := ["internal/abi.NoEscape"], unfollowed := true, recurses := true, apart := false, narrowed := true }
def JournalTurnsUptoSaid : Prop := journalTurnsUptoRow.holds Try.pinned (OpenSpec.upto journalTurnsSpec)

/-- 'missivelaw06.JournalLists', WHERE WHAT IT READS IS OF BULK AT MOST 1048576: true; the input reads as it did. -/
def journalListsUptoRow : OpenClaim := { program := "ytgalileklafbbaa", sum := "215c26872293cd4ce7722060171a1eee6039c91fa64c039d263b9c86095dd7ea", func := "missive/missivelaw06.JournalLists", spec := "journalLists", inPlace := ["internal/abi.NoEscape"], unfollowed := true, recurses := true, apart := false, narrowed := true }
def JournalListsUptoSaid : Prop := journalListsUptoRow.holds Try.pinned (OpenSpec.upto journalListsSpec)

/-- 'missivelaw06.JournalSpoils', WHERE WHAT IT READS IS OF BULK AT MOST 1048576: true; the input reads as it did. -/
def journalSpoilsUptoRow : OpenClaim := { program := "ytgalileklafbbaa", sum := "215c26872293cd4ce7722060171a1eee6039c91fa64c039d263b9c86095dd7ea", func := "missive/missivelaw06.JournalSpoils", spec := "journalSpoils", inPlace := ["internal/abi.NoEscape"], unfollowed := true, recurses := true, apart := false, narrowed := true }
def JournalSpoilsUptoSaid : Prop := journalSpoilsUptoRow.holds Try.pinned (OpenSpec.upto journalSpoilsSpec)

/-- 'missivelaw06.JournalTells', WHERE WHAT IT READS IS OF BULK AT MOST 1048576: true; the input reads as it did. -/
def journalTellsUptoRow : OpenClaim := { program := "ytgalileklafbbaa", sum := "215c26872293cd4ce7722060171a1eee6039c91fa64c039d263b9c86095dd7ea", func := "missive/missivelaw06.JournalTells", spec := "journalTells", inPlace := ["internal/abi.NoEscape"], unfollowed := true, recurses := true, apart := false, narrowed := true }
def JournalTellsUptoSaid : Prop := journalTellsUptoRow.holds Try.pinned (OpenSpec.upto journalTellsSpec)

/-- 'missivelaw06.JournalLasts', WHERE WHAT IT READS IS OF BULK AT MOST 1048576: true; the input reads as it did. -/
def journalLastsUptoRow : OpenClaim := { program := "ytgalileklafbbaa", sum := "215c26872293cd4ce7722060171a1eee6039c91fa64c039d263b9c86095dd7ea", func := "missive/missivelaw06.JournalLasts", spec := "journalLasts", inPlace := ["internal/abi.NoEscape"], unfollowed := true, recurses := true, apart := false, narrowed := true }
def JournalLastsUptoSaid : Prop := journalLastsUptoRow.holds Try.pinned (OpenSpec.upto journalLastsSpec)

end Rows
end Go.Proofs.Ytgalileklafbbaa
