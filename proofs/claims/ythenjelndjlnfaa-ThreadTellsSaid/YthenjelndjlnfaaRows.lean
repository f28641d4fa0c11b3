/-
  No cell of these rows narrows 'for every input' (looked for: loops, veiled, ifaces, maps, wideKeys, modest, calm, conditions, laid).
  DERIVED. THE GIVEN ROWS OF THIS SEAT. 6 by the template 'for every input the law returns true; each argument reads behind the call as it read before'; 0 by the template 'total and deterministic' (their statements: YthenjelndjlnfaaTotals.lean).
  GIVEN WITH THE SEED: the statements are not yours to turn. If you find one false, say at which input.
  Laid BY PROGRAM, IN A SANDBOX (cutbox-rows.mjs): the forced cells as the released guide's own fill.sh prints them over the translation 3afd27fdd592bf47… (all of the seat's roots in one cut). By AI agents, Wed Nov 11 2026. No macro, syntax, notation, axiom, sorry.
-/
import Derived.Test.YthenjelndjlnfaaChecked
import GoSem.Claim
import GoSem.ClaimJoined
import GoSem.ClaimMapViews
import Derived.JoinedTies
import Derived.KernelRfl
namespace Go.Proofs.Ythenjelndjlnfaa
/- THE CELL 'sum', in the pinned program and in every row, IS THE sha256 OF THE DUMP (.gsa) THAT YthenjelndjlnfaaProg.lean LOADS. Nothing in Lean hashes anything: it is a label: what it is worth is what the hold of that sum in a sandbox is worth. -/
noncomputable def Try.pinned : Pinned := { name := "ythenjelndjlnfaa", sum := "3afd27fdd592bf471d757300a7a2155417eef8e9e05d8e707a076aeabb0f4586", checked := Try.checked }
namespace Rows
def none {H : Type} : Left H := { results := [], args := [] }

/-- 'missivelaw21.ThreadForms': WHATEVER THE INPUT: true; the input reads as it did. -/
def threadFormsSpec : ChangeSpec := { name := "threadForms", fn := fun _ => fun
  | [d] => { results := [.lit (.bool true)], args := [d] }
  | _ => none }
def threadFormsRow : OpenClaim := { program := "ythenjelndjlnfaa", sum := "3afd27fdd592bf471d757300a7a2155417eef8e9e05d8e707a076aeabb0f4586", func := "missive/missivelaw21.ThreadForms", spec := "threadForms", unfollowed := true, recurses := true, apart := false }
def ThreadFormsSaid : Prop := threadFormsRow.holds Try.pinned (OpenSpec.ofChange threadFormsSpec)

/-- ITS FALSE NEIGHBOUR: 'it returns false'. Refute it at one input. -/
def threadFormsWrong : ChangeSpec := { name := "threadForms", fn := fun _ => fun
  | [d] => { results := [.lit (.bool false)], args := [d] }
  | _ => none }
def ThreadFormsWrongFalsely : Prop := threadFormsRow.holds Try.pinned (OpenSpec.ofChange threadFormsWrong)

/-- 'missivelaw21.ThreadParents': WHATEVER THE INPUT: true; the input reads as it did. -/
def threadParentsSpec : ChangeSpec := { name := "threadParents", fn := fun _ => fun
  | [d] => { results := [.lit (.bool true)], args := [d] }
  | _ => none }
def threadParentsRow : OpenClaim := { program := "ythenjelndjlnfaa", sum := "3afd27fdd592bf471d757300a7a2155417eef8e9e05d8e707a076aeabb0f4586", func := "missive/missivelaw21.ThreadParents", spec := "threadParents", unfollowed := true, recurses := true, apart := false }
def ThreadParentsSaid : Prop := threadParentsRow.holds Try.pinned (OpenSpec.ofChange threadParentsSpec)

/-- ITS FALSE NEIGHBOUR: 'it returns false'. Refute it at one input. -/
def threadParentsWrong : ChangeSpec := { name := "threadParents", fn := fun _ => fun
  | [d] => { results := [.lit (.bool false)], args := [d] }
  | _ => none }
def ThreadParentsWrongFalsely : Prop := threadParentsRow.holds Try.pinned (OpenSpec.ofChange threadParentsWrong)

/-- 'missivelaw21.ThreadAdds': WHATEVER THE INPUT: true; the input reads as it did. -/
def threadAddsSpec : ChangeSpec := { name := "threadAdds", fn := fun _ => fun
  | [d1, d2] => { results := [.lit (.bool true)], args := [d1, d2] }
  | _ => none }
def threadAddsRow : OpenClaim := { program := "ythenjelndjlnfaa", sum := "3afd27fdd592bf471d757300a7a2155417eef8e9e05d8e707a076aeabb0f4586", func := "missive/missivelaw21.ThreadAdds", spec := "threadAdds", unfollowed := true, recurses := true, apart := false }
def ThreadAddsSaid : Prop := threadAddsRow.holds Try.pinned (OpenSpec.ofChange threadAddsSpec)

/-- ITS FALSE NEIGHBOUR: 'it returns false'. Refute it at one input. -/
def threadAddsWrong : ChangeSpec := { name := "threadAdds", fn := fun _ => fun
  | [d1, d2] => { results := [.lit (.bool false)], args := [d1, d2] }
  | _ => none }
def ThreadAddsWrongFalsely : Prop := threadAddsRow.holds Try.pinned (OpenSpec.ofChange threadAddsWrong)

/-- 'missivelaw21.ThreadShuffles': WHATEVER THE INPUT: true; the input reads as it did. -/
def threadShufflesSpec : ChangeSpec := { name := "threadShuffles", fn := fun _ => fun
  | [d1, d2, d3] => { results := [.lit (.bool true)], args := [d1, d2, d3] }
  | _ => none }
def threadShufflesRow : OpenClaim := { program := "ythenjelndjlnfaa", sum := "3afd27fdd592bf471d757300a7a2155417eef8e9e05d8e707a076aeabb0f4586", func := "missive/missivelaw21.ThreadShuffles", spec := "threadShuffles", unfollowed := true, recurses := true, apart := false }
def ThreadShufflesSaid : Prop := threadShufflesRow.holds Try.pinned (OpenSpec.ofChange threadShufflesSpec)

/-- ITS FALSE NEIGHBOUR: 'it returns false'. Refute it at one input. -/
def threadShufflesWrong : ChangeSpec := { name := "threadShuffles", fn := fun _ => fun
  | [d1, d2, d3] => { results := [.lit (.bool false)], args := [d1, d2, d3] }
  | _ => none }
def ThreadShufflesWrongFalsely : Prop := threadShufflesRow.holds Try.pinned (OpenSpec.ofChange threadShufflesWrong)

/-- 'missivelaw21.ThreadRoots': WHATEVER THE INPUT: true; the input reads as it did. -/
def threadRootsSpec : ChangeSpec := { name := "threadRoots", fn := fun _ => fun
  | [d1, d2] => { results := [.lit (.bool true)], args := [d1, d2] }
  | _ => none }
def threadRootsRow : OpenClaim := { program := "ythenjelndjlnfaa", sum := "3afd27fdd592bf471d757300a7a2155417eef8e9e05d8e707a076aeabb0f4586", func := "missive/missivelaw21.ThreadRoots", spec := "threadRoots", unfollowed := true, recurses := true, apart := false }
def ThreadRootsSaid : Prop := threadRootsRow.holds Try.pinned (OpenSpec.ofChange threadRootsSpec)

/-- ITS FALSE NEIGHBOUR: 'it returns false'. Refute it at one input. -/
def threadRootsWrong : ChangeSpec := { name := "threadRoots", fn := fun _ => fun
  | [d1, d2] => { results := [.lit (.bool false)], args := [d1, d2] }
  | _ => none }
def ThreadRootsWrongFalsely : Prop := threadRootsRow.holds Try.pinned (OpenSpec.ofChange threadRootsWrong)

/-- 'missivelaw21.ThreadTells': WHATEVER THE INPUT: true; the input reads as it did. -/
def threadTellsSpec : ChangeSpec := { name := "threadTells", fn := fun _ => fun
  | [d1, d2, d3] => { results := [.lit (.bool true)], args := [d1, d2, d3] }
  | _ => none }
def threadTellsRow : OpenClaim := { program := "ythenjelndjlnfaa", sum := "3afd27fdd592bf471d757300a7a2155417eef8e9e05d8e707a076aeabb0f4586", func := "missive/missivelaw21.ThreadTells", spec := "threadTells", unfollowed := true, recurses := true, apart := false }
def ThreadTellsSaid : Prop := threadTellsRow.holds Try.pinned (OpenSpec.ofChange threadTellsSpec)

/-- ITS FALSE NEIGHBOUR: 'it returns false'. Refute it at one input. -/
def threadTellsWrong : ChangeSpec := { name := "threadTells", fn := fun _ => fun
  | [d1, d2, d3] => { results := [.lit (.bool false)], args := [d1, d2, d3] }
  | _ => none }
def ThreadTellsWrongFalsely : Prop := threadTellsRow.holds Try.pinned (OpenSpec.ofChange threadTellsWrong)

/- THE SECOND FORM. 'bulk': how many values and letters a reading holds, each counted each time it is reached (what is shared counts as often as it is met; a slice's spare places count too). A statement '..UptoSaid' is the law's where the arguments, and the package variables that the reading takes, are together of bulk at most 1048576: NARROWER than '..Said'. Prove '..Said' where nothing that the law and all that it calls make is longer than what came in: it says more and counts as full. Else prove '..UptoSaid'. A law counts once. -/
mutual
def uptoBulk {H : Type} : DataW H → Nat
  | .lit (.string bytes) => bytes.length + 1
  | .lit _ => 1
  | .nil => 1
  | .ptr d => uptoBulk d + 1
  | .slice elems spare => uptoBulkAll elems + uptoBulkAll spare + 1
  | .agg parts => uptoBulkAll parts + 1
  | .iface _ d => uptoBulk d + 1
  | .map entries => uptoBulkEntries entries + 1
  | .held _ => 1
def uptoBulkAll {H : Type} : List (DataW H) → Nat
  | [] => 0
  | d :: r => uptoBulk d + uptoBulkAll r
def uptoBulkEntries {H : Type} : List (Lit × DataW H) → Nat
  | [] => 0
  | x :: r => uptoBulkEntry x + uptoBulkEntries r
def uptoBulkEntry {H : Type} : Lit × DataW H → Nat
  | (.string bytes, d) => bytes.length + uptoBulk d + 1
  | (_, d) => uptoBulk d + 1
 end
def uptoSmall : (H : Type) → List (DataW H) → Bool := fun _ ds => decide (uptoBulkAll ds ≤ 1048576)
def OpenSpec.upto (s : _root_.Go.ChangeSpec) : _root_.Go.OpenSpec := { _root_.Go.OpenSpec.ofChange s with cond := some uptoSmall }

/-- 'missivelaw21.ThreadForms', WHERE WHAT IT READS IS OF BULK AT MOST 1048576: true; the input reads as it did. -/
def threadFormsUptoRow : OpenClaim := { program := "ythenjelndjlnfaa", sum := "3afd27fdd592bf471d757300a7a2155417eef8e9e05d8e707a076aeabb0f4586", func := "missive/missivelaw21.ThreadForms", spec := "threadForms", unfollowed := true, recurses := true, apart := false, narrowed := true }
def ThreadFormsUptoSaid : Prop := threadFormsUptoRow.holds Try.pinned (OpenSpec.upto threadFormsSpec)

/-- 'missivelaw21.ThreadParents', WHERE WHAT IT READS IS OF BULK AT MOST 1048576: true; the input reads as it did. -/
def threadParentsUptoRow : OpenClaim := { program := "ythenjelndjlnfaa", sum := "3afd27fdd592bf471d757300a7a2155417eef8e9e05d8e707a076aeabb0f4586", func := "missive/missivelaw21.ThreadParents", spec := "threadParents", unfollowed := true, recurses := true, apart := false, narrowed := true }
def ThreadParentsUptoSaid : Prop := threadParentsUptoRow.holds Try.pinned (OpenSpec.upto threadParentsSpec)

/-- 'missivelaw21.ThreadAdds', WHERE WHAT IT READS IS OF BULK AT MOST 1048576: true; the input reads as it did. -/
def threadAddsUptoRow : OpenClaim := { program := "ythenjelndjlnfaa", sum := "3afd27fdd592bf471d757300a7a2155417eef8e9e05d8e707a076aeabb0f4586", func := "missive/missivelaw21.ThreadAdds", spec := "threadAdds", unfollowed := true, recurses := true, apart := false, narrowed := true }
def ThreadAddsUptoSaid : Prop := threadAddsUptoRow.holds Try.pinned (OpenSpec.upto threadAddsSpec)

/-- 'missivelaw21.ThreadShuffles', WHERE WHAT IT READS IS OF BULK AT MOST 1048576: true; the input reads as it did. -/
def threadShufflesUptoRow : OpenClaim := { program := "ythenjelndjlnfaa", sum := "3afd27fdd592bf471d757300a7a2155417eef8e9e05d8e707a076aeabb0f4586", func := "missive/missivelaw21.ThreadShuffles", spec := "threadShuffles", unfollowed := true, recurses := true, apart := false, narrowed := true }
def ThreadShufflesUptoSaid : Prop := threadShufflesUptoRow.holds Try.pinned (OpenSpec.upto threadShufflesSpec)

/-- 'missivelaw21.ThreadRoots', WHERE WHAT IT READS IS OF BULK AT MOST 1048576: true; the input reads as it did. -/
def threadRootsUptoRow : OpenClaim := { program := "ythenjelndjlnfaa", sum := "3afd27fdd592bf471d757300a7a2155417eef8e9e05d8e707a076aeabb0f4586", func := "missive/missivelaw21.ThreadRoots", spec := "threadRoots", unfollowed := true, recurses := true, apart := false, narrowed := true }
def ThreadRootsUptoSaid : Prop := threadRootsUptoRow.holds Try.pinned (OpenSpec.upto threadRootsSpec)

/-- 'missivelaw21.ThreadTells', WHERE WHAT IT READS IS OF BULK AT MOST 1048576: true; the input reads as it did. -/
def threadTellsUptoRow : OpenClaim := { program := "ythenjelndjlnfaa", sum := "3afd27fdd592bf471d757300a7a2155417eef8e9e05d8e707a076aeabb0f4586", func := "missive/missivelaw21.ThreadTells", spec := "threadTells", unfollowed := true, recurses := true, apart := false, narrowed := true }
def ThreadTellsUptoSaid : Prop := threadTellsUptoRow.holds Try.pinned (OpenSpec.upto threadTellsSpec)

end Rows
end Go.Proofs.Ythenjelndjlnfaa
