/-
  DERIVED. GIVEN WITH THE SEED: THE CARDS: each row of YtoeccapckhnlbaaDoorRows.lean that lists a variable, with what it lists TIED to the program's text (the seventh form; the later family's looks); each row that meets fmt, with fmt's text TOLD by the authors' own Lean function (tested against real Go, not proved from fmt's source: count such statements apart). THE CARD IS WHAT COUNTS. Prove the row's statement (the work); the ties are given (YtoeccapckhnlbaaDoorTie.lean); close each card by the builder's one call (the guide's Derived/Test/ToyasCard.lean, 'card_holds'). Laid BY PROGRAM, IN A SANDBOX (cutbox-door.mjs). By AI agents, Wed Nov 11 2026. No macro, syntax, notation, axiom, sorry.
-/
import Derived.Test.YtoeccapckhnlbaaDoorRows
import GoSem.ClaimSeven
namespace Go.Proofs.YtoeccapckhnlbaaDoor
namespace Rows

/-- THE TIED CARD OF 'missivelaw12.MsgidTells'. -/
def msgidTellsCard : Claim7 := { stood := { row := msgidTellsRow, standIns := [], harness := (true, "a6d82c94187fcabd12e2576638201406af404407e7342e798a5d909c298019f0"), looks := false }, kinds := [], alts := [], laidByText := true, laidKinds := [.data], laidTests := true, laidLooks := .later }
def MsgidTellsCardSaid : Prop := Claim7.holds Tryd.pinned (.plain (OpenSpec.ofChange msgidTellsSpec)) msgidTellsCard

/-- THE TIED CARD OF 'missivelaw12.MsgidIds'. -/
def msgidIdsCard : Claim7 := { stood := { row := msgidIdsRow, standIns := [], harness := (true, "a6d82c94187fcabd12e2576638201406af404407e7342e798a5d909c298019f0"), looks := false }, kinds := [], alts := [], laidByText := true, laidKinds := [.data], laidTests := true, laidLooks := .later }
def MsgidIdsCardSaid : Prop := Claim7.holds Tryd.pinned (.plain (OpenSpec.ofChange msgidIdsSpec)) msgidIdsCard

/-- THE TIED CARD OF 'missivelaw12.MsgidRefs'. -/
def msgidRefsCard : Claim7 := { stood := { row := msgidRefsRow, standIns := [], harness := (true, "a6d82c94187fcabd12e2576638201406af404407e7342e798a5d909c298019f0"), looks := false }, kinds := [], alts := [], laidByText := true, laidKinds := [.data], laidTests := true, laidLooks := .later }
def MsgidRefsCardSaid : Prop := Claim7.holds Tryd.pinned (.plain (OpenSpec.ofChange msgidRefsSpec)) msgidRefsCard

/-- THE TIED CARD OF 'missivelaw12.MsgidReplies'. -/
def msgidRepliesCard : Claim7 := { stood := { row := msgidRepliesRow, standIns := [], harness := (true, "a6d82c94187fcabd12e2576638201406af404407e7342e798a5d909c298019f0"), looks := false }, kinds := [], alts := [], laidByText := true, laidKinds := [.data], laidTests := true, laidLooks := .later }
def MsgidRepliesCardSaid : Prop := Claim7.holds Tryd.pinned (.plain (OpenSpec.ofChange msgidRepliesSpec)) msgidRepliesCard

/-- THE SECOND FORM's CARD OF 'missivelaw12.MsgidTells'. -/
def msgidTellsUptoCard : Claim7 := { stood := { row := msgidTellsUptoRow, standIns := [], harness := (true, "a6d82c94187fcabd12e2576638201406af404407e7342e798a5d909c298019f0"), looks := false }, kinds := [], alts := [], laidByText := true, laidKinds := [.data], laidTests := true, laidLooks := .later }
def MsgidTellsUptoCardSaid : Prop := Claim7.holds Tryd.pinned (.plain (OpenSpec.upto msgidTellsSpec)) msgidTellsUptoCard

/-- THE SECOND FORM's CARD OF 'missivelaw12.MsgidIds'. -/
def msgidIdsUptoCard : Claim7 := { stood := { row := msgidIdsUptoRow, standIns := [], harness := (true, "a6d82c94187fcabd12e2576638201406af404407e7342e798a5d909c298019f0"), looks := false }, kinds := [], alts := [], laidByText := true, laidKinds := [.data], laidTests := true, laidLooks := .later }
def MsgidIdsUptoCardSaid : Prop := Claim7.holds Tryd.pinned (.plain (OpenSpec.upto msgidIdsSpec)) msgidIdsUptoCard

/-- THE SECOND FORM's CARD OF 'missivelaw12.MsgidRefs'. -/
def msgidRefsUptoCard : Claim7 := { stood := { row := msgidRefsUptoRow, standIns := [], harness := (true, "a6d82c94187fcabd12e2576638201406af404407e7342e798a5d909c298019f0"), looks := false }, kinds := [], alts := [], laidByText := true, laidKinds := [.data], laidTests := true, laidLooks := .later }
def MsgidRefsUptoCardSaid : Prop := Claim7.holds Tryd.pinned (.plain (OpenSpec.upto msgidRefsSpec)) msgidRefsUptoCard

/-- THE SECOND FORM's CARD OF 'missivelaw12.MsgidReplies'. -/
def msgidRepliesUptoCard : Claim7 := { stood := { row := msgidRepliesUptoRow, standIns := [], harness := (true, "a6d82c94187fcabd12e2576638201406af404407e7342e798a5d909c298019f0"), looks := false }, kinds := [], alts := [], laidByText := true, laidKinds := [.data], laidTests := true, laidLooks := .later }
def MsgidRepliesUptoCardSaid : Prop := Claim7.holds Tryd.pinned (.plain (OpenSpec.upto msgidRepliesSpec)) msgidRepliesUptoCard
end Rows
end Go.Proofs.YtoeccapckhnlbaaDoor
