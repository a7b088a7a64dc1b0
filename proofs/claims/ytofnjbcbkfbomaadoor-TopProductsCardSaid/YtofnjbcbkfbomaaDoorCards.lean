/-
  DERIVED. GIVEN WITH THE SEED: THE CARDS: each row of YtofnjbcbkfbomaaDoorRows.lean that lists a variable, with what it lists TIED to the program's text (the seventh form; the later family's looks); each row that meets fmt, with fmt's text TOLD by the authors' own Lean function (tested against real Go, not proved from fmt's source: count such statements apart). THE CARD IS WHAT COUNTS. Prove the row's statement (the work); the ties are given (YtofnjbcbkfbomaaDoorTie.lean); close each card by the builder's one call (the guide's Derived/Test/ToyasCard.lean, 'card_holds'). Laid BY PROGRAM, IN A SANDBOX (cutbox-door.mjs). By AI agents, Wed Nov 11 2026. No macro, syntax, notation, axiom, sorry.
-/
import Derived.Test.YtofnjbcbkfbomaaDoorRows
import GoSem.ClaimSeven
namespace Go.Proofs.YtofnjbcbkfbomaaDoor
namespace Rows

/-- THE TIED CARD OF 'attestortop.TopOpens'. -/
def topOpensCard : Claim7 := { stood := { row := topOpensRow, standIns := [], harness := (true, "45ee26f13c3c0979ee814f42bd331db7e6c76dadfe91ed096c6f95f68b885c5a"), looks := false }, kinds := [], alts := [], laidByText := true, laidKinds := [.widerDeep, .data, .data, .data], laidTests := true, laidLooks := .later }
def TopOpensCardSaid : Prop := Claim7.holds Tryd.pinned (.plain (OpenSpec.ofChange topOpensSpec)) topOpensCard

/-- THE TIED CARD OF 'attestortop.TopProducts'. -/
def topProductsCard : Claim7 := { stood := { row := topProductsRow, standIns := [], harness := (true, "45ee26f13c3c0979ee814f42bd331db7e6c76dadfe91ed096c6f95f68b885c5a"), looks := false }, kinds := [], alts := [], laidByText := true, laidKinds := [.widerDeep], laidTests := true, laidLooks := .later }
def TopProductsCardSaid : Prop := Claim7.holds Tryd.pinned (.plain (OpenSpec.ofChange topProductsSpec)) topProductsCard

/-- THE TIED CARD OF 'attestortop.TopWords'. -/
def topWordsCard : Claim7 := { stood := { row := topWordsRow, standIns := [], harness := (true, "45ee26f13c3c0979ee814f42bd331db7e6c76dadfe91ed096c6f95f68b885c5a"), looks := false }, kinds := [], alts := [], laidByText := true, laidKinds := [.widerDeep, .data, .data, .data, .data], laidTests := true, laidLooks := .later }
def TopWordsCardSaid : Prop := Claim7.holds Tryd.pinned (.plain (OpenSpec.ofChange topWordsSpec)) topWordsCard

/-- THE SECOND FORM's CARD OF 'attestortop.TopOpens'. -/
def topOpensUptoCard : Claim7 := { stood := { row := topOpensUptoRow, standIns := [], harness := (true, "45ee26f13c3c0979ee814f42bd331db7e6c76dadfe91ed096c6f95f68b885c5a"), looks := false }, kinds := [], alts := [], laidByText := true, laidKinds := [.widerDeep, .data, .data, .data], laidTests := true, laidLooks := .later }
def TopOpensUptoCardSaid : Prop := Claim7.holds Tryd.pinned (.plain (OpenSpec.upto topOpensSpec)) topOpensUptoCard

/-- THE SECOND FORM's CARD OF 'attestortop.TopProducts'. -/
def topProductsUptoCard : Claim7 := { stood := { row := topProductsUptoRow, standIns := [], harness := (true, "45ee26f13c3c0979ee814f42bd331db7e6c76dadfe91ed096c6f95f68b885c5a"), looks := false }, kinds := [], alts := [], laidByText := true, laidKinds := [.widerDeep], laidTests := true, laidLooks := .later }
def TopProductsUptoCardSaid : Prop := Claim7.holds Tryd.pinned (.plain (OpenSpec.upto topProductsSpec)) topProductsUptoCard

/-- THE SECOND FORM's CARD OF 'attestortop.TopWords'. -/
def topWordsUptoCard : Claim7 := { stood := { row := topWordsUptoRow, standIns := [], harness := (true, "45ee26f13c3c0979ee814f42bd331db7e6c76dadfe91ed096c6f95f68b885c5a"), looks := false }, kinds := [], alts := [], laidByText := true, laidKinds := [.widerDeep, .data, .data, .data, .data], laidTests := true, laidLooks := .later }
def TopWordsUptoCardSaid : Prop := Claim7.holds Tryd.pinned (.plain (OpenSpec.upto topWordsSpec)) topWordsUptoCard
end Rows
end Go.Proofs.YtofnjbcbkfbomaaDoor
