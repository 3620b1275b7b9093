/-
  DERIVED. GIVEN WITH THE SEED: THE CARDS: each row of YtfdjnnlcfnincaaDoorRows.lean that lists a variable, with what it lists TIED to the program's text (the seventh form; the later family's looks); each row that meets fmt, with fmt's text TOLD by the authors' own Lean function (tested against real Go, not proved from fmt's source: count such statements apart). THE CARD IS WHAT COUNTS. Prove the row's statement (the work); the ties are given (YtfdjnnlcfnincaaDoorTie.lean); close each card by the builder's one call (the guide's Derived/Test/ToyasCard.lean, 'card_holds'). Laid BY PROGRAM, IN A SANDBOX (cutbox-door.mjs). By AI agents, Wed Nov 11 2026. No macro, syntax, notation, axiom, sorry.
-/
import Derived.Test.YtfdjnnlcfnincaaDoorRows
import GoSem.ClaimSeven
namespace Go.Proofs.YtfdjnnlcfnincaaDoor
namespace Rows

/-- THE TIED CARD OF 'brooklaw12.CsnOrder'. -/
def csnOrderCard : Claim7 := { stood := { row := csnOrderRow, standIns := [], harness := (true, "710d8627af67e3e0c347b26ce5e142bf1d99717fb9ab54c21d61d868e58e193e"), looks := true }, kinds := [], alts := [], laidByText := true, laidKinds := [.data, .data, .data], laidTests := true, laidLooks := .later }
def CsnOrderCardSaid : Prop := Claim7.holds Tryd.pinned (.plain (OpenSpec.ofChange csnOrderSpec)) csnOrderCard

/-- THE TIED CARD OF 'brooklaw12.CsnBack'. -/
def csnBackCard : Claim7 := { stood := { row := csnBackRow, standIns := [], harness := (true, "710d8627af67e3e0c347b26ce5e142bf1d99717fb9ab54c21d61d868e58e193e"), looks := true }, kinds := [], alts := [], laidByText := true, laidKinds := [.data, .data, .data, .sentinel, .sentinel], laidTests := true, laidLooks := .later }
def CsnBackCardSaid : Prop := Claim7.holds Tryd.pinned (.plain (OpenSpec.ofChange csnBackSpec)) csnBackCard

/-- THE TIED CARD OF 'brooklaw12.CsnAll'. -/
def csnAllCard : Claim7 := { stood := { row := csnAllRow, standIns := [], harness := (true, "710d8627af67e3e0c347b26ce5e142bf1d99717fb9ab54c21d61d868e58e193e"), looks := true }, kinds := [], alts := [], laidByText := true, laidKinds := [.data, .data, .data, .sentinel, .sentinel], laidTests := true, laidLooks := .later }
def CsnAllCardSaid : Prop := Claim7.holds Tryd.pinned (.plain (OpenSpec.ofChange csnAllSpec)) csnAllCard

/-- THE SECOND FORM's CARD OF 'brooklaw12.CsnOrder'. -/
def csnOrderUptoCard : Claim7 := { stood := { row := csnOrderUptoRow, standIns := [], harness := (true, "710d8627af67e3e0c347b26ce5e142bf1d99717fb9ab54c21d61d868e58e193e"), looks := true }, kinds := [], alts := [], laidByText := true, laidKinds := [.data, .data, .data], laidTests := true, laidLooks := .later }
def CsnOrderUptoCardSaid : Prop := Claim7.holds Tryd.pinned (.plain (OpenSpec.upto csnOrderSpec)) csnOrderUptoCard

/-- THE SECOND FORM's CARD OF 'brooklaw12.CsnBack'. -/
def csnBackUptoCard : Claim7 := { stood := { row := csnBackUptoRow, standIns := [], harness := (true, "710d8627af67e3e0c347b26ce5e142bf1d99717fb9ab54c21d61d868e58e193e"), looks := true }, kinds := [], alts := [], laidByText := true, laidKinds := [.data, .data, .data, .sentinel, .sentinel], laidTests := true, laidLooks := .later }
def CsnBackUptoCardSaid : Prop := Claim7.holds Tryd.pinned (.plain (OpenSpec.upto csnBackSpec)) csnBackUptoCard

/-- THE SECOND FORM's CARD OF 'brooklaw12.CsnAll'. -/
def csnAllUptoCard : Claim7 := { stood := { row := csnAllUptoRow, standIns := [], harness := (true, "710d8627af67e3e0c347b26ce5e142bf1d99717fb9ab54c21d61d868e58e193e"), looks := true }, kinds := [], alts := [], laidByText := true, laidKinds := [.data, .data, .data, .sentinel, .sentinel], laidTests := true, laidLooks := .later }
def CsnAllUptoCardSaid : Prop := Claim7.holds Tryd.pinned (.plain (OpenSpec.upto csnAllSpec)) csnAllUptoCard
end Rows
end Go.Proofs.YtfdjnnlcfnincaaDoor
