/-
  DERIVED. GIVEN WITH THE SEED: THE CARDS: each row of YtpnakfeafekneaaGreatDoorRows.lean that lists a variable, with what it lists TIED to the program's text (the seventh form; the later family's looks); each row that meets fmt, with fmt's text TOLD by the authors' own Lean function (tested against real Go, not proved from fmt's source: count such statements apart). THE CARD IS WHAT COUNTS. Prove the row's statement (the work); the ties are given (YtpnakfeafekneaaGreatDoorTie.lean); close each card by the builder's one call (the guide's Derived/Test/ToyasCard.lean, 'card_holds'). Laid BY PROGRAM, IN A SANDBOX (cutbox-door.mjs). By AI agents, Wed Nov 11 2026. No macro, syntax, notation, axiom, sorry.
-/
import Derived.Test.YtpnakfeafekneaaGreatDoorRows
import GoSem.ClaimSeven
namespace Go.Proofs.YtpnakfeafekneaaGreatDoor
namespace Rows

/-- THE TIED CARD OF 'notarylaw20.ReplayRoots'. -/
def replayRootsCard : Claim7 := { stood := { row := replayRootsRow, standIns := [], harness := (true, "51ecbcafb165b4fa46930aaccd5d2161bf7b512c55bfeda0de22a439d9503b89"), looks := true }, kinds := [], alts := [], laidByText := true, laidKinds := [.data], laidTests := true, laidLooks := .later }
def ReplayRootsCardSaid : Prop := Claim7.holds Tryz.pinned (.plain (OpenSpec.ofChange replayRootsSpec)) replayRootsCard

/-- THE TIED CARD OF 'notarylaw20.ReplayGone'. -/
def replayGoneCard : Claim7 := { stood := { row := replayGoneRow, standIns := [], harness := (true, "51ecbcafb165b4fa46930aaccd5d2161bf7b512c55bfeda0de22a439d9503b89"), looks := true }, kinds := [], alts := [], laidByText := true, laidKinds := [.data], laidTests := true, laidLooks := .later }
def ReplayGoneCardSaid : Prop := Claim7.holds Tryz.pinned (.plain (OpenSpec.ofChange replayGoneSpec)) replayGoneCard

/-- THE TIED CARD OF 'notarylaw20.ReplayBuilds'. -/
def replayBuildsCard : Claim7 := { stood := { row := replayBuildsRow, standIns := [], harness := (true, "51ecbcafb165b4fa46930aaccd5d2161bf7b512c55bfeda0de22a439d9503b89"), looks := true }, kinds := [], alts := [], laidByText := true, laidKinds := [.data], laidTests := true, laidLooks := .later }
def ReplayBuildsCardSaid : Prop := Claim7.holds Tryz.pinned (.plain (OpenSpec.ofChange replayBuildsSpec)) replayBuildsCard

/-- THE TIED CARD OF 'notarylaw20.ReplayMemory'. -/
def replayMemoryCard : Claim7 := { stood := { row := replayMemoryRow, standIns := [], harness := (true, "51ecbcafb165b4fa46930aaccd5d2161bf7b512c55bfeda0de22a439d9503b89"), looks := true }, kinds := [], alts := [], laidByText := true, laidKinds := [.data], laidTests := true, laidLooks := .later }
def ReplayMemoryCardSaid : Prop := Claim7.holds Tryz.pinned (.plain (OpenSpec.ofChange replayMemorySpec)) replayMemoryCard

/-- THE TIED CARD OF 'notarylaw20.ReplayCuts'. -/
def replayCutsCard : Claim7 := { stood := { row := replayCutsRow, standIns := [], harness := (true, "51ecbcafb165b4fa46930aaccd5d2161bf7b512c55bfeda0de22a439d9503b89"), looks := true }, kinds := [], alts := [], laidByText := true, laidKinds := [.data], laidTests := true, laidLooks := .later }
def ReplayCutsCardSaid : Prop := Claim7.holds Tryz.pinned (.plain (OpenSpec.ofChange replayCutsSpec)) replayCutsCard

/-- THE SECOND FORM's CARD OF 'notarylaw20.ReplayRoots'. -/
def replayRootsUptoCard : Claim7 := { stood := { row := replayRootsUptoRow, standIns := [], harness := (true, "51ecbcafb165b4fa46930aaccd5d2161bf7b512c55bfeda0de22a439d9503b89"), looks := true }, kinds := [], alts := [], laidByText := true, laidKinds := [.data], laidTests := true, laidLooks := .later }
def ReplayRootsUptoCardSaid : Prop := Claim7.holds Tryz.pinned (.plain (OpenSpec.upto replayRootsSpec)) replayRootsUptoCard

/-- THE SECOND FORM's CARD OF 'notarylaw20.ReplayGone'. -/
def replayGoneUptoCard : Claim7 := { stood := { row := replayGoneUptoRow, standIns := [], harness := (true, "51ecbcafb165b4fa46930aaccd5d2161bf7b512c55bfeda0de22a439d9503b89"), looks := true }, kinds := [], alts := [], laidByText := true, laidKinds := [.data], laidTests := true, laidLooks := .later }
def ReplayGoneUptoCardSaid : Prop := Claim7.holds Tryz.pinned (.plain (OpenSpec.upto replayGoneSpec)) replayGoneUptoCard

/-- THE SECOND FORM's CARD OF 'notarylaw20.ReplayBuilds'. -/
def replayBuildsUptoCard : Claim7 := { stood := { row := replayBuildsUptoRow, standIns := [], harness := (true, "51ecbcafb165b4fa46930aaccd5d2161bf7b512c55bfeda0de22a439d9503b89"), looks := true }, kinds := [], alts := [], laidByText := true, laidKinds := [.data], laidTests := true, laidLooks := .later }
def ReplayBuildsUptoCardSaid : Prop := Claim7.holds Tryz.pinned (.plain (OpenSpec.upto replayBuildsSpec)) replayBuildsUptoCard

/-- THE SECOND FORM's CARD OF 'notarylaw20.ReplayMemory'. -/
def replayMemoryUptoCard : Claim7 := { stood := { row := replayMemoryUptoRow, standIns := [], harness := (true, "51ecbcafb165b4fa46930aaccd5d2161bf7b512c55bfeda0de22a439d9503b89"), looks := true }, kinds := [], alts := [], laidByText := true, laidKinds := [.data], laidTests := true, laidLooks := .later }
def ReplayMemoryUptoCardSaid : Prop := Claim7.holds Tryz.pinned (.plain (OpenSpec.upto replayMemorySpec)) replayMemoryUptoCard

/-- THE SECOND FORM's CARD OF 'notarylaw20.ReplayCuts'. -/
def replayCutsUptoCard : Claim7 := { stood := { row := replayCutsUptoRow, standIns := [], harness := (true, "51ecbcafb165b4fa46930aaccd5d2161bf7b512c55bfeda0de22a439d9503b89"), looks := true }, kinds := [], alts := [], laidByText := true, laidKinds := [.data], laidTests := true, laidLooks := .later }
def ReplayCutsUptoCardSaid : Prop := Claim7.holds Tryz.pinned (.plain (OpenSpec.upto replayCutsSpec)) replayCutsUptoCard
end Rows
end Go.Proofs.YtpnakfeafekneaaGreatDoor
