/- ReplayMemory, the tied card: for every width, every list of entries and every list of cuts the law answers true and its arguments read behind the call as before. Conditions: those of the card's row (the table notary/sha.words laid by the program's text). -/
import Derived.Test.YtpnakfeafekneaaGreatDoorTie
import Derived.Test.YtpnakfeafekneaaGreatDoorCards
import Derived.SevenTiedAt
import Derived.Test.YtpnakfeafekneaaGreatDoorG44
set_option linter.unusedSimpArgs false
set_option linter.unusedVariables false
namespace Go.Proofs.YtpnakfeafekneaaGreatDoor
open Go
theorem replayMemory_holds : Rows.ReplayMemoryCardSaid :=
  Claim7.holds_tied_plain_at .later [] [.data] true (true, "51ecbcafb165b4fa46930aaccd5d2161bf7b512c55bfeda0de22a439d9503b89") true
    replayMemory_row (fun _ h => by cases h) (by kernel_rfl) (fun _ h => by cases h) replayMemory_row_tie rfl ⟨rfl, rfl⟩ (by kernel_rfl) rfl
    (fun f fn hf hfn => by
      obtain rfl : f = 6 := Option.some.inj ((show Tryz.prog.funcNamed "notary/notarylaw20.ReplayMemory" = some 6 by kernel_rfl).symm.trans hf) |>.symm
      obtain rfl : fn = Tryz.f6 := (Option.some.inj (Tryz.func6.symm.trans hfn)).symm
      exact ⟨by kernel_rfl, fun j t ht => by
        rw [Tryz.params6] at ht
        have hm : t ∈ [3, 22, 57] := by simpa using Array.mem_of_getElem? ht
        have hall : ([3, 22, 57].all fun u => !Tryz.prog.wantsStandIn u) = true := by kernel_rfl
        exact (show Tryz.prog.wantsStandIn t = false by simpa using List.all_eq_true.1 hall t hm)⟩)
    (by kernel_rfl)
#print axioms replayMemory_holds
end Go.Proofs.YtpnakfeafekneaaGreatDoor
