/- ReplayBuilds, the second form's tied card: where what it reads is of bulk at most 1048576, for every width and every list of batches the law answers true and its arguments read behind the call as before. Conditions: those of the card's row (the bulk; the table notary/sha.words laid by the program's text). -/
import Derived.Test.YtpnakfeafekneaaGreatDoorTie
import Derived.Test.YtpnakfeafekneaaGreatDoorCards
import Derived.SevenTiedAt
import Derived.Test.YtpnakfeafekneaaGreatDoorG48
set_option linter.unusedSimpArgs false
set_option linter.unusedVariables false
namespace Go.Proofs.YtpnakfeafekneaaGreatDoor
open Go
theorem replayBuilds_holds : Rows.ReplayBuildsUptoCardSaid :=
  Claim7.holds_tied_plain_at .later [] [.data] true (true, "51ecbcafb165b4fa46930aaccd5d2161bf7b512c55bfeda0de22a439d9503b89") true
    replayBuildsUpto_row (fun _ h => by cases h) (by kernel_rfl) (fun _ h => by cases h) replayBuildsUpto_row_tie rfl ⟨rfl, rfl⟩ (by kernel_rfl) rfl
    (fun f fn hf hfn => by
      obtain rfl : f = 5 := Option.some.inj ((show Tryz.prog.funcNamed "notary/notarylaw20.ReplayBuilds" = some 5 by kernel_rfl).symm.trans hf) |>.symm
      obtain rfl : fn = Tryz.f5 := (Option.some.inj (Tryz.func5.symm.trans hfn)).symm
      exact ⟨by kernel_rfl, fun j t ht => by
        rw [Tryz.params5] at ht
        have hm : t ∈ [3, 44] := by simpa using Array.mem_of_getElem? ht
        have hall : ([3, 44].all fun u => !Tryz.prog.wantsStandIn u) = true := by kernel_rfl
        exact (show Tryz.prog.wantsStandIn t = false by simpa using List.all_eq_true.1 hall t hm)⟩)
    (by kernel_rfl)
#print axioms replayBuilds_holds
end Go.Proofs.YtpnakfeafekneaaGreatDoor
