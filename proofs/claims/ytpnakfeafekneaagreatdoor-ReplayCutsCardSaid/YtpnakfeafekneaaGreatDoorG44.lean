/- ReplayCuts, the tied card: for every width, every list of entries and every two lists of cuts the law answers true and its arguments read behind the call as before. Conditions: those of the card's row (the table notary/sha.words laid by the program's text). -/
import Derived.Test.YtpnakfeafekneaaGreatDoorTie
import Derived.Test.YtpnakfeafekneaaGreatDoorCards
import Derived.SevenTiedAt
import Derived.Test.YtpnakfeafekneaaGreatDoorG43
set_option linter.unusedSimpArgs false
set_option linter.unusedVariables false
set_option maxHeartbeats 8000000
set_option maxRecDepth 100000
namespace Go.Proofs.YtpnakfeafekneaaGreatDoor
open Go
theorem replayCuts_holds:Rows.ReplayCutsCardSaid:=
 Claim7.holds_tied_plain_at .later [] [.data] true (true,"51ecbcafb165b4fa46930aaccd5d2161bf7b512c55bfeda0de22a439d9503b89") true
  YD (fun _ h=>by cases h) (by kernel_rfl) (fun _ h=>by cases h) replayCuts_row_tie rfl ⟨rfl,rfl⟩ (by kernel_rfl) rfl
  (fun f fn hf hfn=>by
    obtain rfl:f=7:=Option.some.inj ((show Tryz.prog.funcNamed "notary/notarylaw20.ReplayCuts" =some 7 by kernel_rfl).symm.trans hf) |>.symm
    obtain rfl:fn=Tryz.f7:=(Option.some.inj (Tryz.func7.symm.trans hfn)).symm
    exact⟨by kernel_rfl,fun j t ht=>by
     rw[Tryz.params7] at ht
     have hm:t∈[3,22,57,57]:=by simpa using Array.mem_of_getElem? ht
     have hall:([3,22,57,57].all fun u=>!Tryz.prog.wantsStandIn u)=true:=by kernel_rfl
     exact (show Tryz.prog.wantsStandIn t=false by simpa using List.all_eq_true.1 hall t hm)⟩)
  (by kernel_rfl)
#print axioms replayCuts_holds
end Go.Proofs.YtpnakfeafekneaaGreatDoor
