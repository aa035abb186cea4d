/- Part 12 of this proof. -/
import Derived.Test.YtpnakfeafekneaaGreatDoorG11
set_option linter.unusedSimpArgs false
set_option linter.unusedVariables false
set_option maxHeartbeats 8000000
set_option maxRecDepth 100000
namespace Go.Proofs.YtpnakfeafekneaaGreatDoor
open Go.RowKit
theorem Wf (p:List UInt8)(A:Option Addr)(c:Nat)(w:World)(hp:Rd w A (p.map b8))(hlen:p.length<1099511627776):
 Calls Tryz.prog 159 #[.slice A p.length c] w fun e w'=>XN w 5 1 (Dg.leafIn p).length ((Dg.leafIn p).map b8) e w':=by
 go_enter Tryz.func159,Tryz.ntmps159
 go_wp2_with (go_at_call 190;refine (K9 0 p A c w hp hlen).mono ?_;rintro e w1 ⟨v,rfl,h⟩;have HN:=hid h;clear h)
 go_ret
 exact⟨v,rfl,HN.out⟩
theorem Qbh (p:List UInt8)(A:Option Addr)(c:Nat)(w:World)(hp:Rd w A (p.map b8))(hlen:p.length<1099511627776):
 Calls Tryz.prog 138 #[.slice A p.length c] w fun e w'=>XN w 5 1 (Dg.keyIn p).length ((Dg.keyIn p).map b8) e w':=by
 go_enter Tryz.func138,Tryz.ntmps138
 go_wp2_with (go_at_call 190;refine (K9 2 p A c w hp hlen).mono ?_;rintro e w1 ⟨v,rfl,h⟩;have HN:=hid h;clear h)
 go_ret
 exact⟨v,rfl,HN.out⟩
theorem Qdb (n:Nat)(h1:1≤n)(h2:n≤32)(p:List UInt8)(A:Option Addr)(c:Nat)(w:World)(hp:Rd w A (p.map b8))(hw:Qs w)(hlen:p.length<1099511627776):
 Calls Tryz.prog 115 #[.int .i64 n,.slice A p.length c] w fun e w'=>e= .returned (.tuple #[dg (Dg.leaf n p),.int .i64 0])∧Below w.heap.size w w':=by
 have hcl:=Dg.sum_length n (Dg.leafIn p) h2
 have HC:=hid (show ((Dg.leaf n p).map b8).length=32 by unfold Dg.leaf;simp[hcl])
 have hil:(Dg.leafIn p).length<576460752303423488:=by simp[Dg.leafIn];omega
 have HL:=hid hil
 clear hcl hil
 go_enter Tryz.func115,Tryz.ntmps115
 go_upto_region 1 with fail
 refine Qe (Res w) (Res.new w) ?_
 rintro w1 hr
 have HR:=hid hr
 clear hr
 go_wp2_with (first
  |(go_at_call 159
    refine (Wf p A c w1 (hp.grown HR.out.bl) hlen).mono ?_
    rintro e w2 h
    obtain⟨A2,c2,rfl,hb,hrd,hc⟩:=Kh h
    have HV:=hid (Qa hb (Qa hrd hc));clear hb hrd hc h)
  |(go_at_call 129
    refine (Z6 n h1 h2 _ (Dg.leafIn p) w2 ⟨_,_,rfl,HV.out.2.1,HV.out.2.2⟩ ((HR.out.words hw).below HV.out.1) HL.out).mono ?_
    rintro e w3 ⟨rfl,hb⟩
    have hb2:Below w1.heap.size w1 w3:=HV.out.1.trans (hb.mono HV.out.1.size)
    have ht:=HR.out.there hb2;have HB:=hid hb2;clear hb hb2)
  |((with_reducible refine Qv 40 (.tmp 4) (.tmp 11) w.heap.size 0 ((Dg.leaf n p).map b8) 32 HC.out ht (by kernel_rfl) (Qi _) ?_ ?_ ?_ ?_ ?_);rfl;rfl;rfl;rfl))
 exact Zl HC.out ht (HR.out.below HB.out) rfl rfl rfl rfl (fun _ h=>⟨rfl,h⟩)
theorem Qan (n:Nat)(h1:1≤n)(h2:n≤32)(p:List UInt8)(A:Option Addr)(c:Nat)(w:World)(hp:Rd w A (p.map b8))(hw:Qs w)(hlen:p.length<1099511627776):
 Calls Tryz.prog 88 #[.int .i64 n,.slice A p.length c] w fun e w'=>e= .returned (.tuple #[dg (Dg.key n p),.int .i64 0])∧Below w.heap.size w w':=by
 have hcl:=Dg.sum_length n (Dg.keyIn p) h2
 have HC:=hid (show ((Dg.key n p).map b8).length=32 by unfold Dg.key;simp[hcl])
 have hil:(Dg.keyIn p).length<576460752303423488:=by simp[Dg.keyIn];omega
 have HL:=hid hil
 clear hcl hil
 go_enter Tryz.func88,Tryz.ntmps88
 go_upto_region 1 with fail
 refine Qe (Res w) (Res.new w) ?_
 rintro w1 hr
 have HR:=hid hr
 clear hr
 go_wp2_with (first
  |(go_at_call 138
    refine (Qbh p A c w1 (hp.grown HR.out.bl) hlen).mono ?_
    rintro e w2 h
    obtain⟨A2,c2,rfl,hb,hrd,hc⟩:=Kh h
    have HV:=hid (Qa hb (Qa hrd hc));clear hb hrd hc h)
  |(go_at_call 129
    refine (Z6 n h1 h2 _ (Dg.keyIn p) w2 ⟨_,_,rfl,HV.out.2.1,HV.out.2.2⟩ ((HR.out.words hw).below HV.out.1) HL.out).mono ?_
    rintro e w3 ⟨rfl,hb⟩
    have hb2:Below w1.heap.size w1 w3:=HV.out.1.trans (hb.mono HV.out.1.size)
    have ht:=HR.out.there hb2;have HB:=hid hb2;clear hb hb2)
  |((with_reducible refine Qv 40 (.tmp 4) (.tmp 11) w.heap.size 0 ((Dg.key n p).map b8) 32 HC.out ht (by kernel_rfl) (Qi _) ?_ ?_ ?_ ?_ ?_);rfl;rfl;rfl;rfl))
 exact Zl HC.out ht (HR.out.below HB.out) rfl rfl rfl rfl (fun _ h=>⟨rfl,h⟩)
end Go.Proofs.YtpnakfeafekneaaGreatDoor
