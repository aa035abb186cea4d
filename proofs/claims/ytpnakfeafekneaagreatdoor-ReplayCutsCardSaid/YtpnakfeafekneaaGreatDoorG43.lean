/- Part 43 of this proof. -/
import Derived.Test.YtpnakfeafekneaaGreatDoorG37
import Derived.Test.YtpnakfeafekneaaGreatDoorG38
import Derived.Test.YtpnakfeafekneaaGreatDoorG42
set_option linter.unusedSimpArgs false
set_option linter.unusedVariables false
set_option maxHeartbeats 8000000
set_option maxRecDepth 100000
namespace Go.Proofs.YtpnakfeafekneaaGreatDoor
open Go.RowKit
theorem Qac (x:Int)(A:Option Addr)(m c:Nat)(v u:Value)(w:World)(hw:Qs w)(h200:200<m):
 Calls Tryz.prog 7 #[.int .i64 x,.slice A m c,v,u] w fun e w'=>e= .returned (.bool true)∧Below w.heap.size w w':=by
 have hi:(200:Int)< (m:Int):=by omega
 go_enter Tryz.func7,Tryz.ntmps7
 go_wp2_with (go_at_call 8
              refine (KD w hw).mono ?_
              rintro e w1 ⟨rfl,hb1⟩
              have H1:=hid hb1
              clear hb1)
 go_ret
 exact⟨rfl,H1.out⟩
theorem Qad (x:Int)(es:List Ent)(A:Option Addr)(m c:Nat)(v u:Value)(L:List (List Value))(w:World)(hw:Qs w)(hm:es.length=m)(hA:Rd w A L.flatten)(hE:QK w L es)(h200:¬200<m)(hx:¬(1≤x∧x≤32)):
 Calls Tryz.prog 7 #[.int .i64 x,.slice A m c,v,u] w fun e w'=>e= .returned (.bool true)∧Below w.heap.size w w':=by
 have hi:¬(200:Int)< (m:Int):=by omega
 have HA:=hid (Qa hA (Qa hE (Qa hm (Qa hw hx))))
 clear hA hE hm hw hx
 go_enter Tryz.func7,Tryz.ntmps7
 go_wp2_with (first
  |(go_at_call 14
    refine (Yr x w2).mono ?_
    rintro e w3 ⟨rfl,rfl⟩
    rw[if_neg HA.out.2.2.2.2])
  |(go_at_call 13
    refine (US es A m c L w1 HA.out.2.2.1 (HA.out.1.grown H1.out) (HA.out.2.1.grown H1.out) (by omega)).mono ?_
    rintro e w2 ⟨A2,k,c2,L2,rfl,hb2,hk2,hkc,hr2,he2⟩
    have H2:=hid (Qa (gro H1.out hb2) (Qa hk2 (Qa hkc (Qa hr2 he2))))
    clear hb2 hk2 hkc hr2 he2)
  |(go_at_call 8
    refine (KD w HA.out.2.2.2.1).mono ?_
    rintro e w1 ⟨rfl,hb1⟩
    have H1:=hid hb1
    clear hb1))
 go_ret
 exact⟨rfl,H2.out.1⟩
theorem Qhe (n:Nat)(gs:List Ent)(k v:Nat)(hv:v<k+1):(QI (Rl n gs k))[v]?=some (Qd (Sn.root n (gs.take v))):=by
 simp[QI,Rl,List.getElem?_map,hv]
theorem Qe9 {w:World}{A:Option Addr}{n:Nat}{gs:List Ent}{k:Nat}(hr:Rd w A (QI (Rl n gs k)).flatten)(hl:∀ x∈QI (Rl n gs k),x.length=65):∃ g o,A=some ⟨g,o,none⟩∧∀ v,v<k+1→w.rangeAt g (o+v*65) (Qd (Sn.root n (gs.take v))):=by
 have hlen:(QI (Rl n gs k)).length=k+1:=by unfold QI;rw[List.length_map,WL]
 obtain⟨g,o,e,hr⟩:=hr (by
  intro e
  have:=Qk 65 _ hl
  rw[e] at this
  simp at this;omega)
 refine⟨g,o,e,fun v hv=>?_⟩
 have:=Qt hr hl v (by omega)
 have e2:=Qhe n gs k v hv
 rw[List.getElem?_eq_getElem (by omega)] at e2
 rwa [Option.some.inj e2] at this
theorem Qae (D:List UInt8)(hl:D.length=32)(w:World):(binOp .neq 40 (.agg (D.map b8).toArray) (.agg (D.map b8).toArray)).run Tryz.prog w= .ok (.bool false) w:=by
 have:=X6 (P:=Tryz.prog) Tryz.underlying40 Tryz.underlying5 (by kernel_rfl) D D hl hl w
 simpa using this
theorem U6 (S b n:Nat)(es:List Ent)(rs:List Rt)(m v:Nat)(w:World)(hs:QJ S w n b es rs)(hpre:Pre n es rs)(hm:rs.length=m)(hm20:m<1048576)(hel:es.length<1048576)(hve:v≤es.length):
 Calls Tryz.prog 32 #[ptr b,.int .u64 v] w fun e w'=>∃ (Z:List Value) (q:Int),e= .returned (.tuple #[.agg Z.toArray,.int .i64 q])∧Z.length=65∧(∀ u∈Z,u.oneCell'=true)∧Below w.heap.size w w'∧((q=0∧Z=Qd (Sn.root n (es.take v)))∨(q=5∧¬∃ r∈rs,r.size=v)):=by
 by_cases hv:∃ r∈rs,r.size=v
 ·refine (Qcn S b n es rs m v w hs hpre hm hm20 hel hv).mono ?_
  rintro e w' ⟨rfl,hb⟩
  obtain⟨r,hr,rfl⟩:=hv
  have hrr:=(hpre r hr).1
  refine⟨_,0,rfl,?_,Jf _,hb,.inl ⟨rfl,rfl⟩⟩
  rw[← hrr]
  obtain⟨tb,mb,Ae,ce,Le,Ap,cp,-,-,-,-,-,-,hok⟩:=hs
  exact XG (hok r hr)
 ·refine (Qe8 S b n es rs m v w hs hm hm20 hel hve (fun i hi h=>hv ⟨rs[i],List.getElem_mem hi,h⟩)).mono ?_
  rintro e w' ⟨Z,rfl,h1,h2,hb⟩
  exact⟨Z,5,rfl,h1,h2,hb,.inr ⟨rfl,hv⟩⟩
theorem Qc0 {n k:Nat}{es:List Ent}{rs rt:List Rt}(h1:Pre n es rs)(h2:Pre n es rt)(hk:es.length=k)(j:Nat)(hj:j<rs.length+rt.length):∃ v:Nat,(Jx rs++Jx rt)[j]?=some (.int .u64 v)∧v≤k∧((∃ r∈rs,r.size=v)∨∃ r∈rt,r.size=v):=by
 have e:Jx rs++Jx rt=(rs++rt).map fun r=> .int .u64 r.size:=by simp[Jx]
 have hj2:j< (rs++rt).length:=by rw[List.length_append];exact hj
 have hm:=List.getElem_mem hj2
 refine⟨(rs++rt)[j].size,by rw[e,List.getElem?_map,List.getElem?_eq_getElem hj2];rfl,?_,?_⟩
 ·rw[← hk]
  rcases List.mem_append.1 hm with h|h
  ·exact (h1 _ h).2
  ·exact (h2 _ h).2
 ·rcases List.mem_append.1 hm with h|h
  ·exact .inl ⟨_,h,rfl⟩
  ·exact .inr ⟨_,h,rfl⟩
theorem KI (A1:Option Addr)(c1:Nat)(A2:Option Addr)(c2:Nat)(l:List UInt8)(w:World)(h1:Rd w A1 (l.map b8))(h2:Rd w A2 (l.map b8))(hl:l.length<1099511627776):
 Calls Tryz.prog 36 #[.slice A1 l.length c1,.slice A2 l.length c2] w fun e w'=>e= .returned (.bool true)∧Below w.heap.size w w':=
 (Yu A1 l.length c1 l A2 l.length c2 l w rfl rfl h1 h2 hl hl).mono fun _ _ ⟨e,h⟩=>⟨by rw[e,beq_self_eq_true],h⟩
theorem Jw {w w':World}{b:Nat}{t:TypeId}{x y z:Value}(h:Blk w b t [x,y,z])(hb:Below w.heap.size w w'):w'.cell? ⟨b,1,none⟩=some y:=by rw[(h.grown hb).cell];rfl
theorem Qc1 (n:Nat)(h1:1≤n)(h2:n≤32)(es:List Ent)(zs ys:List Int)(A Ac Ad:Option Addr)(m c q cc p cd:Nat)(L:List (List Value))(w:World)(hw:Qs w)(hm:es.length=m)(hA:Rd w A L.flatten)(hE:QK w L es)(hq:zs.length=q)(hZ:Rd w Ac (zs.map fun z=> .int .i64 z))(hqb:q<9223372036854775808)
 (hp:ys.length=p) (hY:Rd w Ad (ys.map fun z=> .int .i64 z)) (hpb:p<9223372036854775808) (h200:¬200<m):
 Calls Tryz.prog 7 #[.int .i64 n,.slice A m c,.slice Ac q cc,.slice Ad p cd] w fun e w'=>e= .returned (.bool true)∧Below w.heap.size w w':=by
 have hi:¬(200:Int)< (m:Int):=by omega
 have HA:=hid (Qa hA (Qa hE (Qa hm (Qa hw (Qa h1 h2)))))
 have HZ:=hid (Qa hq (Qa hZ hqb))
 have HY:=hid (Qa hp (Qa hY hpb))
 clear hA hE hm hw h1 h2 hq hZ hqb hp hY hpb
 go_enter Tryz.func7,Tryz.ntmps7
 go_upto_region 8 with (first
  |(go_at_call 14
    refine (Yr n w2).mono ?_
    rintro e w3 ⟨rfl,rfl⟩
    rw[if_pos (show 1≤(n:Int)∧(n:Int)≤32 by have:=HA.out.2.2.2.2;omega)])
  |(go_at_call 13
    refine (US es A m c L w1 HA.out.2.2.1 (HA.out.1.grown H1.out) (HA.out.2.1.grown H1.out) (by omega)).mono ?_
    rintro e w2 ⟨A2,k,c2,L2,rfl,hb2,hk2,hkc,hr2,he2⟩
    have hle:=En.good_le es
    have hk200:k≤200:=(by have:=HA.out.2.2.1;omega)
    have hkey:∀ e∈En.good es,e.key.length≤64∧e.val.length≤256:=(fun e he=>En.good_key he)
    have hok:∀ e∈En.good es,En.check e=0:=(fun e he=>En.good_ok he)
    obtain⟨gs,hgs⟩:∃ gs,gs=En.good es:=⟨_,rfl⟩
    rw[← hgs] at hk2 he2 hkey hok
    have H2:=hid (Qa (gro H1.out hb2) (Qa hk2 (Qa hkc (Qa hr2 (Qa (he2.grown hb2) hkey)))))
    have HG:=hid hok
    clear hb2 hk2 hr2 he2 hle hok hkey hgs)
  |(go_at_call 8
    refine (KD w HA.out.2.2.2.1).mono ?_
    rintro e w1 ⟨rfl,hb1⟩
    have H1:=hid hb1
    clear hb1))
 have hfacts:∀ zs:List Int,(Cu.cut zs gs).flatten=gs∧(Cu.cut zs gs).length≤k∧(∀ i,i< (Cu.cut zs gs).length→Bl.err (Cu.firsts (Cu.cut zs gs)) (Cu.cut zs gs) i=0):=fun zs=>by
  have hcf:=Qcq zs gs
  refine⟨hcf.1,by rw[← H2.out.2.1];exact hcf.2.1,Cu.err_zero (by rw[hcf.1];exact HG.out) hcf.2.2 (by rw[hcf.1,H2.out.2.1];omega)⟩
 obtain⟨bs,hbs⟩:∃ bs,bs=Cu.cut zs gs:=⟨_,rfl⟩
 obtain⟨M,hM⟩:∃ M,M=bs.length:=⟨_,rfl⟩
 obtain⟨bt,hbt⟩:∃ bt,bt=Cu.cut ys gs:=⟨_,rfl⟩
 obtain⟨N,hN⟩:∃ N,N=bt.length:=⟨_,rfl⟩
 have hf1:=hfacts zs
 have hf2:=hfacts ys
 rw[← hbs,←hM] at hf1
 rw[← hbt,←hN] at hf2
 have hMk:=hf1.2.1
 have hNk:=hf2.2.1
 have HBS:=hid (Qa hbs (Qa hM hf1))
 have HBT:=hid (Qa hbt (Qa hN hf2))
 clear hbs hM hbt hN hf1 hf2 hfacts
 have hk1:IntKind.i64.wrap ((k:Int)+1)=(k:Int)+1:=by rw[IntKind.wrap_i64];omega
 go_upto_region 13 with (first
  |(go_at_call 9
    refine (UW n HA.out.2.2.2.2.1 HA.out.2.2.2.2.2 gs A2 k c2 L2 w6 (HA.out.2.2.2.1.below (gro H2.out.1 H6.out.1)) H2.out.2.1 (H2.out.2.2.2.1.grown H6.out.1) (H2.out.2.2.2.2.1.grown H6.out.1) (by omega) (En.all_of HG.out)).mono ?_
    rintro e w7 ⟨hb7,Ar,cr,rfl,hr7,ht7⟩
    have H7:=hid (Qa (gro H6.out.1 hb7) (Qa (H6.out.2.1.grown hb7) (Qa (H6.out.2.2.grown hb7) hr7)))
    clear hb7 hr7 ht7)
  |(go_at_call 19
    have hq5:=H5
    clear hq5
    refine (Qek n HA.out.2.2.2.2.1 HA.out.2.2.2.2.2 bt (Cu.firsts bt) A5 N c5 X5 w5 (HA.out.2.2.2.1.below (gro H2.out.1 H5.out.1)) HBT.out.2.1.symm H5.out.2.2.1 H5.out.2.2.2 HBT.out.2.2.2.2 (by omega) (by rw[HBT.out.2.2.1,H2.out.2.1];omega) (Lo.zero _)).mono ?_
    rintro e w6 ⟨b6,S6,rfl,hb6,hs6⟩
    rw[HBT.out.2.2.1] at hs6
    have H6:=hid (Qa (gro H5.out.1 hb6) (Qa (H5.out.2.1.grown hb6) hs6))
    clear hb6 hs6)
  |(go_at_call 23
    have hq4:=H4
    clear hq4
    refine (Qen bt N A2 Ad k c2 p cd L2 gs ys w4 HBT.out.1 HBT.out.2.1.symm H2.out.2.1 HY.out.1 (H2.out.2.2.2.1.grown H4.out.1) (H2.out.2.2.2.2.1.grown H4.out.1) (HY.out.2.1.grown (gro H2.out.1 H4.out.1)) (by omega) H2.out.2.2.1 HY.out.2.2).mono ?_
    rintro e w5 ⟨A5,c5,X5,rfl,hb5,hr5,hx5⟩
    have H5:=hid (Qa (gro H4.out.1 hb5) (Qa (H4.out.2.grown hb5) (Qa hr5 hx5)))
    clear hb5 hr5 hx5)
  |(go_at_call 19
    refine (Qek n HA.out.2.2.2.2.1 HA.out.2.2.2.2.2 bs (Cu.firsts bs) A3 M c3 X3 w3 (HA.out.2.2.2.1.below (gro H2.out.1 H3.out.1)) HBS.out.2.1.symm H3.out.2.1 H3.out.2.2 HBS.out.2.2.2.2 (by omega) (by rw[HBS.out.2.2.1,H2.out.2.1];omega) (Lo.zero _)).mono ?_
    rintro e w4 ⟨b4,S4,rfl,hb4,hs4⟩
    rw[HBS.out.2.2.1] at hs4
    have H4:=hid (Qa (gro H3.out.1 hb4) hs4)
    clear hb4 hs4)
  |(go_at_call 23
    refine (Qen bs M A2 Ac k c2 q cc L2 gs zs w2 HBS.out.1 HBS.out.2.1.symm H2.out.2.1 HZ.out.1 H2.out.2.2.2.1 H2.out.2.2.2.2.1 (HZ.out.2.1.grown H2.out.1) (by omega) H2.out.2.2.1 HZ.out.2.2).mono ?_
    rintro e w3 ⟨A3,c3,X3,rfl,hb3,hr3,hx3⟩
    have H3:=hid (Qa hb3 (Qa hr3 hx3))
    clear hb3 hr3 hx3))
 have hok:=Sn.root_ok2 n HA.out.2.2.2.2.2 gs (by have:=H2.out.2.1;omega)
 have hrl:=XG hok
 have hne:=J6 _ hok
 have hrows:=Xk (Qhz n HA.out.2.2.2.2.2 gs k (by omega))
 obtain⟨gr,og,rfl,hrr⟩:=Qe9 H7.out.2.2.2 hrows
 have hpk:w7.rangeAt gr (og+k*65) (Qd (Sn.root n gs)):=by
  have:=hrr k (by omega)
  rwa [List.take_of_length_le (by rw[H2.out.2.1];exact Nat.le_refl _)] at this
 have hdl:(Dg.root n (Sn.root n gs)).length=32:=Dg.sum_length n _ HA.out.2.2.2.2.2
 have hnd:=Qae _ hdl
 have hw7:=HA.out.2.2.2.1.below (gro H2.out.1 H7.out.1)
 have hs1:∀ s:Fut w7,Calls Tryz.prog 29 #[ptr b4] s.v fun e w''=>e= .returned (.agg (Qd (Sn.root n gs)).toArray)∧∃ s':Fut w7,w''=s'.v:=fun s=>Calls.fut_of (XH s.v (H7.out.2.1.grown s.below) (by rw[Xn];omega))
 have hs2:∀ s:Fut w7,Calls Tryz.prog 29 #[ptr b6] s.v fun e w''=>e= .returned (.agg (Qd (Sn.root n gs)).toArray)∧∃ s':Fut w7,w''=s'.v:=fun s=>Calls.fut_of (XH s.v (H7.out.2.2.1.grown s.below) (by rw[Xn];omega))
 have hd1:∀ s:Fut w7,Calls Tryz.prog 30 #[ptr b4] s.v fun e w''=>e= .returned (.agg ((Dg.root n (Sn.root n gs)).map b8).toArray)∧∃ s':Fut w7,w''=s'.v:=fun s=>Calls.fut_of (KU S4 n b4 HA.out.2.2.2.2.1 HA.out.2.2.2.2.2 gs _ s.v (H7.out.2.1.grown s.below) (by rw[Xn];omega) (hw7.below s.below))
 have hd2:∀ s:Fut w7,Calls Tryz.prog 30 #[ptr b6] s.v fun e w''=>e= .returned (.agg ((Dg.root n (Sn.root n gs)).map b8).toArray)∧∃ s':Fut w7,w''=s'.v:=fun s=>Calls.fut_of (KU S6 n b6 HA.out.2.2.2.2.1 HA.out.2.2.2.2.2 gs _ s.v (H7.out.2.2.1.grown s.below) (by rw[Xn];omega) (hw7.below s.below))
 obtain⟨R,hR⟩:∃ R,R=Qd (Sn.root n gs):=⟨_,rfl⟩
 obtain⟨D,hD⟩:∃ D,D=Dg.root n (Sn.root n gs):=⟨_,rfl⟩
 rw[← hR] at hrl hne hpk hs1 hs2
 rw[← hD] at hdl hnd hd1 hd2
 have HC:=hid (Qa hs1 (Qa hs2 (Qa hd1 (Qa hd2 (QA hpk)))))
 have HRR:=hid hrr
 clear hs1 hs2 hd1 hd2 hpk hR hD hok hrows hw7 hrr
 refine Qr (by kernel_rfl) (by kernel_rfl) ?_
 repeat (first
  |(go_big_quiet_want;(with_reducible refine QG 42 (.tmp 106) gr (og+k*65) R 65 _ hrl HC.out.2.2.2.2 Tryz.underlying42 rfl (by kernel_rfl) ?_ ?_ ?_);rfl;rfl;simp only[Act.put,List.setIfInBounds_toArray,List.set_cons_zero,List.set_cons_succ];go_big_quiet_on)
  |go_big_quiet_step (first|with_reducible exact HC.out.1 _|with_reducible exact HC.out.2.1 _|with_reducible exact HC.out.2.2.1 _|with_reducible exact HC.out.2.2.2.1 _))
 refine wpQuiet_nil ?_
 rintro _ ⟨s,rfl⟩
 have hb8:=gro H7.out.1 s.below
 have hs4:=H7.out.2.1.grown s.below
 have hs6:=H7.out.2.2.1.grown s.below
 have hr8:∀ v,v<k+1→s.v.rangeAt gr (og+v*65) (Qd (Sn.root n (gs.take v))):=fun v hv=>Qm (HRR.out v hv) s.below
 obtain⟨w8,hw8⟩:∃ w8,w8=s.v:=⟨_,rfl⟩
 rw[← hw8] at hb8 hs4 hs6 hr8 ⊢
 have hp4:=Qa3 n bs M
 have hp6:=Qa3 n bt N
 rw[HBS.out.2.2.1] at hp4
 rw[HBT.out.2.2.1] at hp6
 obtain⟨T,hT⟩:∃ T,T=M+1+(N+1):=⟨_,rfl⟩
 have hT9:T<1048576:=by omega
 have hou:∀ u∈Jx (Rbs n bt N),u.oneCell'=true:=fun u hu=>by
  unfold Jx at hu
  obtain⟨r,-,rfl⟩:=List.mem_map.1 hu
  rfl
 have hnl:(Jx (Rbs n bt N)).length=(N+1)*1:=by unfold Jx;rw[List.length_map,Xn];omega
 have h63:M+1+(N+1)≤maxLen:=by simp only[maxLen];omega
 have hby:(M+1+(N+1))*8≤140737488355328:=by omega
 have hget:∀ j,j<T→∃ v:Nat,(Jx (Rbs n bs M)++Jx (Rbs n bt N))[j]?=some (.int .u64 v)∧v≤k∧((∃ r∈Rbs n bs M,r.size=v)∨∃ r∈Rbs n bt N,r.size=v):=fun j hj=>Qc0 hp4 hp6 H2.out.2.1 j (by rw[Xn,Xn,←hT];exact hj)
 have H8:=hid (Qa hb8 (Qa hs4 (Qa hs6 (Qa hr8 (Qa hp4 (Qa hp6 hget))))))
 have HT:=hid hT
 clear hb8 hs4 hs6 hr8 hp4 hp6 hget hw8 s hT H7 HC HRR hrl hne hdl hnd
 go_wp2_with (first
  |(go_at_call 31
    refine (UU S6 b6 n gs (Rbs n bt N) (N+1) w9 (H8.out.2.2.1.grown H9.out.1) (Xn _ _ _) (by omega)).mono ?_
    rintro e w10 ⟨A10,c10,rfl,hb10,ho10⟩
    have ho9:=Qg H9.out.2 hb10
    obtain⟨A10',c10',e10,hr10,-⟩:=QC ho10
    cases e10
    have hb10:=gro H9.out.1 hb10
    have hbs10:=hb10.size
    have H10:=hid (Qa hb10 (Qa ho9 hr10))
    clear hb10 ho9 hr10 ho10)
  |(go_at_call 31
    refine (UU S4 b4 n gs (Rbs n bs M) (M+1) w8 H8.out.2.1 (Xn _ _ _) (by omega)).mono ?_
    rintro e w9 ⟨A9,c9,rfl,hb9,ho9⟩
    have H9:=hid (Qa hb9 ho9)
    clear hb9 ho9)
  |((with_reducible refine Q1 (.tmp 118) (.tmp 120) 52 Tryz.underlying52 UT rfl (by decide) H10.out.2.1 (N+1) c10 hnl H10.out.2.2 hou h63 hby hbs10 ?_ ?_ ?_ ?_ ?_);rfl;rfl;rfl;rfl
    intro v11 w11 hn1 hn2 hn3 hn4
    obtain⟨A11,c11,rfl,hr11,-⟩:=QC hn1
    have hb11:=QB H10.out.2.1 H10.out.1 hbs10 hn2
    have H11:=hid (Qa hb11 hr11)
    rw[← HT.out]
    clear hn1 hn2 hn3 hn4 hr11 hb11))
 clear hnl hou h63 hby hbs10
 go_loopg [123] T (fun g i wr=>∃ j:Nat,j+g=T∧i= .int .i64 j∧Below w11.heap.size w11 wr)
 case atStart=>exact⟨0,by omega,rfl,Below.refl _ _⟩
 case round=>
  obtain⟨j,hj,rfl,hbl⟩:=hrel
  have HR:=hid (Qa hbl (gro H11.out.1 hbl))
  clear hbl
  by_cases hlt:j<T
  ·obtain⟨v,hv,hvk,hvm⟩:=H8.out.2.2.2.2.2.2 j hlt
   obtain⟨ga,oa,rfl,hra⟩:=H11.out.2 (fun e=>by rw[e] at hv;simp at hv)
   have ka:wr.cell? ⟨ga,oa+j,none⟩=some (.int .u64 v):=Qeo (hra j _ hv) HR.out.1
   have hp1:=U6 S4 b4 n gs (Rbs n bs M) (M+1) v wr (H8.out.2.1.grown HR.out.2) H8.out.2.2.2.2.1 (Xn _ _ _) (by omega) (by rw[H2.out.2.1];omega) (by rw[H2.out.2.1];exact hvk)
   have hp2:=fun (w':World) (h:Below wr.heap.size wr w')=>U6 S6 b6 n gs (Rbs n bt N) (N+1) v w' (H8.out.2.2.1.grown (gro HR.out.2 h)) H8.out.2.2.2.2.2.1 (Xn _ _ _) (by omega) (by rw[H2.out.2.1];omega) (by rw[H2.out.2.1];exact hvk)
   have hRv:=H8.out.2.2.2.1 v (by omega)
   have HX:=hid (Qa hp1 (Qa hp2 (Qa hvm hRv)))
   clear hp1 hp2 hvm hRv hv hra
   go_upto_region 20 with (first
    |(go_at_call 32
      refine (HX.out.2.1 (w12.alloc (.cells Z1.toArray 42)) (gro H12.out.1 (Qb _ _))).mono ?_
      rintro e w13 ⟨Z2,q2,rfl,hz2,ho2,hb13,hc2⟩
      have H13:=hid (Qa hb13 hc2)
      clear hb13 hc2)
    |(go_at_call 32
      refine HX.out.1.mono ?_
      rintro e w12 ⟨Z1,q1,rfl,hz1,ho1,hb12,hc1⟩
      have H12:=hid (Qa hb12 hc1)
      clear hb12 hc1)
    |((with_reducible refine Qw 42 (.tmp 19) (.tmp 137) _ _ Z2 65 hz2 ?_ (by kernel_rfl) ho2 ?_ ?_ ?_ ?_ ?_);rfl;rfl;rfl;rfl;rfl)
    |((with_reducible refine Qw 42 (.tmp 17) (.tmp 131) _ _ Z1 65 hz1 ?_ (by kernel_rfl) ho1 ?_ ?_ ?_ ?_ ?_);rfl;rfl;rfl;rfl;rfl))
   have hb14:=gro (gro H12.out.1 (Qb w12 (.cells Z1.toArray 42))) (gro H13.out.1 (Qb w13 (.cells Z2.toArray 42)))
   have p1:=Qm (Blk.new w12 42 Z1).whole (gro H13.out.1 (Qb w13 (.cells Z2.toArray 42)))
   have p2:=(Blk.new w13 42 Z2).whole
   have pr:=Qm HX.out.2.2.2 (gro HR.out.2 hb14)
   obtain⟨w14,hw14⟩:∃ w14,w14=w13.alloc (.cells Z2.toArray 42):=⟨_,rfl⟩
   rw[← hw14] at hb14 p1 p2 pr ⊢
   have hok:=Sn.root_ok2 n HA.out.2.2.2.2.2 (gs.take v) (by rw[List.length_take];have:=H2.out.2.1;omega)
   have hrl:=XG hok
   have hne:=J6 _ hok
   obtain⟨R,hR⟩:∃ R,R=Qd (Sn.root n (gs.take v)):=⟨_,rfl⟩
   have f1:q1=0→∀ w',(∃ s:Fut w14,w'=s.v)→w'.rangeAt w12.heap.size 0 R:=fun h=>by
    rcases H12.out.2 with ⟨-,a⟩|⟨a,-⟩
    ·rw[hR,←a];exact QA p1
    ·omega
   have f2:q2=0→∀ w',(∃ s:Fut w14,w'=s.v)→w'.rangeAt w13.heap.size 0 R:=fun h=>by
    rcases H13.out.2 with ⟨-,a⟩|⟨a,-⟩
    ·rw[hR,←a];exact QA p2
    ·omega
   have hcs:(q1=0∧q2=0)∨(q1=0∧q2=5)∨(q1=5∧q2=0):=by
    rcases H12.out.2 with ⟨a,-⟩|⟨a,b⟩<;>rcases H13.out.2 with ⟨c,-⟩|⟨c,d⟩
    ·exact .inl ⟨a,c⟩
    ·exact .inr (.inl ⟨a,c⟩)
    ·exact .inr (.inr ⟨a,c⟩)
    ·exact absurd HX.out.2.2.1 (fun h=>h.elim b d)
   rw[← hR] at hrl hne pr
   have H14:=hid (Qa hb14 (Qa (QA pr) (Qa f1 f2)))
   clear hb14 p1 p2 pr hw14 hok hR f1 f2 hz1 hz2 ho1 ho2 H12 H13 HX
   rcases hcs with ⟨rfl,rfl⟩|⟨rfl,rfl⟩|⟨rfl,rfl⟩
   all_goals
    refine Qr (by kernel_rfl) (by kernel_rfl) ?_
    repeat (first
     |(go_big_quiet_want;(with_reducible refine QG 42 (.tmp 17) w12.heap.size 0 R 65 _ hrl (H14.out.2.2.1 rfl) Tryz.underlying42 rfl (by kernel_rfl) ?_ ?_ ?_);rfl;rfl;simp only[Act.put,List.setIfInBounds_toArray,List.set_cons_zero,List.set_cons_succ];go_big_quiet_on)
     |(go_big_quiet_want;(with_reducible refine QG 42 (.tmp 145) gr (og+v*65) R 65 _ hrl H14.out.2.1 Tryz.underlying42 rfl (by kernel_rfl) ?_ ?_ ?_);rfl;rfl;simp only[Act.put,List.setIfInBounds_toArray,List.set_cons_zero,List.set_cons_succ];go_big_quiet_on)
     |(go_big_quiet_want;(with_reducible refine QG 42 (.tmp 19) w13.heap.size 0 R 65 _ hrl (H14.out.2.2.2 rfl) Tryz.underlying42 rfl (by kernel_rfl) ?_ ?_ ?_);rfl;rfl;simp only[Act.put,List.setIfInBounds_toArray,List.set_cons_zero,List.set_cons_succ];go_big_quiet_on)
     |(go_big_quiet_want;(with_reducible refine QG 42 (.tmp 156) gr (og+v*65) R 65 _ hrl H14.out.2.1 Tryz.underlying42 rfl (by kernel_rfl) ?_ ?_ ?_);rfl;rfl;simp only[Act.put,List.setIfInBounds_toArray,List.set_cons_zero,List.set_cons_succ];go_big_quiet_on)
     |go_big_quiet_step (fail))
    refine wpQuiet_nil ?_
    rintro _ ⟨s,rfl⟩
    go_wp2_with fail
    go_roundg (gk-1)
    case measure=>omega
    case rel=>exact⟨j+1,by omega,by first|rfl|(rw [Vi j (by omega)])|go_num,gro HR.out.1 (gro H14.out.1 s.below)⟩
  ·obtain rfl:j=T:=by omega
   have HW:=hid HR.out.2
   clear HR
   go_wp2_with fail
   go_loopg [172] k (fun g i wx=>∃ q:Nat,q+g=k∧i= .int .i64 q∧Below w8.heap.size w8 wx)
   case atStart=>exact⟨0,by omega,rfl,HW.out⟩
   case round=>
    obtain⟨j,hj,rfl,hbx⟩:=hrel
    have HR:=hid hbx
    clear hbx
    by_cases hqk:j<k
    ·have hjg:j<gs.length:=by have:=H2.out.2.1;omega
     obtain⟨kind,key,val,hjj⟩:∃ kind key val,gs[j]?=some ⟨kind,key,val⟩:=⟨gs[j].kind,gs[j].key,gs[j].val,by simp[hjg]⟩
     have hL:=H2.out.2.2.2.2.1.len
     have hjl:j<L2.length:=by omega
     obtain⟨g,o,rfl,hr⟩:=H2.out.2.2.2.1 (by
      intro e
      have:=Qk 3 _ H2.out.2.2.2.2.1.three
      rw[e] at this
      simp at this;omega)
     have hp:=Qt hr H2.out.2.2.2.2.1.three j hjl
     have hbk:key.length≤64∧val.length≤256:=H2.out.2.2.2.2.2 _ (List.mem_of_getElem? hjj)
     obtain⟨A1,c1',A3,c3',hx,hr1,hr3,hc1,hc3⟩:=H2.out.2.2.2.2.1.at_ j L2[j] ⟨kind,key,val⟩ (by simp[hjl]) hjj
     rw[hx] at hp
     simp only[] at hp
     have hb2:=gro H8.out.1 HR.out
     have hp2:=Qh hp hb2 (Qo hp (by simp))
     have hoc:∀ v∈[b8 kind,.slice A1 key.length c1',.slice A3 val.length c3'],v.oneCell'=true:=fun v hv=>by
      simp only[List.mem_cons,List.not_mem_nil,or_false] at hv
      rcases hv with rfl|rfl|rfl<;>rfl
     have hwe:Blk (wr.alloc (.cells [b8 kind,.slice A1 key.length c1',.slice A3 val.length c3'].toArray 36)) wr.heap.size 36 [b8 kind,.slice A1 key.length c1',.slice A3 val.length c3']:=Blk.new wr _ _
     have hw2:=HA.out.2.2.2.1.below (gro H2.out.1 hb2)
     have hm:=QJ.bnd H8.out.2.1
     have hle:=Qe5 n HA.out.2.2.2.2.2 gs j ⟨kind,key,val⟩ (by rw[H2.out.2.1];omega) hjg (HG.out _ (List.mem_of_getElem? hjj))
     have hlk:=Qe6 n HA.out.2.2.2.2.1 HA.out.2.2.2.2.2 gs key hm hbk.1
     have hlg:=Qgl n HA.out.2.2.2.2.2 (Sn.map n gs) key hm
     have hE:∀ S b rs,QJ S w8 n b gs rs→rs.length<1048576→∀ w',Below wr.heap.size wr w'→Calls Tryz.prog 33 #[ptr b,.int .u64 j] w' fun e w''=>∃ A c,e= .returned (.tuple #[.slice A (Sn.entB n gs j ⟨kind,key,val⟩).length c,.int .i64 0])∧Below w'.heap.size w' w''∧Rd w'' A ((Sn.entB n gs j ⟨kind,key,val⟩).map b8):=fun S b rs hs hl w' h=>
      U4 S b n HA.out.2.2.2.2.1 HA.out.2.2.2.2.2 gs rs j ⟨kind,key,val⟩ w' (hs.grown (gro HR.out h)) hl (by rw[H2.out.2.1];omega) (hw2.below h) hjj (HG.out _ (List.mem_of_getElem? hjj))
     have hK:∀ S b rs,QJ S w8 n b gs rs→rs.length<1048576→∀ w',Below wr.heap.size wr w'→Calls Tryz.prog 34 #[ptr b,.slice A1 key.length c1'] w' fun e w''=>∃ A c,e= .returned (.tuple #[.slice A (Sn.keyB n gs key).length c,.int .i64 0])∧Below w'.heap.size w' w''∧Rd w'' A ((Sn.keyB n gs key).map b8):=fun S b rs hs hl w' h=>
      Qcz S b n HA.out.2.2.2.2.1 HA.out.2.2.2.2.2 gs rs key A1 c1' w' (hs.grown (gro HR.out h)) hl (hw2.below h) (hr1.grown (gro hb2 h)) hbk.1
     have hGt:∀ S b rs,QJ S w8 n b gs rs→∀ w',Below wr.heap.size wr w'→Calls Tryz.prog 35 #[ptr b,.slice A1 key.length c1'] w' (Qe4 w' (Hm.get n key (Sn.map n gs))):=fun S b rs hs w' h=>
      U3 S b n HA.out.2.2.2.2.1 HA.out.2.2.2.2.2 gs rs key A1 c1' w' (hs.grown (gro HR.out h)) (hw2.below h) (hr1.grown (gro hb2 h)) hbk.1
     obtain⟨EB,hEB⟩:∃ x,x=Sn.entB n gs j ⟨kind,key,val⟩:=⟨_,rfl⟩
     obtain⟨KB,hKB⟩:∃ x,x=Sn.keyB n gs key:=⟨_,rfl⟩
     obtain⟨GB,hGB⟩:∃ x,x=Hm.get n key (Sn.map n gs):=⟨_,rfl⟩
     rw[← hEB] at hle
     rw[← hKB] at hlk
     rw[← hGB] at hlg
     simp only[← hEB] at hE
     simp only[← hKB] at hK
     simp only[← hGB] at hGt
     obtain⟨gv,gp⟩:=GB
     have hgb:∀ w,(binOp .neq 4 (.bool gp) (.bool gp)).run Tryz.prog w= .ok (.bool false) w:=fun w=>by cases gp<;>rfl
     have hlM:(Rbs n bs M).length<1048576:=by rw[Xn];omega
     have hlN:(Rbs n bt N).length<1048576:=by rw[Xn];omega
     have HX:=hid (Qa (hE S4 b4 _ H8.out.2.1 hlM) (Qa (hE S6 b6 _ H8.out.2.2.1 hlN) (Qa (hK S4 b4 _ H8.out.2.1 hlM) (Qa (hK S6 b6 _ H8.out.2.2.1 hlN) (Qa (hGt S4 b4 _ H8.out.2.1) (hGt S6 b6 _ H8.out.2.2.1))))))
     have HB:=hid (Qa (Qb wr (.cells [b8 kind,.slice A1 key.length c1',.slice A3 val.length c3'].toArray 36)) hwe)
     have HL:=hid (Qa hle (Qa hlk hlg))
     clear hE hK hGt hlM hlN hEB hKB hGB hle hlk hlg hm hw2 hwe hb2 hp hx hr1 hr3 hc1 hc3 hbk hr hjl hL hjj hjg
     go_wp2_with (first
      |((with_reducible refine Qf 36 (.tmp 175) g (o+j*3) _ 3 _ rfl hp2 Tryz.underlying36 rfl (by kernel_rfl) ?_ ?_ ?_ ?_);rfl;rfl;rfl)
      |((with_reducible refine Qw 36 (.tmp 22) (.tmp 176) _ _ [b8 kind,.slice A1 key.length c1',.slice A3 val.length c3'] 3 rfl ?_ (by kernel_rfl) hoc ?_ ?_ ?_ ?_ ?_);rfl;rfl;rfl;rfl;rfl)
      |(go_at_call 36
        refine (KI A21 c21 A22 c22 gv w24 (H21.out.2.grown (gro H22.out.2.1 H24.out.2)) (H22.out.2.2.grown H24.out.2) HL.out.2.2).mono ?_
        rintro e w25 ⟨rfl,hb25⟩
        have H25:=hid (gro H24.out.1 hb25)
        clear hb25)
      |(go_at_call 36
        refine (KI A19 c19 A20 c20 KB w23 (H19.out.2.2.grown (gro H20.out.2.1 (gro H21.out.1.2 (gro H22.out.2.1 H23.out.2)))) (H20.out.2.2.grown (gro H21.out.1.2 (gro H22.out.2.1 H23.out.2))) HL.out.2.1).mono ?_
        rintro e w24 ⟨rfl,hb24⟩
        have H24:=hid (Qa (gro H23.out.1 hb24) (gro H23.out.2 hb24))
        clear hb24)
      |(go_at_call 36
        refine (KI A17 c17 A18 c18 EB w22 (H17.out.2.grown (gro H18.out.2.1 (gro H19.out.2.1 (gro H20.out.2.1 (gro H21.out.1.2 H22.out.2.1))))) (H18.out.2.2.grown (gro H19.out.2.1 (gro H20.out.2.1 (gro H21.out.1.2 H22.out.2.1)))) HL.out.1).mono ?_
        rintro e w23 ⟨rfl,hb23⟩
        have H23:=hid (Qa (gro H22.out.1 hb23) hb23)
        clear hb23)
      |(go_at_call 35
        refine (HX.out.2.2.2.2.2 w21 H21.out.1.1).mono ?_
        rintro e w22 ⟨A22,c22,rfl,hb22,hr22⟩
        have H22:=hid (Qa (gro H21.out.1.1 hb22) (Qa hb22 hr22))
        clear hb22 hr22)
      |(go_at_call 35
        refine (HX.out.2.2.2.2.1 w20 H20.out.1).mono ?_
        rintro e w21 ⟨A21,c21,rfl,hb21,hr21⟩
        have q21:=Jw (HB.out.2) (gro H17.out.1.2 (gro H18.out.2.1 (gro H19.out.2.1 (gro H20.out.2.1 hb21))))
        have H21:=hid (Qa (Qa (gro H20.out.1 hb21) hb21) hr21)
        clear hb21 hr21)
      |(go_at_call 34
        refine (HX.out.2.2.2.1 w19 H19.out.1).mono ?_
        rintro e w20 ⟨A20,c20,rfl,hb20,hr20⟩
        have q20:=Jw (HB.out.2) (gro H17.out.1.2 (gro H18.out.2.1 (gro H19.out.2.1 hb20)))
        have H20:=hid (Qa (gro H19.out.1 hb20) (Qa hb20 hr20))
        clear hb20 hr20)
      |(go_at_call 34
        refine (HX.out.2.2.1 w18 H18.out.1).mono ?_
        rintro e w19 ⟨A19,c19,rfl,hb19,hr19⟩
        have q19:=Jw (HB.out.2) (gro H17.out.1.2 (gro H18.out.2.1 hb19))
        have H19:=hid (Qa (gro H18.out.1 hb19) (Qa hb19 hr19))
        clear hb19 hr19)
      |(go_at_call 33
        refine (HX.out.2.1 w17 H17.out.1.1).mono ?_
        rintro e w18 ⟨A18,c18,rfl,hb18,hr18⟩
        have q18:=Jw (HB.out.2) (gro H17.out.1.2 hb18)
        have H18:=hid (Qa (gro H17.out.1.1 hb18) (Qa hb18 hr18))
        clear hb18 hr18)
      |(go_at_call 33
        refine (HX.out.1 _ HB.out.1).mono ?_
        rintro e w17 ⟨A17,c17,rfl,hb17,hr17⟩
        have H17:=hid (Qa (Qa (gro HB.out.1 hb17) hb17) hr17)
        clear hb17 hr17))
     go_roundg (gk-1)
     case measure=>omega
     case rel=>exact⟨j+1,by omega,by first|rfl|(rw [Vi j (by omega)])|go_num,gro HR.out H25.out⟩
    ·obtain rfl:j=k:=by omega
     go_wp2_with fail
     go_ret
     exact⟨rfl,gro H2.out.1 (gro H8.out.1 HR.out)⟩
theorem YC (x:Int)(es:List Ent)(zs ys:List Int)(A Ac Ad:Option Addr)(m c q cc p cd:Nat)(L:List (List Value))(w:World)(hw:Qs w)(hm:es.length=m)(hA:Rd w A L.flatten)(hE:QK w L es)(hq:zs.length=q)(hZ:Rd w Ac (zs.map fun z=> .int .i64 z))(hqb:q<9223372036854775808)(hp:ys.length=p)(hY:Rd w Ad (ys.map fun z=> .int .i64 z))(hpb:p<9223372036854775808):
 Calls Tryz.prog 7 #[.int .i64 x,.slice A m c,.slice Ac q cc,.slice Ad p cd] w fun e w'=>e= .returned (.bool true)∧Below w.heap.size w w':=by
 by_cases h200:200<m
 ·exact Qac x A m c _ _ w hw h200
 ·by_cases hx:1≤x∧x≤32
  ·obtain⟨n,rfl⟩:=Int.eq_ofNat_of_zero_le (show 0≤x by omega)
   exact Qc1 n (by omega) (by omega) es zs ys A Ac Ad m c q cc p cd L w hw hm hA hE hq hZ hqb hp hY hpb h200
  ·exact Qad x es A m c _ _ L w hw hm hA hE h200 hx
open Go.ChangeShapes Go.WideShapes Go.ChangeAt Go.Deep
section
variable {H:Type} {enc:TypeId×Value→H} {P:Program} {w:World} {base:Nat} {spare:Nat→Bool} {held:Bool}
theorem VX {t t' t'' s:TypeId}{args:Array Value}{ds:List (DataW H)}{ps:List MemPlace}(h:DataW.TrodAll enc P w base spare held [t,t',t'',s] args.toList ds ps):
 ∃ v v' v'' u d d' d'' f p p' p'' q,args= #[v,v',v'',u]∧ds=[d,d',d'',f]∧ps=p++(p'++(p''++q))∧DataW.Trod enc P w base spare held t v d p∧DataW.Trod enc P w base spare held t' v' d' p'∧DataW.Trod enc P w base spare held t'' v'' d'' p''∧DataW.Trod enc P w base spare held s u f q:=by
 obtain⟨v,vs,d,ds',p,q,hargs,rfl,rfl,hd,hrest⟩:=trodAll_cons h
 obtain⟨v',vs',d',ds'',p',q',rfl,rfl,rfl,hd',hrest'⟩:=trodAll_cons hrest
 obtain⟨v'',vs'',d'',ds3,p'',q'',rfl,rfl,rfl,hd'',hrest''⟩:=trodAll_cons hrest'
 obtain⟨v3,vs3,d3,ds4,p3,q3,rfl,rfl,rfl,hd3,hrest3⟩:=trodAll_cons hrest''
 obtain⟨rfl,rfl,rfl⟩:=trodAll_nil hrest3
 exact⟨v,v',v'',v3,d,d',d'',d3,p,p',p'',p3,by cases args;simp_all,rfl,by simp,hd,hd',hd'',hd3⟩
theorem U7 {t t' t'' s:TypeId}{v v' v'' u:Value}{d d' d'' f:DataW H}{p p' p'' q:List MemPlace}(h:DataW.Trod enc P w base spare held t v d p)(h':DataW.Trod enc P w base spare held t' v' d' p')
 (h'':DataW.Trod enc P w base spare held t'' v'' d'' p'') (h3:DataW.Trod enc P w base spare held s u f q):DataW.TrodAll enc P w base spare held [t,t',t'',s] [v,v',v'',u] [d,d',d'',f] (p++(p'++(p''++q))):=⟨p,p'++(p''++q),h,trodAll_mk3 h' h'' h3,rfl⟩
end
theorem J9 (os:Os)(started:os.Started)(H:Type)(enc:TypeId×Value→H):
 ReturnsInHanded {} Tryz.checked os 7 .any (fun w args=>(Rows.replayCutsSpec.pre enc Tryz.prog Tryz.f7 [] false w args∧laidMetH Tryz.prog UQ w)∧sizedMet enc Tryz.prog Tryz.f7 (OpenSpec.ofChange Rows.replayCutsSpec) false w args)
  (Rows.replayCutsSpec.post enc Tryz.prog Tryz.f7 false true false false):=by
 refine returnsInHanded_of_change_and (C:=Tryz.checked) (X:=fun w _=>laidMetH Tryz.prog UQ w) (fun _ _ _ hh h=>h.of_heap hh) own started (by kernel_rfl) Tryz.func7
  (ChangeSpec.witness_shaped (enc:=enc) (C:=Tryz.checked) (os:=os) (X:=fun w _=>laidMetH Tryz.prog UQ w) false (World.laidAll Tryz.prog os UQ) #[.int .i64 0,.slice none 0 0,.slice none 0 0,.slice none 0 0] 8 (World.laidAll_os _ _ _)
    (World.shaped_of_ZipB (by kernel_rfl) (by kernel_rfl)) (by kernel_rfl) (by kernel_rfl) (by kernel_rfl)
    (by rw[MakeChecks.laidMetH_plain _ _ _ (by kernel_rfl)];exact laidMet_laidAll _ (by kernel_rfl) (by kernel_rfl))) ?_
 intro W base args ds gs before hval0 hW _ hsz0 hL _
 have hval:∀ (j:Nat) t v,Tryz.f7.params[j]?=some t→args[j]?=some v→Value.okWide Tryz.prog W .any base t v:=hval0
 have hW':=hW
 obtain⟨p,q,hA0,hV,rfl,_,_⟩:=hW
 have hA:DataW.TrodAll enc Tryz.prog W 0 (fun _=>true) true Tryz.f7.params.toList args.toList ds p:=hA0
 have hsz:(DataW.weightsEach Tryz.prog (Tryz.f7.params.toList++Rows.replayCutsSpec.plain.varTypes Tryz.prog) (ds++gs)).all (· ≤reachBytes)=true:=hsz0
 rw[Tryz.params7] at hA hval hsz
 obtain⟨v0,v1,v2,v3,d0,d1,d2,d3,p0,p1,p2,p3,rfl,rfl,rfl,h0,h1,h2,h3⟩:=VX hA
 obtain⟨rfl,rfl⟩:=trodVars_none hV
 obtain⟨x,rfl,rfl,rfl,wx⟩:=open_int Tryz.underlying3 (hval 0 3 v0 rfl rfl) h0
 obtain⟨a0,len,cap,rfl⟩:=okWide_slice Tryz.underlying22 (hval 1 22 v1 rfl rfl)
 obtain⟨a1,len1,cap1,rfl⟩:=okWide_slice Tryz.underlying57 (hval 2 57 v2 rfl rfl)
 obtain⟨a3,len3,cap3,rfl⟩:=okWide_slice Tryz.underlying57 (hval 3 57 v3 rfl rfl)
 have h1k:=h1
 have h2k:=h2
 have h3k:=h3
 obtain⟨fuel,hf⟩:=h1
 obtain⟨fuel2,hf2⟩:=h2
 obtain⟨fuel3,hf3⟩:=h3
 obtain⟨A,m,c,L,es,hv,hm,hmc,hr,he,hb⟩:=Qck (v:= .slice a0 len cap) hf
 cases hv
 obtain⟨A',c',zs,hv',hr',hq⟩:=Vj (v:= .slice a1 len1 cap1) hf2
 cases hv'
 obtain⟨A9,c9,ys,hv9,hr9,hq9⟩:=Vj (v:= .slice a3 len3 cap3) hf3
 cases hv9
 clear hA0 hval0 hA
 simp only[List.append_nil,List.nil_append] at hW'
 have hlt:∀ x∈p1++(p2++p3),x.block<W.heap.size:=fun x hx=>by simpa using hW'.lt x hx
 refine (YC x es zs ys a0 a1 a3 len cap zs.length cap1 ys.length cap3 L W (Qge hL) hm hr he rfl hr' hq rfl hr9 hq9).mono fun e W' ⟨hee,hbW⟩=>?_
 subst hee
 exact⟨_,rfl,_,_,_,[],_,[],hW',trodAll_mk1 (shut_bool Tryz.underlying4 _),U7 (shut_int Tryz.underlying3 wx) (Below.trod VO (by kernel_rfl) (of_decide_eq_true (by kernel_rfl)) h1k hbW fun x hx=>hlt x (List.mem_append_left _ hx)) (Below.trod VO (by kernel_rfl) (of_decide_eq_true (by kernel_rfl)) h2k hbW fun x hx=>hlt x (List.mem_append_right _ (List.mem_append_left _ hx))) (Below.trod VO (by kernel_rfl) (of_decide_eq_true (by kernel_rfl)) h3k hbW fun x hx=>hlt x (List.mem_append_right _ (List.mem_append_right _ hx))),rfl,hbW.frame _,fun h=>by cases h⟩
theorem YD:Rows.ReplayCutsSaid:=
 OpenClaim.holds_of_wide 7 Tryz.f7 rfl rfl rfl rfl rfl rfl rfl ⟨rfl,rfl,rfl,rfl,rfl⟩ rfl rfl rfl rfl rfl (by kernel_rfl) Tryz.func7 (by kernel_rfl)
  (of_decide_eq_true (by kernel_rfl)) (by unfold Func.isWrapper;first|(rw [if_pos (by decide +kernel)];kernel_rfl)|(rw [if_neg (by decide +kernel)];exact⟨rfl,rfl⟩))
  (fun os started H enc _=>J9 os started H enc)
end Go.Proofs.YtpnakfeafekneaaGreatDoor
