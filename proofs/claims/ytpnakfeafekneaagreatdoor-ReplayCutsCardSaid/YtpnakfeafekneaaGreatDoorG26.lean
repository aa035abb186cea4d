/- Part 26 of this proof. -/
import Derived.Test.YtpnakfeafekneaaGreatDoorG25
set_option linter.unusedSimpArgs false
set_option linter.unusedVariables false
set_option maxHeartbeats 8000000
set_option maxRecDepth 100000
namespace Go.Proofs.YtpnakfeafekneaaGreatDoor
open Go.RowKit
theorem VI [Inhabited LoT](b n:Nat)(h1:1≤n)(h2:n≤32)(f t pb:Nat)(hft:f+1+t=2*n)(m:List Pr)(key:List UInt8)(A:Option Addr)(c:Nat)(z:Int)(val:Nat→Value)(Ak:Option Addr)(ck:Nat)(w:World)(hw:Qs w)(hm:XF w b n)(ha:Zn Zz w n f t pb m A c z val)(hk:Rd w Ak (key.map b8))(hs:Hm.Srt n m)
 (hh:Hm.has n t m (Dg.digit (Dg.key n key) t)=true)
 (hkn:Hm.hasKey key m=true) (hc2e:Hm.child n t (Dg.digit (Dg.key n key) t) (Hm.del key m)≠[])
 (hrec:∀ w',Below w.heap.size w w'→Calls Tryz.prog 118 #[ptr b,val (Dg.digit (Dg.key n key) t),.int .i64 ((t:Int)+1),dg (Dg.key n key),.slice Ak key.length ck] w' fun e w''=>∃ T p,e= .returned (.tuple #[ifp T p,.bool true])∧Below w'.heap.size w' w''∧QL Zz w'' n f (t+1) (ifp T p) (Hm.child n t (Dg.digit (Dg.key n key) t) (Hm.del key m))):
 Calls Tryz.prog 118 #[ptr b,nbr pb,.int .i64 t,dg (Dg.key n key),.slice Ak key.length ck] w fun e w'=>∃ v',e= .returned (.tuple #[v',.bool (Hm.hasKey key m)])∧Below w.heap.size w w'∧Tp Zz w' n (f+1) t v' (Hm.del key m):=by
 rw[hkn]
 clear hkn
 have hkl:=Dg.sum_length n (Dg.keyIn key) h2
 have hklen:(Dg.key n key).length=32:=hkl
 have hkf:Dg.form n (Dg.key n key)=true:=Dg.form_sum _ _ h2
 have hdl:=Dg.digit_lt (Dg.key n key) t
 have hrk:Nib.rank (Hm.bm n t m) (Dg.digit (Dg.key n key) t)=(Hm.lo (Hm.has n t m) (Dg.digit (Dg.key n key) t)).length:=Hm.bmf_rank _ _ hdl
 have hhs:Nib.has (Hm.bm n t m) (Dg.digit (Dg.key n key) t)=true:=by unfold Hm.bm;rw[Hm.bmf_has _ _ hdl];exact hh
 have hbm:=Hm.bm_lt n t m
 have hdo:=Hm.digs_old n t m _ hdl
 have hdd:=fun w' (hb:Below w.heap.size w w')=>Xo b n h1 h2 _ hklen hkf t (by omega) w' (hm.grown hb)
 generalize hK:Dg.key n key=K at hklen hkf hdd hdl hrk hhs hdo hh hrec
 have HK:=hid hK
 generalize hdv:Dg.digit K t=d at hdl hrk hhs hdo hdd hh hrec
 have HDV:=hid hdv
 generalize hr:(Hm.lo (Hm.has n t m) d).length=r at hrk
 have hd16:(Hm.digs n t m).length≤16:=Hm.digs_le (Hm.has n t m)
 generalize hq:Hm.bm n t m=q at hbm hhs hrk
 have HL:=hid (show (K.map b8).length=32 by simp[hklen])
 have k0:=ha.blk
 rw[hq] at k0
 generalize hkk:(Hm.digs n t m).length=kk at k0 hd16
 have hrkk:r<kk:=by rw[← hkk,hdo,hh];simp[hr]
 have HREC:=hid hrec
 clear hrec
 have hbmd:=Hm.bm_del_stay hc2e
 rw[hq] at hbmd
 rw[hK,hdv] at hc2e
 have HC2:=hid (Qa hc2e hbmd)
 clear hc2e hbmd
 have HA:=hid (Qa hw (Qa hm (Qa ha (Qa hk (Qa hs hdd)))))
 have HQ:=hid (Qa hq (Qa hrk (Qa hdo (Qa hr (Qa hh hkk)))))
 have HBL:=hid k0
 clear hw hm ha hk hs hK hkl hdd hq hrk hdo hr k0 hkk hh hdv hkf
 have HBX:=hid (Kx w K)
 go_enter Tryz.func118,Tryz.ntmps118
 go_upto_region 1 with fail
 refine Qe (fun w'=>Blk w' w.heap.size 40 (K.map b8)∧Below w.heap.size w w') HBX.out ?_
 rintro w1 ⟨hb1,hbl1⟩
 have hr1:=hb1.whole
 have HB:=hid (Qa hb1 hbl1)
 clear hb1 hbl1 HBX
 go_upto_region 16 with (first
  |((with_reducible refine Qf 40 (.tmp 8) w.heap.size 0 _ 32 _ HL.out hr1 Tryz.underlying40 rfl (by kernel_rfl) ?_ ?_ ?_ ?_);rfl;rfl;rfl)
  |(go_at_call 96
    refine (HA.out.2.2.2.2.2 w1 HB.out.2).mono ?_
    rintro e w3 ⟨rfl,hb3⟩
    have k3:=Zj (HBL.out.grown (gro HB.out.2 hb3))
    have HV:=hid hb3;clear hb3)
  |(go_at_call 91
    refine (XD q d hbm hdl _).mono ?_
    rw[hhs]
    rintro e w6 ⟨rfl,rfl⟩)
  |(go_at_call 90
    refine (XP q d hbm hdl _).mono ?_
    rw[HQ.out.2.1]
    rintro e w4 ⟨rfl,hb4⟩
    have HY:=hid hb4;clear hb4 k3))
 have hbw4:=gro HB.out.2 (gro HV.out HY.out)
 obtain⟨gA,oA,rfl,hrA⟩:=HA.out.2.2.1.rd (by intro e;have:=congrArg List.length e;rw[List.length_map,HQ.out.2.2.2.2.2] at this;simp at this;omega)
 have hpi:(0:Int)≤(r:Int)∧(r:Int)< (kk:Int):=by omega
 have hcA:w.cell? ⟨gA,oA+r,none⟩=some (val d):=by
  have h:=hrA r (val d) (by
   rw[HQ.out.2.2.1,HQ.out.2.2.2.2.1,if_pos rfl,List.map_append,List.getElem?_append_right (by rw[List.length_map,HQ.out.2.2.2.1];exact Nat.le_refl _),List.length_map,HQ.out.2.2.2.1,Nat.sub_self]
   rfl)
  exact h
 have HS:∀ w',Below w4.heap.size w4 w'→w'.cell? ⟨pb,1,none⟩=some (.slice (some ⟨gA,oA,none⟩) kk c)∧w'.cell? ⟨gA,oA+r,none⟩=some (val d)∧w'.rangeAt w.heap.size 0 (K.map b8):=fun w' hb=>
  ⟨XB (HBL.out.grown (gro hbw4 hb)),by rw[(gro hbw4 hb).cell (p:=⟨gA,oA+r,none⟩) (World.block_lt_of_cell? w _ hcA)];exact hcA,(HB.out.1.grown (gro (gro HV.out HY.out) hb)).whole⟩
 have hd:Below w4.heap.size w4 w4.drew:=(Below.refl _ _).drew
 have hdr:=HREC.out w4.drew (gro hbw4 hd)
 have HT:=hid (Qa HS (Qa hd (Qa hdr hbw4)))
 clear HS hd hdr hbw4 hrA hcA hr1 HB HV HY
 have hu:=Tryz.underlying40
 have hi:(Tryz.prog.info? 40).map (·.size)=some (K.map b8).length:=by rw[HL.out];exact Xy
 have hl:=HL.out
 have hone:=Qi K
 have hw1:IntKind.i64.wrap ((t:Int)+1)=(t:Int)+1:=by rw[IntKind.wrap_i64];omega
 go_region_held3 (fun w'=>w'.cell? ⟨pb,1,none⟩=some (.slice (some ⟨gA,oA,none⟩) kk c)∧w'.cell? ⟨gA,oA+r,none⟩=some (val d)∧w'.rangeAt w.heap.size 0 (K.map b8))
  (first|exact HT.out.1 _ HT.out.2.1|exact HT.out.1 _ H5.out.1)
  (
   (go_at_call 118
    refine HT.out.2.2.1.mono ?_
    rintro e w5 ⟨T5,p5,rfl,hb5,hh5⟩
    have H5:=hid (Qa (gro HT.out.2.1 hb5) hh5)
    clear hb5 hh5))
 clear hu hi hl hone hw1
 go_upto_region 19 with fail
 have hbw5:=gro HT.out.2.2.2 H5.out.1
 have HS2:∀ w',Below w5.heap.size w5 w'→w'.cell? ⟨pb,1,none⟩=some (.slice (some ⟨gA,oA,none⟩) kk c)∧w'.cell? ⟨pb,0,none⟩=some (.int .u16 q):=fun w' hb=>⟨XB (HBL.out.grown (gro hbw5 hb)),Zj (HBL.out.grown (gro hbw5 hb))⟩
 have hd2:Below w5.heap.size w5 w5.drew:=(Below.refl _ _).drew
 have hcl:=Zk (some ⟨gA,oA,none⟩) kk c ((Hm.digs n t m).map val) w5.drew (by rw[List.length_map,HQ.out.2.2.2.2.2,Nat.mul_one]) (HA.out.2.2.1.rd.grown (gro hbw5 hd2)) HA.out.2.2.1.oc (by omega)
 have HU:=hid (Qa HS2 (Qa hd2 (Qa hcl hbw5)))
 clear HS2 hd2 hcl hbw5
 go_region_held3 (fun w'=>w'.cell? ⟨pb,1,none⟩=some (.slice (some ⟨gA,oA,none⟩) kk c)∧w'.cell? ⟨pb,0,none⟩=some (.int .u16 q))
  (first|exact HU.out.1 _ HU.out.2.1|exact HU.out.1 _ H6.out.1)
  (
   (go_at_call 164
    refine HU.out.2.2.1.mono ?_
    rintro e w6 ⟨v6,rfl,hb6,ho6,-⟩
    have H6:=hid (Qa (gro HU.out.2.1 hb6) (Qa ho6 hb6))
    clear hb6 ho6))
 obtain⟨g6,c6,cur6,rfl,hm6⟩:=XS H6.out.2.1 (by omega)
 have hgB:=hm6.hB
 have hgl:=hm6.blk.lt
 have hbk6:=hm6.blk.set_ r (ifp T5 p5)
 have hbl56:Below w5.heap.size w5 (w6.setCell ⟨g6,r,none⟩ (ifp T5 p5)):=H6.out.1.setCell (by show _≤g6;exact hgB) _
 have hblW:Below w.heap.size w (w6.setCell ⟨g6,r,none⟩ (ifp T5 p5)):=gro HU.out.2.2.2 hbl56
 have hc6:w6.cell? ⟨g6,r,none⟩=some (val d):=by
  have h:=hm6.blk.takes (kk*1) r (val d) (by
   rw[hm6.hx,HQ.out.2.2.1,HQ.out.2.2.2.2.1,if_pos rfl,List.map_append,List.getElem?_append_right (by rw[List.length_map,HQ.out.2.2.2.1];exact Nat.le_refl _),List.length_map,HQ.out.2.2.2.1,Nat.sub_self]
   rfl)
  rwa [Nat.zero_add] at h
 have hf6:=hm6.blk.frozen r
 have hdm:Hm.digs n t (Hm.del key m)=Hm.lo (Hm.has n t m) d++([d]++Hm.hi (Hm.has n t m) d):=by
  have h:=Hm.digs_del n t m key
  rw[HK.out,HDV.out] at h
  cases hce:Hm.child n t d (Hm.del key m) with
  |nil=>exact absurd hce HC2.out.1
  |cons x l=>rw[hce] at h;simpa using h
 have hrow:Rd (w6.setCell ⟨g6,r,none⟩ (ifp T5 p5)) (some ⟨g6,0,none⟩) ((Hm.digs n t (Hm.del key m)).map fun k=>if k=d then ifp T5 p5 else val k):=by
  have e1:(cur6.set r (ifp T5 p5)).take (kk*1)=(Hm.digs n t (Hm.del key m)).map fun k=>if k=d then ifp T5 p5 else val k:=by
   rw[hdm,Hm.map_upd,List.take_set,hm6.hx,HQ.out.2.2.1,HQ.out.2.2.2.2.1,if_pos rfl,List.map_append,List.map_append]
   have hl:((Hm.lo (Hm.has n t m) d).map val).length=r:=by rw[List.length_map];exact HQ.out.2.2.2.1
   rw[List.set_append_right _ _ (by omega),hl,Nat.sub_self]
   rfl
  rw[← e1]
  exact Rd.of _ (hbk6.takes _)
 have hkids:=HA.out.2.2.1.kids_del (k:=key) (v:=ifp T5 p5) hblW (fun _=>by rw[HK.out,HDV.out];exact QL.grown hbl56 H5.out.2)
 rw[HK.out,HDV.out] at hkids
 have hlen2:(Hm.digs n t (Hm.del key m)).length=kk:=by rw[hdm,←HQ.out.2.2.2.2.2,HQ.out.2.2.1,HQ.out.2.2.2.2.1,if_pos rfl]
 have hc6c:=hm6.hc
 have hdin:d∈Hm.digs n t (Hm.del key m):=by rw[hdm];simp
 have HL2:=hid hlen2
 have HNE:=hid (Hm.del_ne (k:=key) HA.out.2.2.1.many)
 have hrb:(0:Int)≤(r:Int)∧(r:Int)< (kk:Int):=by omega
 by_cases h1k:kk=1
 ·have j1:((kk:Int) == 1)=true:=by rw[beq_iff_eq];omega
  have j2:(0:Int)< (kk:Int):=by omega
  have hr0:r=0:=by omega
  have hi0:Hm.digs n t (Hm.del key m)=[d]:=by
   rw[h1k] at hlen2
   obtain⟨i0,hi0⟩:=List.length_eq_one_iff.1 hlen2
   rw[hi0,List.mem_singleton] at hdin
   rw[hi0,hdin]
  have hch:=Hm.child_whole hi0
  have hkd:=hkids d hdin
  rw[if_pos rfl,hch] at hkd
  have hkind:=hkd.kind
  have hrow1:=hrow
  rw[hi0,List.map_singleton,if_pos rfl] at hrow1
  have k9:(w6.setCell ⟨g6,r,none⟩ (ifp T5 p5)).cell? ⟨g6,0,none⟩=some (ifp T5 p5):=by
   obtain⟨g',o',e',hr'⟩:=hrow1 (by simp)
   cases e'
   exact hr' 0 _ rfl
  rcases hkind with ⟨p0,hp0,hbk0⟩|⟨p0,hp0,hmany0⟩
  ·cases hp0
   have HB0:=hid (Qa hbk0 hblW)
   clear hkd hbk0 hch hi0 hrow1 hrow hkids hlen2 hdin hdm hbk6 hbl56 hblW hm6 h1k hr0
   go_wp2_with fail
   go_ret2
   exact⟨_,rfl,HB0.out.2,.inr (HB0.out.1.ht _ _)⟩
  ·cases hp0
   have hfk:=ZD (S:=Zz) b n f t h1 h2 (Hm.del key m) hmany0 (fun k=>if k=d then nbr p5 else val k) (some ⟨g6,0,none⟩) c6 kk q _ (HA.out.1.below hblW) (HA.out.2.1.grown hblW) hlen2.symm HC2.out.2.symm hrow hc6c ⟨fun _ _=>trivial,hbk6.tyd⟩ hkids
   have HW:=hid (Qa hfk hblW)
   clear hkd hmany0 hch hi0 hrow1 hrow hkids hlen2 hdin hdm hbk6 hbl56 hblW hm6 hfk h1k hr0
   go_wp2_with (
    ((go_at_call 166;refine HW.out.1.mono ?_;rintro e w11 ⟨b',rfl,hb',hh'⟩;have HV:=hid (Qa hb' hh');clear hb' hh')))
   go_ret2
   exact⟨_,rfl,gro HW.out.2 HV.out.1,.inr HV.out.2⟩
 ·have j1:((kk:Int) == 1)=false:=by rw[beq_eq_false_iff_ne];omega
  have hmany0:=Hm.many_digs (n:=n) (t:=t) (m:=Hm.del key m) (by rw[hlen2];exact h1k) HNE.out
  have hfk:=ZD (S:=Zz) b n f t h1 h2 (Hm.del key m) hmany0 (fun k=>if k=d then ifp T5 p5 else val k) (some ⟨g6,0,none⟩) c6 kk q _ (HA.out.1.below hblW) (HA.out.2.1.grown hblW) hlen2.symm HC2.out.2.symm hrow hc6c ⟨fun _ _=>trivial,hbk6.tyd⟩ hkids
  have HW:=hid (Qa hfk hblW)
  clear hmany0 hrow hkids hlen2 hdin hdm hbk6 hbl56 hblW hm6 hfk h1k
  go_wp2_with (
   ((go_at_call 166;refine HW.out.1.mono ?_;rintro e w11 ⟨b',rfl,hb',hh'⟩;have HV:=hid (Qa hb' hh');clear hb' hh')))
  go_ret2
  exact⟨_,rfl,gro HW.out.2 HV.out.1,.inr HV.out.2⟩
theorem drop_nil [Inhabited LoT](b n:Nat)(t:Nat)(D key:List UInt8)(Ak:Option Addr)(ck:Nat)(w:World):
 Calls Tryz.prog 118 #[ptr b,.nilIface,.int .i64 t,dg D,.slice Ak key.length ck] w fun e w'=>e= .returned (.tuple #[.nilIface,.bool false])∧Below w.heap.size w w':=by
 have HBX:=hid (Kx w D)
 go_enter Tryz.func118,Tryz.ntmps118
 go_upto_region 1 with fail
 refine Qe (fun w'=>Below w.heap.size w w') HBX.out.2 ?_
 rintro w1 hb1
 have HB:=hid hb1
 clear hb1 HBX
 go_wp2_with fail
 go_ret2
 exact⟨rfl,HB.out⟩
theorem Qdw [Inhabited LoT](b n:Nat)(h1:1≤n)(h2:n≤32)(key:List UInt8)(Ak:Option Addr)(ck:Nat):∀ (f t:Nat) (v:Value) (m:List Pr) (w:World),f+t=2*n→Qs w→XF w b n→Rd w Ak (key.map b8)→QL Zz w n f t v m→Hm.Srt n m→Bnd m→
 Calls Tryz.prog 118 #[ptr b,v,.int .i64 t,dg (Dg.key n key),.slice Ak key.length ck] w fun e w'=>∃ v',e= .returned (.tuple #[v',.bool (Hm.hasKey key m)])∧Below w.heap.size w w'∧Tp Zz w' n f t v' (Hm.del key m):=by
 have hkl:(Dg.key n key).length=32:=Dg.sum_length n (Dg.keyIn key) h2
 intro f
 induction f with
 |zero=>
  intro t v m w hft hw hm hk ha hs hbd
  exact Qas Zz b n h1 h2 0 t v m _ key hkl Ak ck w hw hm ha hk hs hbd
 |succ f ih=>
  intro t v m w hft hw hm hk ha hs hbd
  rcases ha with ⟨_,ha⟩|⟨hsg,pb,A,c,z,val,rfl,h3,h4,h5,h6,h7⟩
  ·exact Qas Zz b n h1 h2 (f+1) t v m _ key hkl Ak ck w hw hm ha hk hs hbd
  ·have hbr:Zn Zz w n f t pb m A c z val:=⟨hsg,h3,h4,h5,h6,h7⟩
   cases hh:Hm.has n t m (Dg.digit (Dg.key n key) t) with
   |false=>exact VG b n h1 h2 f t pb hft m key A c z val Ak ck w hw hm hbr hk hs hh
   |true=>
    have hd:Dg.digit (Dg.key n key) t∈Hm.digs n t m:=Hm.mem_digs.2 (Hm.has_iff.1 hh)
    have hrec:∀ w',Below w.heap.size w w'→Calls Tryz.prog 118 #[ptr b,val (Dg.digit (Dg.key n key) t),.int .i64 ((t:Int)+1),dg (Dg.key n key),.slice Ak key.length ck] w' fun e w''=>∃ v',e= .returned (.tuple #[v',.bool (Hm.hasKey key m)])∧Below w'.heap.size w' w''∧Tp Zz w'' n f (t+1) v' (Hm.del key (Hm.child n t (Dg.digit (Dg.key n key) t) m)):=by
     intro w' hb
     have:=ih (t+1) (val (Dg.digit (Dg.key n key) t)) (Hm.child n t (Dg.digit (Dg.key n key) t) m) w' (by omega) (hw.below hb) (hm.grown hb) (hk.grown hb) (QL.grown hb (h7 _ hd)) hs.child (hbd.filter _)
     rw[show ((t+1:Nat):Int)=(t:Int)+1 from rfl,Hm.hasKey_child] at this
     exact this
    cases hkn:Hm.hasKey key m with
    |false=>
     have:=Ur b n h1 h2 f t pb hft m key A c z val Ak ck w hw hm hbr hk hs hh hkn (fun w' hb=>(hrec w' hb).mono fun e w'' ⟨v',e',hb',_⟩=>⟨v',by rw[e',hkn],hb'⟩)
     rw[hkn] at this
     exact this
    |true=>
     by_cases hc:Hm.child n t (Dg.digit (Dg.key n key) t) (Hm.del key m)=[]
     ·have:=VH b n h1 h2 f t pb hft m key A c z val Ak ck w hw hm hbr hk hs hh hkn hc (fun w' hb=>(hrec w' hb).mono fun e w'' ⟨v',e',hb',ht⟩=>by
       rcases ht with ⟨_,rfl⟩|ht
       ·exact⟨by rw[e',hkn],hb'⟩
       ·rw[← Hm.child_del,hc] at ht
        exact absurd rfl ht.ne)
      rw[hkn] at this
      exact this
     ·have:=VI b n h1 h2 f t pb hft m key A c z val Ak ck w hw hm hbr hk hs hh hkn hc (fun w' hb=>(hrec w' hb).mono fun e w'' ⟨v',e',hb',ht⟩=>by
       rw[← Hm.child_del] at ht
       rcases ht with ⟨h,_⟩|ht
       ·exact absurd h hc
       ·obtain⟨T,p,rfl⟩:=ht.shape
        exact⟨T,p,by rw[e',hkn],hb',ht⟩)
      rw[hkn] at this
      exact this
theorem Qdx [Inhabited LoT](b n:Nat)(h1:1≤n)(h2:n≤32)(key:List UInt8)(Ak:Option Addr)(ck:Nat)(v:Value)(m:List Pr)(w:World)(hw:Qs w)(hm:XF w b n)(hk:Rd w Ak (key.map b8))(ht:Top w n v m)(hs:Hm.Srt n m)(hbd:Bnd m):
 Calls Tryz.prog 118 #[ptr b,v,.int .i64 0,dg (Dg.key n key),.slice Ak key.length ck] w fun e w'=>∃ v',e= .returned (.tuple #[v',.bool (Hm.hasKey key m)])∧Below w.heap.size w w'∧Top w' n v' (Hm.del key m):=by
 rcases ht with ⟨rfl,rfl⟩|ht
 ·exact (drop_nil b n 0 _ key Ak ck w).mono fun _ _ ⟨e,hb⟩=>⟨_,e,hb,.inl ⟨rfl,rfl⟩⟩
 ·exact Qdw b n h1 h2 key Ak ck (2*n) 0 v m w (by omega) hw hm hk ht hs hbd
theorem WI [Inhabited LoT](b n:Nat)(h1:1≤n)(h2:n≤32)(m:List Pr)(k:List UInt8)(A1:Option Addr)(c1:Nat)(w:World)(hw:Qs w)(hm:Xl w n b m)(hk:Rd w A1 (k.map b8))(hkl:k.length≤64):
 Calls Tryz.prog 74 #[ptr b,.slice A1 k.length c1] w fun e w'=>∃ b',e= .returned (.tuple #[ptr b',.bool (Hm.hasKey k m),.int .i64 0])∧Below w.heap.size w w'∧Xl w' n b' (Hm.del k m):=by
 have hmw:=hm.w
 obtain⟨⟨top,htb,htop⟩,hsrt,hbnd,hlob⟩:=hm
 have HLO:=hid (show Lo≤w.heap.size from Nat.le_trans hlob (Nat.le_of_lt htb.lt))
 clear hlob
 have hkl1:=Dg.sum_length n (Dg.keyIn k) h2
 have hklen:(Dg.key n k).length=32:=hkl1
 have hchk:=Jq b n h1 h2 k A1 c1 w hw hmw hk hkl
 have hdrop:=fun w' (hb:Below w.heap.size w w')=>Qdx b n h1 h2 k A1 c1 top m w' (hw.below hb) (hmw.grown hb) (hk.grown hb) (htop.grown hb) hsrt hbnd
 generalize hK:Dg.key n k=K at hklen hchk hdrop
 have HL:=hid (show (K.map b8).length=32 by simp[hklen])
 have HA:=hid (Qa hw (Qa htb (Qa hsrt (Qa hbnd hmw))))
 have HC:=hid (Qa hchk hdrop)
 clear hw htb htop hsrt hbnd hk hmw hchk hdrop hK hkl1
 go_enter Tryz.func74,Tryz.ntmps74
 go_upto_region 4 with (first
  |(go_at_call 93
    refine HC.out.1.mono ?_
    rintro e w2 ⟨rfl,hb⟩
    have HV:=hid hb;clear hb)
  |((with_reducible refine Qw 40 (.tmp 7) (.tmp 15) _ _ (K.map b8) 32 HL.out ?_ (by kernel_rfl) (Qi _) ?_ ?_ ?_ ?_ ?_);rfl;rfl;rfl;rfl;rfl))
 refine Qe (fun w'=>Below w.heap.size w w'∧w'.rangeAt w2.heap.size 0 (K.map b8)) ⟨gro HV.out (Qb _ _),(Blk.new w2 _ _).whole⟩ ?_
 rintro w3 ⟨hb3,hr3⟩
 have HS:∀ w',Below w3.heap.size w3 w'→w'.cell? ⟨b,1,none⟩=some top∧w'.rangeAt w2.heap.size 0 (K.map b8):=fun w' hb=>by
  have h:=(HA.out.2.1.grown hb3).grown hb
  exact⟨by rw[h.cell];rfl,Qm hr3 hb⟩
 have hd:Below w3.heap.size w3 w3.drew:=(Below.refl _ _).drew
 have hdr:=HC.out.2 w3.drew (gro hb3 hd)
 have HT:=hid (Qa HS (Qa hd (Qa hdr hb3)))
 clear HS hd hdr hb3 hr3
 have hu:=Tryz.underlying40
 have hi:(Tryz.prog.info? 40).map (·.size)=some (K.map b8).length:=by rw[HL.out];exact Xy
 have hl:=HL.out
 have hone:=Qi K
 go_region_held3 (fun w'=>w'.cell? ⟨b,1,none⟩=some top∧w'.rangeAt w2.heap.size 0 (K.map b8))
  (first|exact HT.out.1 _ HT.out.2.1|exact HT.out.1 _ H5.out.1)
  (
   (go_at_call 118
    refine HT.out.2.2.1.mono ?_
    rintro e w5 ⟨v5,rfl,hb5,ht5⟩
    have k5:w5.cell? ⟨b,0,none⟩=some (.int .i64 n):=HA.out.2.2.2.2.grown (gro HT.out.2.2.2 (gro HT.out.2.1 hb5))
    have H5:=hid (Qa (gro HT.out.2.1 hb5) ht5)
    clear hb5 ht5))
 have hfin:∀ v,Top w5 n v (Hm.del k m)→Xl (w5.alloc (.cells #[.int .i64 n,v] 159)) n w5.heap.size (Hm.del k m):=fun v hv=>
  ⟨⟨v,Blk.new w5 _ [.int .i64 n,v],hv.grown (Qb _ _)⟩,Hm.del_srt HA.out.2.2.1,HA.out.2.2.2.1.filter _,Nat.le_trans HLO.out (gro HT.out.2.2.2 H5.out.1).size⟩
 have HF:=hid hfin
 have HTP:=hid H5.out.2
 have HB5:=hid H5.out.1
 clear hfin H5
 obtain⟨T5,p5,rfl⟩|rfl:(∃ T p,v5=ifp T p)∨v5= .nilIface:=by
  rcases HTP.out with ⟨_,h⟩|h
  ·exact .inr h
  ·exact .inl (QL.shape h)
 ·go_wp2_with fail
  go_ret3
  exact⟨_,rfl,gro HT.out.2.2.2 (gro HB5.out (Qb _ _)),HF.out _ HTP.out⟩
 ·go_wp2_with fail
  go_ret3
  exact⟨_,rfl,gro HT.out.2.2.2 (gro HB5.out (Qb _ _)),HF.out _ HTP.out⟩
def Xr (t:TypeId):Prop:=([5,166,157,164,171,159,180,243,196]:List Nat).contains t=true
instance:DecidablePred Xr:=fun t=>inferInstanceAs (Decidable (_=true))
theorem QQ.pure_of_kept {S:Nat→Prop}{w w':World}(h:Qu S w w')(hS:∀ k,S k→∃ t c fz,w.heap[k]?=some (.cells c t fz)∧¬Xr t):QQ Xr w w':=
 QQ.of_kept h fun k hk t c fz hh=>by
  obtain⟨t',c',fz',h',hn⟩:=hS k hk
  rw[h'] at hh
  cases hh
  exact hn
theorem QO.stay [Inhabited LoT]{w w':World}(h:QQ Xr w w'){x:List Value}{p:Pr}(hp:QO w x p):QO w' x p:=by
 obtain⟨A1,c1,A2,c2,e,h1,h2,h3,h4,h5,h6⟩:=hp
 exact⟨A1,c1,A2,c2,e,h.rdb h1 h5 (by decide),h.rdb h2 h6 (by decide),h3,h4,h.tyb h5 (by decide),h.tyb h6 (by decide)⟩
theorem Ql.stay [Inhabited LoT]{w w':World}(h:QQ Xr w w'){L:List (List Value)}{m:List Pr}(hp:Ql w L m):Ql w' L m:=⟨hp.len,fun i x p h1 h2=>(hp.at_ i x p h1 h2).stay h⟩
theorem Bk.stay [Inhabited LoT]{w w':World}(h:QQ Xr w w'){n:Nat}{v:Value}{m:List Pr}(hb:Bk w n v m):Bk w' n v m:=by
 obtain⟨b,of,A,c,L,e,hb⟩:=hb
 exact⟨b,of,A,c,L,e,h.blk hb.blk (by decide),h.rd hb.rd hb.ty (by decide),hb.at_.stay h,hb.cap,hb.key,hb.len,hb.ne,h.tyd hb.ty (by decide)⟩
theorem QL.stay [Inhabited LoT]{S:Nat→Prop}{w w':World}(h:QQ Xr w w'){n:Nat}:∀ {f t:Nat} {v:Value} {m:List Pr},QL S w n f t v m→QL S w' n f t v m
 |0,_,_,_,hb=>Bk.stay h hb
 |f+1,t,v,m,hb=>by
  rcases hb with ⟨h1,h2⟩|⟨h1,b,A,c,z,val,e,h2,h3,h4,h6,h5⟩
  ·exact .inl ⟨h1,h2.stay h⟩
  ·exact .inr ⟨h1,b,A,c,z,val,e,h.blk h2 (by decide),h.rd h3 h6.2 (by decide),h4,⟨h6.1,h.tyd h6.2 (by decide)⟩,fun i hi=>QL.stay h (h5 i hi)⟩
theorem Xl.stay [Inhabited LoT]{w w':World}(h:QQ Xr w w'){n b:Nat}{m:List Pr}(hm:Xl w n b m):Xl w' n b m:=by
 obtain⟨⟨top,h1,h2⟩,h3,h4,h5⟩:=hm
 exact⟨⟨top,h.blk h1 (by decide),h2.imp id (QL.stay h)⟩,h3,h4,h5⟩
theorem QT.stay {w w':World}(h:QQ Xr w w'){b n:Nat}{ds:List (List UInt8)}(ht:QT w b n ds):QT w' b n ds:=by
 obtain⟨A,c,bs,ts,h1,h2,h3,h4,h5⟩:=ht
 exact⟨A,c,bs,ts,h.blk h1 (by decide),h.rd h2 h4.2 (by decide),h3,⟨h4.1.stay (fun k cs hb=>h.blk hb (by decide)),h.tyd h4.2 (by decide)⟩,h5⟩
def XJ [Inhabited LoT](w:World)(x:List Value)(e:Ent):Prop:=∃ A1 c1 A2 c2,x=[b8 e.kind,.slice A1 e.key.length c1,.slice A2 e.val.length c2]∧Rd w A1 (e.key.map b8)∧Rd w A2 (e.val.map b8)∧e.key.length≤c1∧e.val.length≤c2∧TyB w 5 A1∧TyB w 5 A2
theorem XJ.at_ [Inhabited LoT]{w:World}{x:List Value}{e:Ent}(h:XJ w x e):Xu w x e:=by
 obtain⟨A1,c1,A2,c2,e,h1,h2,h3,h4,-⟩:=h
 exact⟨A1,c1,A2,c2,e,h1,h2,h3,h4⟩
theorem XJ.stay [Inhabited LoT]{w w':World}(h:QQ Xr w w'){x:List Value}{p:Ent}(hp:XJ w x p):XJ w' x p:=by
 obtain⟨A1,c1,A2,c2,e,h1,h2,h3,h4,h5,h6⟩:=hp
 exact⟨A1,c1,A2,c2,e,h.rdb h1 h5 (by decide),h.rdb h2 h6 (by decide),h3,h4,h.tyb h5 (by decide),h.tyb h6 (by decide)⟩
structure QZ [Inhabited LoT] (w:World) (L:List (List Value)) (es:List Ent):Prop where
 len:L.length=es.length
 at_:∀ (i:Nat) (x:List Value) (p:Ent),L[i]?=some x→es[i]?=some p→XJ w x p
theorem QZ.stay [Inhabited LoT]{w w':World}(h:QQ Xr w w'){L:List (List Value)}{es:List Ent}(hp:QZ w L es):QZ w' L es:=⟨hp.len,fun i x p h1 h2=>(hp.at_ i x p h1 h2).stay h⟩
theorem QZ.grown [Inhabited LoT]{w w':World}(hb:Below w.heap.size w w'){L:List (List Value)}{es:List Ent}(hp:QZ w L es):QZ w' L es:=hp.stay (QQ.of_grown hb)
theorem QZ.ents [Inhabited LoT]{w:World}{L:List (List Value)}{es:List Ent}(hp:QZ w L es):QK w L es:=⟨hp.len,fun i x p h1 h2=>(hp.at_ i x p h1 h2).at_⟩
theorem XJ.len [Inhabited LoT]{w:World}{x:List Value}{e:Ent}(h:XJ w x e):x.length=3:=by obtain⟨A1,c1,A2,c2,e,_⟩:=h;rw[e];rfl
theorem XJ.oc [Inhabited LoT]{w:World}{x:List Value}{p:Ent}(h:XJ w x p):∀ v∈x,v.oneCell'=true:=by
 obtain⟨A1,c1,A2,c2,e,_⟩:=h
 rw[e]
 intro v hv
 rcases List.mem_cons.1 hv with rfl|hv
 ·rfl
 ·rcases List.mem_cons.1 hv with rfl|hv
  ·rfl
  ·rw[List.mem_singleton] at hv;subst hv;rfl
theorem QZ.append [Inhabited LoT]{w:World}{L1 L2:List (List Value)}{m1 m2:List Ent}(h1:QZ w L1 m1)(h2:QZ w L2 m2):QZ w (L1++L2) (m1++m2):=by
 refine⟨by rw[List.length_append,List.length_append,h1.len,h2.len],fun i x p hx hp=>?_⟩
 have hl:=h1.len
 by_cases hi:i<L1.length
 ·rw[List.getElem?_append_left hi] at hx
  rw[List.getElem?_append_left (by omega)] at hp
  exact h1.at_ i x p hx hp
 ·rw[List.getElem?_append_right (by omega)] at hx
  rw[List.getElem?_append_right (by omega),←hl] at hp
  exact h2.at_ _ x p hx hp
theorem QZ.one [Inhabited LoT]{w:World}{x:List Value}{p:Ent}(h:XJ w x p):QZ w [x] [p]:=by
 refine⟨rfl,fun i y q hy hq=>?_⟩
 cases i with
 |zero=>simp at hy hq;subst hy hq;exact h
 |succ i=>simp at hy
theorem QZ.oc [Inhabited LoT]{w:World}{L:List (List Value)}{m:List Ent}(h:QZ w L m):∀ v∈L.flatten,v.oneCell'=true:=by
 intro v hv
 obtain⟨x,hx,hv⟩:=List.mem_flatten.1 hv
 obtain⟨i,hi,rfl⟩:=List.getElem_of_mem hx
 have hm:i<m.length:=by have:=h.len;omega
 exact (h.at_ i L[i] m[i] (by simp[hi]) (by simp[hm])).oc v hv
theorem QZ.flat [Inhabited LoT]{w:World}{L:List (List Value)}{m:List Ent}(h:QZ w L m):L.flatten.length=m.length*3:=by rw[Xc 3 _ h.ents.three,h.len]
namespace Sn
def leaves (n:Nat)(es:List Ent):List (List UInt8):=es.map fun e=>Dg.leaf n (En.bytes e)
def step (n:Nat)(m:List Pr)(e:Ent):List Pr:=if e.kind=1 then Hm.ins n ⟨e.key,e.val⟩ m else Hm.del e.key m
def map (n:Nat)(es:List Ent):List Pr:=es.foldl (step n) []
def root (n:Nat)(es:List Ent):Rt:=⟨es.length,Mt.log n (leaves n es),Hm.root n (map n es)⟩
theorem map_snoc (n:Nat)(es:List Ent)(e:Ent):map n (es++[e])=step n (map n es) e:=by simp[map,List.foldl_append]
end Sn
def Qd (r:Rt):List Value:= .int .u64 r.size :: (r.log.map b8++r.map.map b8)
theorem JX [Inhabited LoT](n:Nat)(h2:n≤32)(m:List Pr):(Hm.root n m).length=32:=by
 unfold Hm.root
 split
 ·exact Dg.sum_length _ _ h2
 ·exact node_len n h2 _ _ _
theorem JY [Inhabited LoT]{w:World}{g:Nat}{t:TypeId}{cs:List Value}(h:Blk w g t cs)(ht:¬Xr t)(i:Nat)(u:Value):QQ Xr w (w.setCell ⟨g,i,none⟩ u):=
 QQ.pure_of_kept (S:=(· =g)) ((Qu.refl _ _).set1 i u) fun k hk=>by subst hk;exact⟨t,_,_,h,ht⟩
theorem Js [Inhabited LoT]{w:World}{g:Nat}{t:TypeId}{cs:List Value}(h:Blk w g t cs)(ht:¬Xr t)(o:Nat)(vs:List Value):QQ Xr w (w.setCells g o vs):=
 QQ.pure_of_kept (S:=(· =g)) ((Qu.refl _ _).setN o vs) fun k hk=>by subst hk;exact⟨t,_,_,h,ht⟩
theorem Y7 [Inhabited LoT](A:Option Addr)(c:Nat)(l:List UInt8)(w:World)(h:Rd w A (l.map b8))(hl:l.length<1099511627776):
 Calls Tryz.prog 113 #[.slice A l.length c] w fun e w'=>Yg 5 w l.length (l.map b8) e w':=
 (Qgy A l.length c (l.map b8) w (by simp) h (Qi _) (by omega)).mono fun _ _ h=>h.sl
structure Tw (w:World) (x:List Value) (w':World):Prop where
 a:Blk w' w.heap.size 36 x
 r:Blk w' (w.heap.size+1) 36 [.int .u8 0,.slice none 0 0,.slice none 0 0]
 bl:Below w.heap.size w w'
theorem Tw.new (w:World)(x:List Value):Tw w x ((w.alloc (.cells x.toArray 36)).alloc (.cells #[.int .u8 0,.slice none 0 0,.slice none 0 0] 36)):=by
 have h:=Blk.new (w.alloc (.cells x.toArray 36)) 36 [.int .u8 0,.slice none 0 0,.slice none 0 0]
 rw[show (w.alloc (.cells x.toArray 36)).heap.size=w.heap.size+1 by simp] at h
 exact⟨(Blk.new w _ _).alloc _,h,gro (Qb _ _) (Qb _ _)⟩
theorem Tw.grown {w w1 w2:World}{x:List Value}(h:Tw w x w1)(hb:Below w1.heap.size w1 w2):Tw w x w2:=⟨h.a.grown hb,h.r.grown hb,gro h.bl hb⟩
theorem Tw.set {w w1:World}{x:List Value}(h:Tw w x w1)(i:Nat)(u:Value):Tw w (x.set i u) (w1.setCell ⟨w.heap.size,i,none⟩ u):=
 ⟨h.a.set_ i u,h.r.far (p:=⟨w.heap.size,i,none⟩) (by simp) u,h.bl.setCell (Nat.le_refl _) _⟩
theorem Y8 [Inhabited LoT](x:List Value)(e:Ent)(w:World)(h:Xu w x e)(hk:e.key.length<1048576)(hv:e.val.length<1048576)(hlo:Lo≤w.heap.size):
 Calls Tryz.prog 71 #[.agg x.toArray] w fun ee w'=>∃ y,ee= .returned (.agg y.toArray)∧Below w.heap.size w w'∧XJ w' y e:=by
 obtain⟨A1,c1,A2,c2,rfl,h1,h2,h3,h4⟩:=h
 have HA:=hid (Qa h1 h2)
 have HLO:=hid hlo
 clear h1 h2 hlo
 have HW:=hid (Tw.new w [b8 e.kind,.slice A1 e.key.length c1,.slice A2 e.val.length c2])
 go_enter Tryz.func71,Tryz.ntmps71
 go_upto_region 1 with fail
 refine Qe (fun w'=>Tw w [b8 e.kind,.slice A1 e.key.length c1,.slice A2 e.val.length c2] w') HW.out ?_
 rintro w1 ht1
 have d1:w1.cell? ⟨w.heap.size,1,none⟩=some (.slice A1 e.key.length c1):=by rw[ht1.a.cell];rfl
 have HT:=hid ht1
 clear ht1 HW
 go_upto_region 2 with (
  (go_at_call 113
   refine (Y7 A1 c1 e.key w1 (HA.out.1.grown HT.out.bl) (by omega)).mono ?_
   rintro ee w2 ⟨A3,c3,rfl,hb2,ho2,hc2,hn2,hy2⟩
   have ht2:=HT.out.grown hb2
   have d2:w2.cell? ⟨w.heap.size,1,none⟩=some (.slice A1 e.key.length c1):=by rw[ht2.a.cell];rfl
   have f2:=ht2.a.frozen 1
   have HV:=hid (Qa ht2 (Qa ho2 (Qa hc2 (Qa hb2 (TyB.up hy2 hn2 (Nat.le_trans HLO.out HT.out.bl.size))))));clear ht2 hb2 ho2 hc2 hn2 hy2 d1))
 clear d2 f2
 have hst2:=JY HV.out.1.a (by decide) 1 (.slice A3 e.key.length c3)
 refine Qe (fun w'=>Tw w [b8 e.kind,.slice A3 e.key.length c3,.slice A2 e.val.length c2] w'∧Rd w' A3 (e.key.map b8)∧TyB w' 5 A3) ⟨HV.out.1.set 1 _,hst2.rdb HV.out.2.1 HV.out.2.2.2.2 (by decide),hst2.tyb HV.out.2.2.2.2 (by decide)⟩ ?_
 rintro w3 ⟨ht3,hr3,hy3⟩
 have d3:w3.cell? ⟨w.heap.size,2,none⟩=some (.slice A2 e.val.length c2):=by rw[ht3.a.cell];rfl
 have HU:=hid (Qa ht3 (Qa hr3 hy3))
 clear ht3 hr3 hy3 hst2 HT
 go_upto_region 3 with (
  (go_at_call 113
   refine (Y7 A2 c2 e.val w3 (HA.out.2.grown HU.out.1.bl) (by omega)).mono ?_
   rintro ee w4 ⟨A4,c4,rfl,hb4,ho4,hc4,hn4,hy4⟩
   have ht4:=HU.out.1.grown hb4
   have d4:w4.cell? ⟨w.heap.size,2,none⟩=some (.slice A2 e.val.length c2):=by rw[ht4.a.cell];rfl
   have f4:=ht4.a.frozen 2
   have HY:=hid (Qa ht4 (Qa ho4 (Qa hc4 (Qa hb4 (TyB.up hy4 hn4 (Nat.le_trans HLO.out HU.out.1.bl.size))))));clear ht4 hb4 ho4 hc4 hn4 hy4 d3))
 clear d4 f4
 have hst4:=JY HY.out.1.a (by decide) 2 (.slice A4 e.val.length c4)
 refine Qe (fun w'=>Tw w [b8 e.kind,.slice A3 e.key.length c3,.slice A4 e.val.length c4] w'∧(Rd w' A3 (e.key.map b8)∧TyB w' 5 A3)∧Rd w' A4 (e.val.map b8)∧TyB w' 5 A4) ⟨HY.out.1.set 2 _,⟨hst4.rdb (HU.out.2.1.grown HY.out.2.2.2.1) (HU.out.2.2.grown HY.out.2.2.2.1) (by decide),hst4.tyb (HU.out.2.2.grown HY.out.2.2.2.1) (by decide)⟩,hst4.rdb HY.out.2.1 HY.out.2.2.2.2 (by decide),hst4.tyb HY.out.2.2.2.2 (by decide)⟩ ?_
 rintro w5 ⟨ht5,⟨hr5,hy5⟩,hs5,hz5⟩
 have hl5:=ht5.a.whole
 have hh5:=ht5.r.there 0 3 (Nat.le_refl _)
 have hst5:=Js ht5.r (by decide) 0 [b8 e.kind,.slice A3 e.key.length c3,.slice A4 e.val.length c4]
 have hfin:XJ (w5.setCells (w.heap.size+1) 0 [b8 e.kind,.slice A3 e.key.length c3,.slice A4 e.val.length c4]) [b8 e.kind,.slice A3 e.key.length c3,.slice A4 e.val.length c4] e:=
  ⟨A3,c3,A4,c4,rfl,hst5.rdb hr5 hy5 (by decide),hst5.rdb hs5 hz5 (by decide),HV.out.2.2.1,HY.out.2.2.1,hst5.tyb hy5 (by decide),hst5.tyb hz5 (by decide)⟩
 have HOC:=hid hfin.oc
 have hbl:=ht5.bl
 have HF:=hid (Qa hfin (Qc (w.heap.size+1) (by omega:w.heap.size≤w.heap.size+1) [b8 e.kind,.slice A3 e.key.length c3,.slice A4 e.val.length c4] 0 _ hbl))
 clear ht5 hr5 hy5 hs5 hz5 hst5 hfin hbl HU HY HV
 go_wp2_with (first
  |((with_reducible refine Qf 36 (.tmp 1) w.heap.size 0 _ 3 _ rfl hl5 Tryz.underlying36 rfl (by kernel_rfl) ?_ ?_ ?_ ?_);rfl;rfl;rfl)
  |((with_reducible refine Qv 36 (.tmp 2) (.tmp 11) (w.heap.size+1) 0 [b8 e.kind,.slice A3 e.key.length c3,.slice A4 e.val.length c4] 3 rfl hh5 (by kernel_rfl) HOC.out ?_ ?_ ?_ ?_ ?_);rfl;rfl;rfl;rfl))
 exact QD (w.heap.size+1) 0 _ 3 _ rfl (World.rangeAt_setCells_same _ _ _ _ hh5) Tryz.underlying36 rfl (by kernel_rfl) rfl rfl rfl ⟨_,rfl,HF.out.2,HF.out.1⟩
theorem JK (b tb n:Nat)(ds:List (List UInt8))(w:World)(hb:w.cell? ⟨b,0,none⟩=some (ptr tb))(ht:QT w tb n ds):
 Calls Tryz.prog 46 #[ptr b] w fun e w'=>e= .returned (.int .i64 n)∧w=w':=by
 have HT:=hid ht
 clear ht
 go_enter Tryz.func46,Tryz.ntmps46
 go_wp2_with (go_at_call 78;refine (Wo tb n ds _ HT.out).mono ?_;rintro e w2 ⟨rfl,rfl⟩)
 go_ret
 exact⟨rfl,rfl⟩
theorem Qdy (b tb n:Nat)(h1:1≤n)(h2:n≤32)(ds:List (List UInt8))(x:List Value)(e:Ent)(w:World)(hw:Qs w)(hb:w.cell? ⟨b,0,none⟩=some (ptr tb))(ht:QT w tb n ds)(hx:Xu w x e)(hok:En.check e=0):
 Calls Tryz.prog 72 #[ptr b,.agg x.toArray] w fun ee w'=>ee= .returned (dg (Dg.leaf n (En.bytes e)))∧Below w.heap.size w w':=by
 obtain⟨A1,c1,A2,c2,rfl,r1,r2,h3,h4⟩:=hx
 have hlen:=En.bytes_len e hok
 have hdl:=Dg.sum_length n (Dg.leafIn (En.bytes e)) h2
 have HD:=hid (show ((Dg.leaf n (En.bytes e)).map b8).length=32 by unfold Dg.leaf;simp[hdl])
 have HA:=hid (Qa hw (Qa hb (Qa ht (Qa r1 (Qa r2 hok)))))
 clear hw hb ht r1 r2 hok hdl
 have hbx:=Blk.new w 36 [b8 e.kind,.slice A1 e.key.length c1,.slice A2 e.val.length c2]
 have hbr:=Blk.new (w.alloc (.cells #[b8 e.kind,.slice A1 e.key.length c1,.slice A2 e.val.length c2] 36)) 40 (List.replicate 32 (b8 0))
 rw[show (w.alloc (.cells #[b8 e.kind,.slice A1 e.key.length c1,.slice A2 e.val.length c2] 36)).heap.size=w.heap.size+1 by simp] at hbr
 have HB0:=hid (Qa (hbx.alloc (.cells (List.replicate 32 (b8 0)).toArray 40)) (Qa hbr (gro (Qb w (.cells #[b8 e.kind,.slice A1 e.key.length c1,.slice A2 e.val.length c2] 36)) (Qb _ (.cells (List.replicate 32 (b8 0)).toArray 40)))))
 clear hbx hbr
 go_enter Tryz.func72,Tryz.ntmps72
 go_upto_region 1 with fail
 refine Qe (fun w'=>Blk w' w.heap.size 36 [b8 e.kind,.slice A1 e.key.length c1,.slice A2 e.val.length c2]∧Blk w' (w.heap.size+1) 40 (List.replicate 32 (b8 0))∧Below w.heap.size w w') HB0.out ?_
 rintro w1 ⟨hb1,hb2,hbl⟩
 have hl1:=hb1.whole
 have HB:=hid (Qa hb2 hbl)
 clear hb1 hb2 hbl HB0
 go_upto_region 3 with (first
  |((with_reducible refine Qf 36 (.tmp 3) w.heap.size 0 _ 3 _ rfl hl1 Tryz.underlying36 rfl (by kernel_rfl) ?_ ?_ ?_ ?_);rfl;rfl;rfl)
  |(go_at_call 114
    refine (Qbo e A1 A2 c1 c2 w1 (HA.out.2.2.2.1.grown HB.out.2) (HA.out.2.2.2.2.1.grown HB.out.2) HA.out.2.2.2.2.2).mono ?_
    rintro ee w2 ⟨A3,c3,rfl,hb3,hr3,hc3⟩
    have hbw:=gro HB.out.2 hb3
    have HV:=hid (Qa hb3 (Qa hr3 hbw));clear hb3 hr3 hc3 hbw)
  |(go_at_call 46
    refine (JK b tb n ds w2 (by rw[HV.out.2.2.cell (p:=⟨b,0,none⟩) (World.block_lt_of_cell? w _ HA.out.2.1)];exact HA.out.2.1) (HA.out.2.2.1.grown HV.out.2.2)).mono ?_
    rintro ee w3 ⟨rfl,rfl⟩)
  |(go_at_call 115
    refine (Qdb n h1 h2 (En.bytes e) A3 c3 w2 HV.out.2.1 (HA.out.1.below HV.out.2.2) (by omega)).mono ?_
    rintro ee w4 ⟨rfl,hb4⟩
    have HY:=hid hb4;clear hb4)
  |((with_reducible refine Qw 40 (.tmp 7) (.tmp 19) _ _ ((Dg.leaf n (En.bytes e)).map b8) 32 HD.out ?_ (by kernel_rfl) (Qi _) ?_ ?_ ?_ ?_ ?_);rfl;rfl;rfl;rfl;rfl))
 have hb14:=gro HV.out.1 HY.out
 have hb15:=gro hb14 (Qb w4 (.cells ((Dg.leaf n (En.bytes e)).map b8).toArray 40))
 refine Qe (fun w'=>w'.rangeAt w4.heap.size 0 ((Dg.leaf n (En.bytes e)).map b8)∧w'.there (w.heap.size+1) 0 32∧Below w.heap.size w w') ⟨(Blk.new w4 _ _).whole,(HB.out.1.grown hb15).there 0 32 (by simp),gro HB.out.2 hb15⟩ ?_
 rintro w5 ⟨hr5,ht5,hb5⟩
 have HE:=hid hb5
 clear hb5 hb14 hb15
 go_wp2_with (first
  |((with_reducible refine Qf 40 (.tmp 7) w4.heap.size 0 _ 32 _ HD.out hr5 Tryz.underlying40 rfl (by kernel_rfl) ?_ ?_ ?_ ?_);rfl;rfl;rfl)
  |((with_reducible refine Qv 40 (.tmp 4) (.tmp 21) (w.heap.size+1) 0 ((Dg.leaf n (En.bytes e)).map b8) 32 HD.out ht5 (by kernel_rfl) (Qi _) ?_ ?_ ?_ ?_ ?_);rfl;rfl;rfl;rfl))
 exact QD (w.heap.size+1) 0 _ 32 _ HD.out (World.rangeAt_setCells_same _ _ _ _ (by rw[HD.out];exact ht5)) Tryz.underlying40 rfl (by kernel_rfl) rfl rfl rfl ⟨rfl,Qc _ (by omega) _ _ _ HE.out⟩
def Je (r:Rt):Prop:=r.log.length=32∧r.map.length=32∧r.size<18446744073709551616
theorem XG {r:Rt}(h:Je r):(Qd r).length=65:=by unfold Qd;simp[h.1,h.2.1]
theorem Jf (r:Rt):∀ v∈Qd r,v.oneCell'=true:=by
 unfold Qd
 intro v hv
 rcases List.mem_cons.1 hv with rfl|hv
 ·rfl
 ·rcases List.mem_append.1 hv with hv|hv
  ·exact Qi _ v hv
  ·exact Qi _ v hv
def QI (rs:List Rt):List (List Value):=rs.map Qd
theorem Xk {rs:List Rt}(h:∀ r∈rs,Je r):∀ x∈QI rs,x.length=65:=by
 intro x hx
 obtain⟨r,hr,rfl⟩:=List.mem_map.1 hx
 exact XG (h r hr)
theorem Y9 (b:Nat)(A:Option Addr)(c:Nat)(rs:List Rt)(r:Rt)(w:World)(hb:w.cell? ⟨b,3,none⟩=some (.slice A rs.length c))(hA:Rd w A (QI rs).flatten)(hk:∀ r∈rs,Je r)(hl:rs.getLast?=some r)(hn:rs.length<1048576):
 Calls Tryz.prog 29 #[ptr b] w fun e w'=>e= .returned (.agg (Qd r).toArray)∧Below w.heap.size w w':=by
 have hn0:0<rs.length:=List.length_pos_iff.2 (fun e=>by rw[e] at hl;simp at hl)
 have hr:rs[rs.length-1]'(by omega)=r:=by rw[List.getLast?_eq_getElem?,List.getElem?_eq_getElem (by omega)] at hl;exact Option.some.inj hl
 have hmem:r∈rs:=by rw[← hr];exact List.getElem_mem _
 have HLR:=hid (XG (hk r hmem))
 obtain⟨g,o,rfl,hrg⟩:=hA (by
  intro e
  have:=Qk 65 _ (Xk hk)
  rw[e] at this
  simp[QI] at this;omega)
 obtain⟨k,hkk⟩:∃ k,k=rs.length-1:=⟨_,rfl⟩
 have hrl:(QI rs).length=rs.length:=by simp[QI]
 have hp:=Qt hrg (Xk hk) k (by omega)
 have hpe:(QI rs)[k]'(by omega)=Qd r:=by simp only[QI,List.getElem_map];congr 1;rw[← hr];congr 1
 rw[hpe] at hp
 have h0:((rs.length:Int) == 0)=false:=by rw[beq_eq_false_iff_ne];omega
 have hs1:IntKind.i64.wrap ((rs.length:Int)-1)=(k:Int):=by rw[IntKind.wrap_i64];omega
 have hs2:(rs.length:Int)-1=(k:Int):=by omega
 have hki:(0:Int)≤(k:Int)∧(k:Int)< (rs.length:Int):=by omega
 have HP:=hid (Qa hp hb)
 have HS:=hid (Qa hs1 hs2)
 clear hp hb hrg hA hl hr hmem hrl hpe hkk hk hn0 hs1 hs2
 have hrb:=Blk.new w 42 (.int .u64 0 :: List.replicate 64 (b8 0))
 have HB0:=hid (Qa hrb (Qb w (.cells (.int .u64 0 :: List.replicate 64 (b8 0)).toArray 42)))
 clear hrb
 go_enter Tryz.func29,Tryz.ntmps29
 go_upto_region 1 with fail
 refine Qe (fun w'=>Blk w' w.heap.size 42 (.int .u64 0 :: List.replicate 64 (b8 0))∧Below w.heap.size w w') HB0.out ?_
 rintro w1 ⟨hb1,hbl⟩
 have c3:w1.cell? ⟨b,3,none⟩=some (.slice (some ⟨g,o,none⟩) rs.length c):=by rw[hbl.cell (p:=⟨b,3,none⟩) (World.block_lt_of_cell? w _ HP.out.2)];exact HP.out.2
 have hrw:=Qh HP.out.1 hbl (Qo HP.out.1 (by rw[HLR.out];omega))
 have HB:=hid (Qa hb1 (Qa hbl (Qa c3 hrw)))
 clear hb1 hbl hrw HB0
 go_upto_region 3 with fail
 have q3:=Fut.cell HB.out.2.2.1
 have hs1:=HS.out.1
 have hs2:=HS.out.2
 clear c3
 refine Qq 12 (by kernel_rfl) (by kernel_rfl) ?_
 dsimp only[List.take_succ_cons,List.take_zero]
 repeat (first
  |(go_big_quiet_want;(with_reducible refine QG 42 (.tmp 24) g (o+k*65) _ 65 _ HLR.out (QA HB.out.2.2.2) Tryz.underlying42 rfl (by kernel_rfl) ?_ ?_ ?_);rfl;rfl;simp only[Act.put,List.setIfInBounds_toArray,List.set_cons_zero,List.set_cons_succ];go_big_quiet_on)
  |go_big_quiet_step (fail))
 refine wpQuiet_nil ?_
 rintro _ ⟨s,rfl⟩
 have ht:=(HB.out.1.grown s.below).there 0 65 (by simp)
 have hbs:=gro HB.out.2.1 s.below
 have HE:=hid hbs
 clear hbs hs1 hs2 q3
 simp only[List.drop_succ_cons,List.drop_zero]
 go_wp2_with (
  ((with_reducible refine Qv 42 (.tmp 2) (.tmp 25) w.heap.size 0 (Qd r) 65 HLR.out ht (by kernel_rfl) (Jf r) ?_ ?_ ?_ ?_ ?_);rfl;rfl;rfl;rfl))
 exact QD w.heap.size 0 _ 65 _ HLR.out (World.rangeAt_setCells_same _ _ _ _ (by rw[HLR.out];exact ht)) Tryz.underlying42 rfl (by kernel_rfl) rfl rfl rfl ⟨rfl,Qc _ (Nat.le_refl _) _ _ _ HE.out⟩
theorem Yn {P:Program}{T:TypeId}{fields:Array Field}(hT:P.underlying T=some (.struct fields))(i:Nat)(f:Field)(hf:fields[i]?=some f){dd:TypeDesc}(he:P.underlying f.type=some dd)(hd:dd.isRow=false)(cs:Array Value)(v:Value)(hv:cs[f.offset]?=some v)(w:World):(Instr.field T (.agg cs) i).run P w= .ok v w:=by
 have hp:=JN he hd cs f.offset v hv w
 simp[Instr.field,run_underlying hT,hf,asAgg,hp]
theorem WJ (r:Rt)(w:World):(Instr.field 42 (.agg (Qd r).toArray) 0).run Tryz.prog w= .ok (.int .u64 r.size) w:=
 Yn Tryz.underlying42 0 _ rfl Tryz.underlying38 rfl _ _ rfl w
theorem ZM (b:Nat)(A:Option Addr)(c:Nat)(rs:List Rt)(r:Rt)(w:World)(hb:w.cell? ⟨b,3,none⟩=some (.slice A rs.length c))(hA:Rd w A (QI rs).flatten)(hk:∀ r∈rs,Je r)(hl:rs.getLast?=some r)(hn:rs.length<1048576):
 Calls Tryz.prog 47 #[ptr b] w fun e w'=>e= .returned (.int .u64 r.size)∧Below w.heap.size w w':=by
 have HR:=hid (Y9 b A c rs r w hb hA hk hl hn)
 clear hA hk hl hb
 have hsf:=WJ r
 go_enter Tryz.func47,Tryz.ntmps47
 go_wp2_with (go_at_call 29;refine HR.out.mono ?_;rintro e w2 ⟨rfl,hb2⟩;have HV:=hid hb2;clear hb2)
 go_ret
 exact⟨rfl,HV.out⟩
end Go.Proofs.YtpnakfeafekneaaGreatDoor
