/- Part 24 of this proof. -/
import Derived.Test.YtpnakfeafekneaaGreatDoorG23
set_option linter.unusedSimpArgs false
set_option linter.unusedVariables false
set_option maxHeartbeats 8000000
set_option maxRecDepth 100000
namespace Go.Proofs.YtpnakfeafekneaaGreatDoor
open Go.RowKit
theorem WH [Inhabited LoT](B b n:Nat)(h1:1≤n)(h2:n≤32)(f t pb:Nat)(hft:f+1+t=2*n)(m:List Pr)(x:Pr)(A:Option Addr)(c:Nat)(z:Int)(val:Nat→Value)(xc:List Value)(w:World)(hw:Qs w)(hm:XF w b n)(hB:B≤w.heap.size)(ha:Zn (· <B) w n f t pb m A c z val)(hx:QO w xc x)(hs:Hm.Srt n m)(hxs:x.key.length≤64∧x.val.length≤256)
 (hh:Hm.has n t m (Hm.dig n t x)=false):
 Calls Tryz.prog 116 #[ptr b,nbr pb,.int .i64 t,dg (Dg.key n x.key),.agg xc.toArray] w fun e w'=>∃ T p,e= .returned (ifp T p)∧Below w.heap.size w w'∧QL (fun k=>k<B∨w.heap.size≤k) w' n (f+1) t (ifp T p) (Hm.ins n x m):=by
 have hkl:=Dg.sum_length n (Dg.keyIn x.key) h2
 have hklen:(Dg.key n x.key).length=32:=hkl
 have hkf:Dg.form n (Dg.key n x.key)=true:=Dg.form_sum _ _ h2
 have hdl:=Hm.dig_lt n t x
 have hrk:Nib.rank (Hm.bm n t m) (Hm.dig n t x)=(Hm.lo (Hm.has n t m) (Hm.dig n t x)).length:=Hm.bmf_rank _ _ hdl
 have hhs:Nib.has (Hm.bm n t m) (Hm.dig n t x)=false:=by unfold Hm.bm;rw[Hm.bmf_has _ _ hdl];exact hh
 have hbm:=Hm.bm_lt n t m
 have hdo:=Hm.digs_old n t m _ hdl
 rw[hh,if_neg (by decide),List.nil_append] at hdo
 have hdn:=Hm.digs_ins n t x m
 have hdig:Hm.dig n t x=Dg.digit (Dg.key n x.key) t:=rfl
 have hdd:=fun w' (hb:Below w.heap.size w w')=>Xo b n h1 h2 _ hklen hkf t (by omega) w' (hm.grown hb)
 rw[← hdig] at hdd
 generalize hK:Dg.key n x.key=K at hklen hkf hdd
 have HK:=hid hK
 generalize hdv:Hm.dig n t x=d at hdl hrk hhs hdo hdn hdd hh
 have HDV:=hid hdv
 generalize hr:(Hm.lo (Hm.has n t m) d).length=r at hrk
 have hdlen:(Hm.digs n t m).length=r+(Hm.hi (Hm.has n t m) d).length:=by rw[hdo];simp[hr]
 have hd16:=Hm.digs_le (Hm.has n t m)
 have hd16:(Hm.digs n t m).length≤16:=hd16
 generalize hq:Hm.bm n t m=q at hbm hhs hrk
 have HL:=hid (show (K.map b8).length=32 by simp[hklen])
 have hxl:=hx.len
 obtain⟨B1,d1,B2,d2,hxe,hx2⟩:=hx
 have hx:QO w xc x:=⟨B1,d1,B2,d2,hxe,hx2⟩
 have hcn:Hm.child n t d m=[]:=by
  unfold Hm.child
  rw[List.filter_eq_nil_iff]
  intro p hp hd
  have:=Hm.has_iff.2 ⟨p,hp,(by simpa using hd:Hm.dig n t p=d)⟩
  rw[hh] at this;cases this
 have HA:=hid (Qa hw (Qa hm (Qa ha (Qa hx (Qa hs hxs)))))
 have HX:=hid (Qa hxl (Qa hdd (show ∀ y∈[xc],y.length=2 from fun y hy=>by rw[List.mem_singleton] at hy;subst hy;exact hxl)))
 have HQ:=hid (Qa hq (Qa hrk (Qa hdo (Qa hdn (Qa hdlen (Qa hr (Qa hh hcn)))))))
 have k0:=ha.blk
 rw[hq] at k0
 generalize hkk:(Hm.digs n t m).length=kk at k0 hdlen hd16
 have hrkk:r≤kk:=by omega
 have hkk0:0<kk:=by rw[← hkk];exact List.length_pos_iff.2 (fun e=>by
  cases hm':m with
  |nil=>have:=ha.many;rw[hm'] at this;simp[Hm.single] at this
  |cons p q=>have:=Hm.mem_digs.2 ⟨p,(by rw[hm'];simp:p∈m),(rfl:Hm.dig n t p=_)⟩;rw[e] at this;cases this)
 have HKK:=hid (Qa hkk hdlen)
 have HBL:=hid k0
 clear hw hm ha hx hx2 hcn hs hxs hK hkl hxl hdd hq hrk hdo hdn hr hdig k0 hkk hh hdv hdlen
 have hbx:=Zb.new w K xc
 have HBX:=hid hbx
 clear hbx
 subst hxe
 go_enter Tryz.func116,Tryz.ntmps116
 go_upto_region 1 with fail
 refine Qe (fun w'=>Zb w w' K _) HBX.out ?_
 rintro w1 hb1
 have HB:=hid hb1
 clear hb1 HBX
 have hbr:=HA.out.2.2.1.grown HB.out.bl
 have hr1:=HB.out.of.whole
 have HBR:=hid hbr
 clear hbr
 go_upto_region 16 with (first
  |((with_reducible refine Qf 40 (.tmp 8) w.heap.size 0 _ 32 _ HL.out hr1 Tryz.underlying40 rfl (by kernel_rfl) ?_ ?_ ?_ ?_);rfl;rfl;rfl)
  |(go_at_call 96
    refine (HX.out.2.1 w1 HB.out.bl).mono ?_
    rintro e w3 ⟨rfl,hb3⟩
    have k3:=Zj (HBL.out.grown (gro HB.out.bl hb3))
    have HV:=hid hb3;clear hb3)
  |(go_at_call 90
    refine (XP q d hbm hdl _).mono ?_
    rw[HQ.out.2.1]
    rintro e w4 ⟨rfl,hb4⟩
    have HY:=hid hb4;clear hb4 k3))
 have hbw4:=gro HB.out.bl (gro HV.out HY.out)
 have k4:=XB (HBL.out.grown hbw4)
 have hcl:=Zk A kk c ((Hm.digs n t m).map val) w4 (by rw[List.length_map,HKK.out.1];omega) (HA.out.2.2.1.rd.grown hbw4) HA.out.2.2.1.oc (by omega)
 have HC:=hid (Qa hcl (Qa hbw4 (HB.out.grown (gro HV.out HY.out))))
 clear hbw4 hcl hr1 HB HBR HV HY
 go_wp2_with (first
  |((with_reducible refine Qf 40 (.tmp 8) w.heap.size 0 _ 32 _ HL.out hr1 Tryz.underlying40 rfl (by kernel_rfl) ?_ ?_ ?_ ?_);rfl;rfl;rfl)
  |((with_reducible refine Qf 166 (.tmp 9) (w.heap.size+1) 0 _ 2 _ HX.out.1 hr2 Tryz.underlying166 rfl (by kernel_rfl) ?_ ?_ ?_ ?_);rfl;rfl;rfl)
  |((with_reducible refine QY 110 166 1 #[(0,.tmp 109)] [[.slice B1 x.key.length d1,.slice B2 x.val.length d2]] 2 (by decide) HX.out.2.2 rfl (by decide) (by decide) Tryz.underlying110 (by kernel_rfl) ?_ ?_ ?_ ?_);rfl;rfl;rfl)
  |(go_at_call 164
    refine HC.out.1.mono ?_
    rintro e w5 ⟨v5,rfl,hb5,ho5,-⟩
    have k5:=Zj (HBL.out.grown (gro HC.out.2.1 hb5))
    have hbx5:=HC.out.2.2.grown hb5
    have hr1:=hbx5.of.whole
    have hr2:=hbx5.xc.whole
    have hbs5:=Qb w5 (.cells #[.slice B1 x.key.length d1,.slice B2 x.val.length d2] 166)
    have hxs5:=HA.out.2.2.2.1.grown hbx5.bl
    have hpour:=ZK b n h1 h2 K hklen (some ⟨w5.heap.size,0,none⟩) 1 [[.slice B1 x.key.length d1,.slice B2 x.val.length d2]] [x] (w5.alloc (.cells #[.slice B1 x.key.length d1,.slice B2 x.val.length d2] 166)) (HA.out.1.below (gro hbx5.bl hbs5)) (HA.out.2.1.grown (gro hbx5.bl hbs5)) (ZL hxs5) (Ql.one (hxs5.grown hbs5)) ⟨by simp,fun p hp=>by rw[List.mem_singleton] at hp;subst hp;exact HA.out.2.2.2.2.2⟩
    have HY:=hid (Qa hb5 (Qa ho5 (Qa hbx5.bl (Qa hpour (Qa hbs5 hxs5)))))
    clear hb5 ho5 k4 hbx5 hbs5 hxs5 hpour)
  |(go_at_call 91
    refine (XD q d hbm hdl _).mono ?_
    rw[hhs]
    rintro e w6 ⟨rfl,rfl⟩)
  |(go_at_call 161
    refine HY.out.2.2.2.1.mono ?_
    rintro e w7 ⟨p7,rfl,hb7,hk7⟩
    have hrow7:Blk w7 w5.heap.size 166 [.slice B1 x.key.length d1,.slice B2 x.val.length d2]:=(Blk.new w5 _ _).grown hb7
    have hb57:=gro HY.out.2.2.2.2.1 hb7
    have hbx7:=Qb w7 (.cells #[nbk p7] 157)
    have how:=Qg (Qg HY.out.2.1 hb57) hbx7
    have hins:=VA w4.heap.size kk r w7.heap.size v5 ((Hm.digs n t m).map val) [nbk p7] _ how (Blk.new w7 _ _) rfl (fun u hu=>by rw[List.mem_singleton] at hu;subst hu;rfl) HA.out.2.2.1.oc (by omega) hkk0 hrkk (fun e=>by have:=(HY.out.2.1.lt _ e).2;have:=hb57.size;omega) (Nat.le_trans HY.out.1.size (Nat.le_trans hb57.size hbx7.size))
    have HZ:=hid (Qa hins (Qa (Qa (hrow7.grown hbx7) (hk7.grown hbx7)) (Qa (gro hb57 hbx7) hbx7)))
    clear hrow7 hb57 hbx7 how hins hb7 hk7)
  |(go_at_call 165
    refine HZ.out.1.mono ?_
    rintro e w9 ⟨A9,c9,rfl,hb9,hrd9,hc9,hA9,hkp9,hty9⟩
    have hw4s:=HC.out.2.1.size
    have hbl9:Below w.heap.size w w9:=(HY.out.2.2.1.trans (HZ.out.2.2.1.mono HY.out.2.2.1.size)).trans (hb9.mono hw4s)
    have hno:∀ k (ty:TypeId) cs,Blk (w7.alloc (.cells #[nbk p7] 157)) k ty cs→ty≠157→¬v5.ownBlock=some k:=fun k ty cs hb hne=>Xz (Qg HY.out.2.1 HZ.out.2.2.1) hb (Ne.symm hne)
    have hbk9:Bk w9 n (nbk p7) [x]:=⟨p7,K,some ⟨w5.heap.size,0,none⟩,1,[[.slice B1 x.key.length d1,.slice B2 x.val.length d2]],rfl,⟨hkp9.blk HZ.out.2.1.2 (hno _ _ _ HZ.out.2.1.2 (by decide)),Rd.of _ (hkp9.blk HZ.out.2.1.1 (hno _ _ _ HZ.out.2.1.1 (by decide))).whole,Ql.one (HA.out.2.2.2.1.grown hbl9),Nat.le_refl _,fun p hp=>by rw[List.mem_singleton] at hp;subst hp;exact HK.out,hklen,by simp,(hkp9.blk HZ.out.2.1.1 (hno _ _ _ HZ.out.2.1.1 (by decide))).tyd⟩⟩
    have hkids:=HA.out.2.2.1.kids_ins (S':=fun k=>k<B∨w.heap.size≤k) (x:=x) (v:=nbk p7) HA.out.2.2.2.2.1 hbl9 (fun k hk=> .inl hk) (by rw[HDV.out,HQ.out.2.2.2.2.2.2.2];exact hbk9.ht _ _)
    rw[HDV.out] at hkids
    have hrow:Rd w9 A9 ((Hm.digs n t (Hm.ins n x m)).map fun k=>if k=d then nbk p7 else val k):=by
     have e1:((Hm.digs n t m).map val).take (r*1)++([nbk p7]++((Hm.digs n t m).map val).drop (r*1))=(Hm.digs n t (Hm.ins n x m)).map fun k=>if k=d then nbk p7 else val k:=by
      rw[HQ.out.2.2.2.1,Hm.map_upd,HQ.out.2.2.1,List.map_append,Nat.mul_one]
      have hl:((Hm.lo (Hm.has n t m) d).map val).length=r:=by rw[List.length_map];exact HQ.out.2.2.2.2.2.1
      rw[List.take_append_of_le_length (by omega),List.take_of_length_le (by omega),List.drop_append_of_le_length (by omega),List.drop_eq_nil_of_le (by omega),List.nil_append]
     rw[← e1]
     exact hrd9
    have hfk:=ZD (S:=fun k=>k<B∨w.heap.size≤k) b n f t h1 h2 (Hm.ins n x m) (Hm.single_ins_false HA.out.2.2.1.many) (fun k=>if k=d then nbk p7 else val k) A9 c9 (kk+1) (Nib.add q d) _ (HA.out.1.below hbl9) (HA.out.2.1.grown hbl9) (by rw[HQ.out.2.2.2.1,HKK.out.2];simp[HQ.out.2.2.2.2.2.1];omega) (by rw[Hm.bm_ins,HQ.out.1,HDV.out]) hrow hc9 ⟨fun a e=> .inr (Nat.le_trans hw4s (hA9 a e)),hty9⟩ hkids
    have k8:=Zj (HBL.out.below hbl9 HBL.out.lt)
    have HW:=hid (Qa hfk hbl9)
    clear hw4s hbl9 hno hbk9 hkids hrow hfk hb9 hrd9 hc9 hA9 hkp9 hty9 k5)
  |(go_at_call 167;refine (ZJ q d hbm hdl _).mono ?_;rintro e w10 ⟨rfl,rfl⟩)
  |(go_at_call 166;refine HW.out.1.mono ?_;rintro e w11 ⟨b',rfl,hb',hh⟩;have HV:=hid (Qa hb' hh);clear hb' hh))
 go_ret
 exact⟨_,b',rfl,HW.out.2.trans (HV.out.1.mono HW.out.2.size),HV.out.2⟩
theorem Qf2 [Inhabited LoT](b n:Nat)(h1:1≤n)(h2:n≤32)(t:Nat)(x:Pr)(xc:List Value)(w:World)(hw:Qs w)(hm:XF w b n)(hx:QO w xc x)(hxs:x.key.length≤64∧x.val.length≤256):
 Calls Tryz.prog 116 #[ptr b,.nilIface,.int .i64 t,dg (Dg.key n x.key),.agg xc.toArray] w fun e w'=>∃ p,e= .returned (nbk p)∧Below w.heap.size w w'∧Bk w' n (nbk p) [x]:=by
 have hkl:=Dg.sum_length n (Dg.keyIn x.key) h2
 have hklen:(Dg.key n x.key).length=32:=hkl
 generalize hK:Dg.key n x.key=K at hklen
 have HK:=hid hK
 have HL:=hid (show (K.map b8).length=32 by simp[hklen])
 have hxl:=hx.len
 obtain⟨B1,d1,B2,d2,hxe,hx2⟩:=hx
 have hx:QO w xc x:=⟨B1,d1,B2,d2,hxe,hx2⟩
 have HA:=hid (Qa hw (Qa hm (Qa hx hxs)))
 have HX:=hid (Qa hxl (show ∀ y∈[xc],y.length=2 from fun y hy=>by rw[List.mem_singleton] at hy;subst hy;exact hxl))
 clear hw hm hx hxs hK hkl hx2 hxl
 have hbx:=Zb.new w K xc
 have HBX:=hid hbx
 clear hbx
 subst hxe
 go_enter Tryz.func116,Tryz.ntmps116
 go_upto_region 1 with fail
 refine Qe (fun w'=>Zb w w' K _) HBX.out ?_
 rintro w1 hb1
 have hr1:=hb1.of.whole
 have hr2:=hb1.xc.whole
 have hbs:=Qb w1 (.cells #[.slice B1 x.key.length d1,.slice B2 x.val.length d2] 166)
 have hxs2:=HA.out.2.2.1.grown hb1.bl
 have hpour:=ZK b n h1 h2 K hklen (some ⟨w1.heap.size,0,none⟩) 1 [[.slice B1 x.key.length d1,.slice B2 x.val.length d2]] [x] (w1.alloc (.cells #[.slice B1 x.key.length d1,.slice B2 x.val.length d2] 166)) (HA.out.1.below (gro hb1.bl hbs)) (HA.out.2.1.grown (gro hb1.bl hbs)) (ZL hxs2) (Ql.one (hxs2.grown hbs)) ⟨by simp,fun p hp=>by rw[List.mem_singleton] at hp;subst hp;exact HA.out.2.2.2⟩
 have HB:=hid (Qa hb1.bl (Qa hpour (Qa hbs hxs2)))
 clear hb1 HBX hbs hxs2 hpour
 go_wp2_with (first
  |((with_reducible refine Qf 40 (.tmp 8) w.heap.size 0 _ 32 _ HL.out hr1 Tryz.underlying40 rfl (by kernel_rfl) ?_ ?_ ?_ ?_);rfl;rfl;rfl)
  |((with_reducible refine Qf 166 (.tmp 9) (w.heap.size+1) 0 _ 2 _ HX.out.1 hr2 Tryz.underlying166 rfl (by kernel_rfl) ?_ ?_ ?_ ?_);rfl;rfl;rfl)
  |((with_reducible refine QY 110 166 1 #[(0,.tmp 127)] [[.slice B1 x.key.length d1,.slice B2 x.val.length d2]] 2 (by decide) HX.out.2 rfl (by decide) (by decide) Tryz.underlying110 (by kernel_rfl) ?_ ?_ ?_ ?_);rfl;rfl;rfl)
  |(go_at_call 161
    refine HB.out.2.1.mono ?_
    rintro e w5 ⟨pb,rfl,hb5,hk5⟩
    have HV:=hid (Qa hb5 hk5);clear hb5 hk5))
 go_ret
 exact⟨pb,rfl,gro (gro HB.out.1 HB.out.2.2.1) HV.out.1,Jr HV.out.2 HV.out.1 (ZL HB.out.2.2.2) (Ql.one (HB.out.2.2.2.grown HB.out.2.2.1)) (Nat.le_refl _) (fun p hp=>by rw[List.mem_singleton] at hp;subst hp;exact HK.out) hklen (by simp) (Blk.tyd (Blk.new w1 _ _))⟩
theorem Qdt [Inhabited LoT](S:Nat→Prop)(b n:Nat)(h1:1≤n)(h2:n≤32)(f t:Nat)(hft:f+t=2*n)(v:Value)(m:List Pr)(x:Pr)(xc:List Value)(w:World)(hw:Qs w)(hm:XF w b n)(ha:Bk w n v m)(hx:QO w xc x)(hs:Hm.Srt n m)(hbd:Bnd m)(hml:m.length+1<1048576)
 (hpre:∀ p∈m,∀ i,i<t→Hm.dig n i p=Hm.dig n i x) (hxs:x.key.length≤64∧x.val.length≤256) (hS:∀ k,w.heap.size≤k→S k):
 Calls Tryz.prog 116 #[ptr b,v,.int .i64 t,dg (Dg.key n x.key),.agg xc.toArray] w fun e w'=>∃ T p,e= .returned (ifp T p)∧Below w.heap.size w w'∧QL S w' n f t (ifp T p) (Hm.ins n x m):=by
 obtain⟨pa,of,A,c,L,rfl,ha⟩:=ha
 by_cases he:of=Dg.key n x.key
 ·subst he
  cases hf:fnd m (pos m x.key) x.key with
  |true=>exact (VE b n h1 h2 t pa m x A c L xc w hw hm ha hx hs hbd hxs hf).mono fun _ _ ⟨p,e,hb,hk⟩=>⟨_,p,e,hb,hk.ht _ _⟩
  |false=>exact (WF b n h1 h2 t pa m x A c L xc w hw hm ha hx hs hbd hxs hf hml).mono fun _ _ ⟨p,e,hb,hk⟩=>⟨_,p,e,hb,hk.ht _ _⟩
 ·refine Up b n h1 h2 f t pa hft m x of A c L xc w hw hm ha hx hs he (fun i hi=>?_) hxs hS
  cases hme:m with
  |nil=>exact absurd hme ha.ne
  |cons p r=>
   have hp:p∈m:=by rw[hme];simp
   rw[← ha.dig i hp,hpre p hp i hi];rfl
theorem Qf3 [Inhabited LoT](b n:Nat)(h1:1≤n)(h2:n≤32)(x:Pr)(xc:List Value)(hxs:x.key.length≤64∧x.val.length≤256):∀ (f t B:Nat) (v:Value) (m:List Pr) (w:World),f+t=2*n→B≤w.heap.size→Qs w→XF w b n→QO w xc x→QL (· <B) w n f t v m→Hm.Srt n m→Bnd m→m.length+1<1048576→(∀ p∈m,∀ i,i<t→Hm.dig n i p=Hm.dig n i x)→
 Calls Tryz.prog 116 #[ptr b,v,.int .i64 t,dg (Dg.key n x.key),.agg xc.toArray] w fun e w'=>∃ T p,e= .returned (ifp T p)∧Below w.heap.size w w'∧QL (fun k=>k<B∨w.heap.size≤k) w' n f t (ifp T p) (Hm.ins n x m):=by
 intro f
 induction f with
 |zero=>
  intro t B v m w hft hB hw hm hx ha hs hbd hml hpre
  exact Qdt _ b n h1 h2 0 t hft v m x xc w hw hm ha hx hs hbd hml hpre hxs (fun k hk=> .inr hk)
 |succ f ih=>
  intro t B v m w hft hB hw hm hx ha hs hbd hml hpre
  rcases ha with ⟨_,ha⟩|⟨hsg,pb,A,c,z,val,rfl,h3,h4,h5,h6,h7⟩
  ·exact Qdt _ b n h1 h2 (f+1) t hft v m x xc w hw hm ha hx hs hbd hml hpre hxs (fun k hk=> .inr hk)
  ·have hbr:Zn (· <B) w n f t pb m A c z val:=⟨hsg,h3,h4,h5,h6,h7⟩
   cases hh:Hm.has n t m (Hm.dig n t x) with
   |false=>exact WH B b n h1 h2 f t pb hft m x A c z val xc w hw hm hB hbr hx hs hxs hh
   |true=>
    refine WG B b n h1 h2 f t pb hft m x A c z val xc w hw hm hB hbr hx hs hxs hh ?_
    intro w' hb
    have hd:Hm.dig n t x∈Hm.digs n t m:=Hm.mem_digs.2 (Hm.has_iff.1 hh)
    have:=ih (t+1) B (val (Hm.dig n t x)) (Hm.child n t (Hm.dig n t x) m) w' (by omega) (Nat.le_trans hB hb.size) (hw.below hb) (hm.grown hb) (hx.grown hb) (QL.grown hb (h7 _ hd)) hs.child (hbd.filter _) (by have:(Hm.child n t (Hm.dig n t x) m).length≤m.length:=List.length_filter_le _ _;omega) (fun p hp i hi=>by
     obtain⟨hp1,hp2⟩:=Hm.mem_child.1 hp
     rcases Nat.lt_or_ge i t with h|h
     ·exact hpre p hp1 i h
     ·obtain rfl:i=t:=by omega
      exact hp2)
    rw[show ((t+1:Nat):Int)=(t:Int)+1 from rfl] at this
    exact this
end Go.Proofs.YtpnakfeafekneaaGreatDoor
