/- Part 23 of this proof. -/
import Derived.Test.YtpnakfeafekneaaGreatDoorG18
import Derived.Test.YtpnakfeafekneaaGreatDoorG22
set_option linter.unusedSimpArgs false
set_option linter.unusedVariables false
set_option maxHeartbeats 8000000
set_option maxRecDepth 100000
namespace Go.Proofs.YtpnakfeafekneaaGreatDoor
open Go.RowKit
@[go_sem] theorem Qhu (p:Nat)(w:World):(Instr.typeAssert (nbk p) 157 160 true).run Tryz.prog w= .ok (.tuple #[ptr p,.bool true]) w:=by kernel_rfl
@[go_sem] theorem Qhv (p:Nat)(w:World):(Instr.typeAssert (nbr p) 157 160 true).run Tryz.prog w= .ok (.tuple #[.pointer none,.bool false]) w:=by kernel_rfl
@[go_sem] theorem Qhw (p:Nat)(w:World):(Instr.typeAssert (nbr p) 157 167 true).run Tryz.prog w= .ok (.tuple #[ptr p,.bool true]) w:=by kernel_rfl
@[go_sem] theorem Qhj (w:World):(Instr.typeAssert .nilIface 157 160 true).run Tryz.prog w= .ok (.tuple #[.pointer none,.bool false]) w:=by kernel_rfl
@[go_sem] theorem Qhk (w:World):(Instr.typeAssert .nilIface 157 167 true).run Tryz.prog w= .ok (.tuple #[.pointer none,.bool false]) w:=by kernel_rfl
structure Zb (w w1:World) (of:List UInt8) (xc:List Value):Prop where
 of:Blk w1 w.heap.size 40 (of.map b8)
 xc:Blk w1 (w.heap.size+1) 166 xc
 bl:Below w.heap.size w w1
theorem Zb.new (w:World)(of:List UInt8)(xc:List Value):Zb w ((w.alloc (.cells (of.map b8).toArray 40)).alloc (.cells xc.toArray 166)) of xc:=by
 have h:=Blk.new (w.alloc (.cells (of.map b8).toArray 40)) 166 xc
 rw[show (w.alloc (.cells (of.map b8).toArray 40)).heap.size=w.heap.size+1 by simp] at h
 exact⟨(Blk.new w _ _).alloc _,h,gro (Qb _ _) (Qb _ _)⟩
theorem Zb.grown {w w1 w2:World}{of:List UInt8}{xc:List Value}(h:Zb w w1 of xc)(hb:Below w1.heap.size w1 w2):Zb w w2 of xc:=⟨h.of.grown hb,h.xc.grown hb,gro h.bl hb⟩
theorem ZL [Inhabited LoT]{w:World}{xc:List Value}{x:Pr}(h:QO w xc x):Rd (w.alloc (.cells [xc].flatten.toArray 166)) (some ⟨w.heap.size,0,none⟩) [xc].flatten:=Rd.of _ (Blk.new w _ _).whole
theorem Up [Inhabited LoT]{S:Nat→Prop}(b n:Nat)(h1:1≤n)(h2:n≤32)(f t pa:Nat)(hft:f+t=2*n)(m:List Pr)(x:Pr)(ofa:List UInt8)(A:Option Addr)(c:Nat)(L:List (List Value))(xc:List Value)(w:World)(hw:Qs w)(hm:XF w b n)(ha:Zd w n pa m ofa A c L)(hx:QO w xc x)(hs:Hm.Srt n m)(hne:ofa≠Dg.key n x.key)
 (hpre:∀ i,i<t→Dg.digit ofa i=Dg.digit (Dg.key n x.key) i) (hxs:x.key.length≤64∧x.val.length≤256) (hS:∀ k,w.heap.size≤k→S k):
 Calls Tryz.prog 116 #[ptr b,nbk pa,.int .i64 t,dg (Dg.key n x.key),.agg xc.toArray] w fun e w'=>∃ T p,e= .returned (ifp T p)∧Below w.heap.size w w'∧QL S w' n f t (ifp T p) (Hm.ins n x m):=by
 have hkl:=Dg.sum_length n (Dg.keyIn x.key) h2
 have hklen:(Dg.key n x.key).length=32:=hkl
 generalize hK:Dg.key n x.key=K at hne hpre hklen
 have HK:=hid hK
 have HL:=hid (show (K.map b8).length=32 by simp[hklen])
 have HLa:=hid (show (ofa.map b8).length=32 by simp[ha.len])
 have hneq:=X6 (P:=Tryz.prog) Tryz.underlying40 Tryz.underlying5 (by kernel_rfl) ofa K ha.len hklen
 rw[show (!decide (ofa=K))=true by simp[hne]] at hneq
 have hxl:=hx.len
 obtain⟨B1,d1,B2,d2,hxe,hx2⟩:=hx
 have hx:QO w xc x:=⟨B1,d1,B2,d2,hxe,hx2⟩
 have HA:=hid (Qa hw (Qa hm (Qa ha (Qa hx (Qa hs (Qa hne (Qa hpre hxs)))))))
 have HX:=hid (Qa hxl (show ∀ y∈[xc],y.length=2 from fun y hy=>by rw[List.mem_singleton] at hy;subst hy;exact hxl))
 clear hw hm ha hx hs hne hpre hxs hK hkl hx2 hxl
 have hbx:=Zb.new w K xc
 have HBX:=hid hbx
 clear hbx
 subst hxe
 go_enter Tryz.func116,Tryz.ntmps116
 go_upto_region 1 with fail
 refine Qe (fun w'=>Zb w w' K _) HBX.out ?_
 rintro w1 hb1
 have HB:=hid hb1
 clear hb1 HBX
 go_upto_region 4 with fail
 have hq1:=QA (HB.out.of.whole)
 have hq2:=QA (Qm (Y1 HA.out.2.2.1.blk) HB.out.bl)
 have HQ:=hid (Qa hq1 hq2)
 clear hq1 hq2
 refine Qr (by kernel_rfl) (by kernel_rfl) ?_
 repeat (first
  |(go_big_quiet_want;(with_reducible refine QG 40 (.tmp 25) pa 0 _ 32 _ HLa.out HQ.out.2 Tryz.underlying40 rfl (by kernel_rfl) ?_ ?_ ?_);rfl;rfl;simp only[Act.put,List.setIfInBounds_toArray,List.set_cons_zero,List.set_cons_succ];go_big_quiet_on)
  |(go_big_quiet_want;(with_reducible refine QG 40 (.tmp 8) w.heap.size 0 _ 32 _ HL.out HQ.out.1 Tryz.underlying40 rfl (by kernel_rfl) ?_ ?_ ?_);rfl;rfl;simp only[Act.put,List.setIfInBounds_toArray,List.set_cons_zero,List.set_cons_succ];go_big_quiet_on)
  |go_big_quiet_step (fail))
 refine wpQuiet_nil ?_
 rintro _ ⟨s,rfl⟩
 have hb2:=HB.out.grown s.below
 have hr1:=hb2.of.whole
 have hr2:=hb2.xc.whole
 have hbx2:=Qb s.v (.cells #[.slice B1 x.key.length d1,.slice B2 x.val.length d2] 166)
 have hxs2:=HA.out.2.2.2.1.grown hb2.bl
 have hpour:=ZK b n h1 h2 K hklen (some ⟨s.v.heap.size,0,none⟩) 1 [[.slice B1 x.key.length d1,.slice B2 x.val.length d2]] [x] (s.v.alloc (.cells #[.slice B1 x.key.length d1,.slice B2 x.val.length d2] 166)) (HA.out.1.below (gro hb2.bl hbx2)) (HA.out.2.1.grown (gro hb2.bl hbx2)) (ZL hxs2) (Ql.one (hxs2.grown hbx2)) ⟨by simp,fun p hp=>by rw[List.mem_singleton] at hp;subst hp;exact HA.out.2.2.2.2.2.2.2⟩
 have HC:=hid (Qa hb2 (Qa hpour (Qa hbx2 hxs2)))
 clear hb2 HQ hneq hpour hbx2 hxs2
 go_wp2_with (first
  |((with_reducible refine Qf 40 (.tmp 8) w.heap.size 0 _ 32 _ HL.out hr1 Tryz.underlying40 rfl (by kernel_rfl) ?_ ?_ ?_ ?_);rfl;rfl;rfl)
  |((with_reducible refine Qf 166 (.tmp 9) (w.heap.size+1) 0 _ 2 _ HX.out.1 hr2 Tryz.underlying166 rfl (by kernel_rfl) ?_ ?_ ?_ ?_);rfl;rfl;rfl)
  |((with_reducible refine QY 110 166 1 #[(0,.tmp 34)] [[.slice B1 x.key.length d1,.slice B2 x.val.length d2]] 2 (by decide) HX.out.2 rfl (by decide) (by decide) Tryz.underlying110 (by kernel_rfl) ?_ ?_ ?_ ?_);rfl;rfl;rfl)
  |(go_at_call 161
    refine HC.out.2.1.mono ?_
    rintro e w5 ⟨pb,rfl,hb5,hk5⟩
    have hbk:Zd w5 n pb [x] K (some ⟨s.v.heap.size,0,none⟩) 1 [[.slice B1 x.key.length d1,.slice B2 x.val.length d2]]:=⟨hk5,(ZL HC.out.2.2.2).grown hb5,Ql.one ((HC.out.2.2.2.grown HC.out.2.2.1).grown hb5),Nat.le_refl _,fun p hp=>by rw[List.mem_singleton] at hp;subst hp;exact HK.out,hklen,by simp,(Blk.tyd (Blk.new s.v _ _)).grown hb5⟩
    have hbl5:=gro HC.out.1.bl (gro HC.out.2.2.1 hb5)
    have hjn:=Qb1 b n h1 h2 m x ofa K HA.out.2.2.2.2.1 HA.out.2.2.2.2.2.1 f t pa pb A _ c _ L _ w5 hft (fun k hk=>hS k (Nat.le_trans hbl5.size hk)) HA.out.2.2.2.2.2.2.1 (HA.out.2.2.1.grown hbl5) hbk (HA.out.1.below hbl5) (HA.out.2.1.grown hbl5)
    have HV:=hid (Qa hbl5 hjn);clear hb5 hk5 hbk hbl5 hjn)
  |(go_at_call 160
    refine HV.out.2.mono ?_
    rintro e w6 ⟨T6,p6,rfl,hb6,hh6⟩
    have HZ:=hid (Qa hb6 hh6);clear hb6 hh6))
 go_ret
 exact⟨T6,p6,rfl,gro HV.out.1 HZ.out.1,HZ.out.2⟩
theorem Uq {α:Type}(cur y:List α)(o k:Nat)(h1:o+y.length≤k)(h2:k≤cur.length):(splice cur o y).take k=(cur.take k).take o++(y++(cur.take k).drop (o+y.length)):=by
 have e:(cur.take k).take o++(y++(cur.take k).drop (o+y.length))=splice (cur.take k) o y:=by unfold splice;rfl
 rw[e]
 apply List.ext_getElem?
 intro i
 rw[List.getElem?_take,Xm _ _ _ (by omega),Xm _ _ _ (by rw[List.length_take];omega),List.getElem?_take]
 by_cases hi:i<k
 ·rw[if_pos hi,if_pos hi]
 ·rw[if_neg hi,if_neg hi,if_neg (by omega),if_neg (by omega)]
theorem Jr [Inhabited LoT]{w w':World}{n b':Nat}{m:List Pr}{of:List UInt8}{A:Option Addr}{c:Nat}{L:List (List Value)}(hb:Blk w' b' 164 (Xq of (.slice A m.length c) (Dg.bucket n m)))(hg:Below w.heap.size w w')(hr:Rd w A L.flatten)(hp:Ql w L m)(hc:m.length≤c)(hk:∀ p∈m,Dg.key n p.key=of)(hl:of.length=32)(hne:m≠[])(hty:Tyd w 166 A):Bk w' n (nbk b') m:=
 ⟨b',of,A,c,L,rfl,hb,hr.grown hg,hp.grown hg,hc,hk,hl,hne,hty.grown hg⟩
theorem VE [Inhabited LoT](b n:Nat)(h1:1≤n)(h2:n≤32)(t pa:Nat)(m:List Pr)(x:Pr)(A:Option Addr)(c:Nat)(L:List (List Value))(xc:List Value)(w:World)(hw:Qs w)(hm:XF w b n)(ha:Zd w n pa m (Dg.key n x.key) A c L)(hx:QO w xc x)(hs:Hm.Srt n m)(hbd:Bnd m)
 (hxs:x.key.length≤64∧x.val.length≤256) (hf:fnd m (pos m x.key) x.key=true):
 Calls Tryz.prog 116 #[ptr b,nbk pa,.int .i64 t,dg (Dg.key n x.key),.agg xc.toArray] w fun e w'=>∃ p,e= .returned (nbk p)∧Below w.heap.size w w'∧Bk w' n (nbk p) (Hm.ins n x m):=by
 have hin:=Qb2 hs ha.key rfl hf
 have hsp:=WE (key:=x.key) hs ha.key
 have hplt:pos m x.key<m.length:=by obtain⟨p,hp,_⟩:=ZU.1 hf;exact (List.getElem?_eq_some_iff.1 hp).1
 have hkey:=ha.key
 have hklen:(Dg.key n x.key).length=32:=ha.len
 have hcf:=fun w' (hb:Below w.heap.size w w') Ak ck (hk:Rd w' Ak (x.key.map b8))=>K1 n A Ak c ck L m (Dg.key n x.key) x.key w' (ha.rd.grown hb) (ha.at_.grown hb) hk hbd hs ha.key
 rw[hf] at hcf
 generalize hK:Dg.key n x.key=K at ha hcf hklen hkey
 have HK:=hid hK
 generalize hpo:pos m x.key=po at hin hsp hplt hcf
 have HL:=hid (show (K.map b8).length=32 by simp[hklen])
 have hneq:=X6 (P:=Tryz.prog) Tryz.underlying40 Tryz.underlying5 (by kernel_rfl) K K hklen hklen
 rw[show (!decide (K=K))=false by simp] at hneq
 have hxl:=hx.len
 obtain⟨B1,d1,B2,d2,hxe,hx2⟩:=hx
 have hx:QO w xc x:=⟨B1,d1,B2,d2,hxe,hx2⟩
 have HA:=hid (Qa hw (Qa hm (Qa ha (Qa hx (Qa hs (Qa hbd (Qa hxs (Qa hin (Qa hkey hx2)))))))))
 have HX:=hid (Qa hxl hcf)
 have h0:0<m.length:=by omega
 have hml:=hbd.1
 clear hw hm ha hx hs hxs hK hx2 hxl hcf hbd hin hsp hkey hf hpo
 have hbx:=Zb.new w K xc
 have HBX:=hid hbx
 clear hbx
 subst hxe
 go_enter Tryz.func116,Tryz.ntmps116
 go_upto_region 1 with fail
 refine Qe (fun w'=>Zb w w' K _) HBX.out ?_
 rintro w1 hb1
 have HB:=hid hb1
 clear hb1 HBX
 go_upto_region 4 with fail
 have hq1:=QA (HB.out.of.whole)
 have hq2:=QA (Qm (Y1 HA.out.2.2.1.blk) HB.out.bl)
 have HQ:=hid (Qa hq1 hq2)
 clear hq1 hq2
 refine Qr (by kernel_rfl) (by kernel_rfl) ?_
 repeat (first
  |(go_big_quiet_want;(with_reducible refine QG 40 (.tmp 25) pa 0 _ 32 _ HL.out HQ.out.2 Tryz.underlying40 rfl (by kernel_rfl) ?_ ?_ ?_);rfl;rfl;simp only[Act.put,List.setIfInBounds_toArray,List.set_cons_zero,List.set_cons_succ];go_big_quiet_on)
  |(go_big_quiet_want;(with_reducible refine QG 40 (.tmp 8) w.heap.size 0 _ 32 _ HL.out HQ.out.1 Tryz.underlying40 rfl (by kernel_rfl) ?_ ?_ ?_);rfl;rfl;simp only[Act.put,List.setIfInBounds_toArray,List.set_cons_zero,List.set_cons_succ];go_big_quiet_on)
  |go_big_quiet_step (fail))
 refine wpQuiet_nil ?_
 rintro _ ⟨s,rfl⟩
 have hb2:=HB.out.grown s.below
 have HC:=hid hb2
 clear hb2 HQ hneq
 go_upto_region 6 with fail
 have q1:=Fut.cell (show s.v.cell? ⟨pa,32,none⟩=some (.slice A m.length c) from Xd (HA.out.2.2.1.blk.grown HC.out.bl) hklen)
 have q2:=Fut.cell (show s.v.cell? ⟨w.heap.size+1,0,none⟩=some (.slice B1 x.key.length d1) from by rw[HC.out.xc.cell];rfl)
 have hcf:∀ s2:Fut s.v,Calls Tryz.prog 94 #[.slice A m.length c,.slice B1 x.key.length d1] s2.v fun e w''=>e= .returned (.tuple #[.int .i64 po,.bool true])∧∃ s':Fut s.v,w''=s'.v:=fun s2=>Calls.fut_of (HX.out.2 s2.v (gro HC.out.bl s2.below) B1 d1 ((HA.out.2.2.2.2.2.2.2.2.2.1.grown HC.out.bl).grown s2.below))
 have HQ:=hid hcf
 clear hcf
 refine Qr (by kernel_rfl) (by kernel_rfl) ?_
 repeat (go_big_quiet_step (with_reducible exact HQ.out _))
 refine wpQuiet_nil ?_
 rintro _ ⟨s2,rfl⟩
 clear q1 q2 HQ
 have hb3:=HC.out.grown s2.below
 have k32:s2.v.cell? ⟨pa,32,none⟩=some (.slice A m.length c):=Xd (HA.out.2.2.1.blk.grown hb3.bl) hklen
 have hcl:=Z4 A m.length c L.flatten s2.v HA.out.2.2.1.at_.flat (HA.out.2.2.1.rd.grown hb3.bl) HA.out.2.2.1.at_.oc (by omega)
 have hpi:(0:Int)≤(po:Int)∧(po:Int)< (m.length:Int):=by omega
 have hlen:(Hm.ins n x m).length=m.length:=by rw[HA.out.2.2.2.2.2.2.2.1];simp;omega
 have HD:=hid (Qa hb3 (Qa hcl hlen))
 clear hb3 hcl hlen HB HC
 go_wp2_with (first
  |((with_reducible refine Qf 40 (.tmp 8) w.heap.size 0 _ 32 _ HL.out hr1 Tryz.underlying40 rfl (by kernel_rfl) ?_ ?_ ?_ ?_);rfl;rfl;rfl)
  |((with_reducible refine Qf 166 (.tmp 9) (w.heap.size+1) 0 _ 2 _ HX.out.1 hr2 Tryz.underlying166 rfl (by kernel_rfl) ?_ ?_ ?_ ?_);rfl;rfl;rfl)
  |((with_reducible refine Qv 166 (.tmp 57) (.tmp 56) g5 (po*2) [.slice B1 x.key.length d1,.slice B2 x.val.length d2] 2 HX.out.1 ht5 (by kernel_rfl) HY.out.2.2 ?_ ?_ ?_ ?_ ?_);rfl;rfl;rfl;rfl)
  |(go_at_call 162
    refine HD.out.2.1.mono ?_
    rintro e w5 ⟨v5,rfl,hb5,ho5,-⟩
    obtain⟨g5,c5,cur5,rfl,hm5⟩:=XS ho5 h0
    have hb6:=HD.out.1.grown hb5
    have hr2:=hb6.xc.whole
    have hm5l:=hm5.len
    have hm5c:=hm5.hc
    have ht5:w5.there g5 (po*2) 2:=hm5.blk.there _ _ (by omega)
    have hkp:Qu (· =g5) w5 (w5.setCells g5 (po*2) [.slice B1 x.key.length d1,.slice B2 x.val.length d2]):=(Qu.refl _ _).setN _ _
    have hg5:=hm5.hB
    have hz2:=HD.out.1.xc.lt
    have hr1:=(hkp.blk hb6.of (by omega)).whole
    have hbf:Below w.heap.size w (w5.setCells g5 (po*2) [.slice B1 x.key.length d1,.slice B2 x.val.length d2]):=Qc _ (by omega) _ _ _ hb6.bl
    have hbs:=hm5.blk.setCells [Value.slice B1 x.key.length d1,.slice B2 x.val.length d2] (po*2) _ (by simp only[List.length_cons,List.length_nil];omega)
    have hxc:=HA.out.2.2.2.1.grown hbf
    have hpat:Ql (w5.setCells g5 (po*2) [.slice B1 x.key.length d1,.slice B2 x.val.length d2]) (L.take po++([[Value.slice B1 x.key.length d1,Value.slice B2 x.val.length d2]]++L.drop (po+1))) (Hm.ins n x m):=by
     rw[HA.out.2.2.2.2.2.2.2.1]
     exact ((HA.out.2.2.1.at_.grown hbf).take _).append ((Ql.one hxc).append ((HA.out.2.2.1.at_.grown hbf).drop _))
    have hrd:Rd (w5.setCells g5 (po*2) [.slice B1 x.key.length d1,.slice B2 x.val.length d2]) (some ⟨g5,0,none⟩) (L.take po++([[Value.slice B1 x.key.length d1,Value.slice B2 x.val.length d2]]++L.drop (po+1))).flatten:=by
     have e1:=Uq cur5 [Value.slice B1 x.key.length d1,Value.slice B2 x.val.length d2] (po*2) (m.length*2) (by simp only[List.length_cons,List.length_nil];omega) (by omega)
     rw[hm5.hx,XT 2 _ _ HA.out.2.2.1.at_.two,show po*2+[Value.slice B1 x.key.length d1,Value.slice B2 x.val.length d2].length=(po+1)*2 by simp only[List.length_cons,List.length_nil];omega,XU 2 _ _ HA.out.2.2.1.at_.two] at e1
     have e2:(L.take po++([[Value.slice B1 x.key.length d1,Value.slice B2 x.val.length d2]]++L.drop (po+1))).flatten=(L.take po).flatten++([Value.slice B1 x.key.length d1,Value.slice B2 x.val.length d2]++(L.drop (po+1)).flatten):=by simp
     rw[e2,←e1]
     exact Rd.of _ (hbs.takes _)
    have hbd:Bnd (Hm.ins n x m):=⟨by rw[HD.out.2.2];exact hml,fun p hp=>by
     rcases Hm.mem_ins hp with rfl|hp
     ·exact HA.out.2.2.2.2.2.2.1
     ·exact HA.out.2.2.2.2.2.1.2 p hp⟩
    have hpour:=ZK b n h1 h2 K hklen (some ⟨g5,0,none⟩) c5 _ (Hm.ins n x m) _ (HA.out.1.below hbf) (HA.out.2.1.grown hbf) hrd hpat hbd
    rw[HD.out.2.2] at hpour
    have HY:=hid (Qa hpour (Qa hbf hxc.oc))
    have HY2:=hid (Qa hrd (Qa hpat (Qa hm5c (hbs.tyd (o:=0)))))
    clear hb6 hm5l hm5c hkp hg5 hz2 hbf hbs hxc hpat hrd hbd hpour hm5 ho5 hb5)
  |(go_at_call 161
    refine HY.out.1.mono ?_
    rintro e w7 ⟨pb,rfl,hb7,hk7⟩
    have HZ:=hid (Qa hb7 hk7);clear hb7 hk7))
 go_ret
 refine⟨pb,rfl,gro HY.out.2.1 HZ.out.1,Jr (by rw[HD.out.2.2];exact HZ.out.2) HZ.out.1 HY2.out.1 HY2.out.2.1 (by rw[HD.out.2.2];exact HY2.out.2.2.1) ?_ hklen ?_ HY2.out.2.2.2⟩
 ·intro p hp
  rcases Hm.mem_ins hp with rfl|hp
  ·exact HK.out
  ·exact HA.out.2.2.2.2.2.2.2.2.1 p hp
 ·intro e
  have:=Hm.x_mem_ins n x m
  rw[e] at this;cases this
theorem WF [Inhabited LoT](b n:Nat)(h1:1≤n)(h2:n≤32)(t pa:Nat)(m:List Pr)(x:Pr)(A:Option Addr)(c:Nat)(L:List (List Value))(xc:List Value)(w:World)(hw:Qs w)(hm:XF w b n)(ha:Zd w n pa m (Dg.key n x.key) A c L)(hx:QO w xc x)(hs:Hm.Srt n m)(hbd:Bnd m)
 (hxs:x.key.length≤64∧x.val.length≤256) (hf:fnd m (pos m x.key) x.key=false) (hml1:m.length+1<1048576):
 Calls Tryz.prog 116 #[ptr b,nbk pa,.int .i64 t,dg (Dg.key n x.key),.agg xc.toArray] w fun e w'=>∃ p,e= .returned (nbk p)∧Below w.heap.size w w'∧Bk w' n (nbk p) (Hm.ins n x m):=by
 have hin:=Qf1 hs ha.key rfl hf
 have hsp:=WE (key:=x.key) hs ha.key
 have hplt:pos m x.key≤m.length:=hsp.le
 have hkey:=ha.key
 have hklen:(Dg.key n x.key).length=32:=ha.len
 have hcf:=fun w' (hb:Below w.heap.size w w') Ak ck (hk:Rd w' Ak (x.key.map b8))=>K1 n A Ak c ck L m (Dg.key n x.key) x.key w' (ha.rd.grown hb) (ha.at_.grown hb) hk hbd hs ha.key
 rw[hf] at hcf
 generalize hK:Dg.key n x.key=K at ha hcf hklen hkey
 have HK:=hid hK
 generalize hpo:pos m x.key=po at hin hsp hplt hcf
 have HL:=hid (show (K.map b8).length=32 by simp[hklen])
 have hneq:=X6 (P:=Tryz.prog) Tryz.underlying40 Tryz.underlying5 (by kernel_rfl) K K hklen hklen
 rw[show (!decide (K=K))=false by simp] at hneq
 have hxl:=hx.len
 obtain⟨B1,d1,B2,d2,hxe,hx2⟩:=hx
 have hx:QO w xc x:=⟨B1,d1,B2,d2,hxe,hx2⟩
 have HA:=hid (Qa hw (Qa hm (Qa ha (Qa hx (Qa hs (Qa hbd (Qa hxs (Qa hin (Qa hkey hx2)))))))))
 have HX:=hid (Qa hxl hcf)
 have HX2:=hid (show ∀ y∈[xc],y.length=2 from fun y hy=>by rw[List.mem_singleton] at hy;subst hy;exact hxl)
 have h0:0<m.length:=List.length_pos_iff.2 ha.ne
 have hml:=hbd.1
 clear hw hm ha hx hs hxs hK hx2 hxl hcf hbd hin hsp hkey hf hpo
 have hbx:=Zb.new w K xc
 have HBX:=hid hbx
 clear hbx
 subst hxe
 go_enter Tryz.func116,Tryz.ntmps116
 go_upto_region 1 with fail
 refine Qe (fun w'=>Zb w w' K _) HBX.out ?_
 rintro w1 hb1
 have HB:=hid hb1
 clear hb1 HBX
 go_upto_region 4 with fail
 have hq1:=QA (HB.out.of.whole)
 have hq2:=QA (Qm (Y1 HA.out.2.2.1.blk) HB.out.bl)
 have HQ:=hid (Qa hq1 hq2)
 clear hq1 hq2
 refine Qr (by kernel_rfl) (by kernel_rfl) ?_
 repeat (first
  |(go_big_quiet_want;(with_reducible refine QG 40 (.tmp 25) pa 0 _ 32 _ HL.out HQ.out.2 Tryz.underlying40 rfl (by kernel_rfl) ?_ ?_ ?_);rfl;rfl;simp only[Act.put,List.setIfInBounds_toArray,List.set_cons_zero,List.set_cons_succ];go_big_quiet_on)
  |(go_big_quiet_want;(with_reducible refine QG 40 (.tmp 8) w.heap.size 0 _ 32 _ HL.out HQ.out.1 Tryz.underlying40 rfl (by kernel_rfl) ?_ ?_ ?_);rfl;rfl;simp only[Act.put,List.setIfInBounds_toArray,List.set_cons_zero,List.set_cons_succ];go_big_quiet_on)
  |go_big_quiet_step (fail))
 refine wpQuiet_nil ?_
 rintro _ ⟨s,rfl⟩
 have hb2:=HB.out.grown s.below
 have HC:=hid hb2
 clear hb2 HQ hneq
 go_upto_region 6 with fail
 have q1:=Fut.cell (show s.v.cell? ⟨pa,32,none⟩=some (.slice A m.length c) from Xd (HA.out.2.2.1.blk.grown HC.out.bl) hklen)
 have q2:=Fut.cell (show s.v.cell? ⟨w.heap.size+1,0,none⟩=some (.slice B1 x.key.length d1) from by rw[HC.out.xc.cell];rfl)
 have hcf:∀ s2:Fut s.v,Calls Tryz.prog 94 #[.slice A m.length c,.slice B1 x.key.length d1] s2.v fun e w''=>e= .returned (.tuple #[.int .i64 po,.bool false])∧∃ s':Fut s.v,w''=s'.v:=fun s2=>Calls.fut_of (HX.out.2 s2.v (gro HC.out.bl s2.below) B1 d1 ((HA.out.2.2.2.2.2.2.2.2.2.1.grown HC.out.bl).grown s2.below))
 have HQ:=hid hcf
 clear hcf
 refine Qr (by kernel_rfl) (by kernel_rfl) ?_
 repeat (go_big_quiet_step (with_reducible exact HQ.out _))
 refine wpQuiet_nil ?_
 rintro _ ⟨s2,rfl⟩
 clear q1 q2 HQ
 have hb3:=HC.out.grown s2.below
 have k32:s2.v.cell? ⟨pa,32,none⟩=some (.slice A m.length c):=Xd (HA.out.2.2.1.blk.grown hb3.bl) hklen
 have hcl:=Z4 A m.length c L.flatten s2.v HA.out.2.2.1.at_.flat (HA.out.2.2.1.rd.grown hb3.bl) HA.out.2.2.1.at_.oc (by omega)
 have hpi:(0:Int)≤(po:Int)∧(po:Int)≤(m.length:Int):=by omega
 have hlen:(Hm.ins n x m).length=m.length+1:=by rw[HA.out.2.2.2.2.2.2.2.1];simp;omega
 have HD:=hid (Qa hb3 (Qa hcl hlen))
 clear hb3 hcl hlen HB HC
 go_wp2_with (first
  |((with_reducible refine Qf 40 (.tmp 8) w.heap.size 0 _ 32 _ HL.out hr1 Tryz.underlying40 rfl (by kernel_rfl) ?_ ?_ ?_ ?_);rfl;rfl;rfl)
  |((with_reducible refine Qf 166 (.tmp 9) (w.heap.size+1) 0 _ 2 _ HX.out.1 hr2 Tryz.underlying166 rfl (by kernel_rfl) ?_ ?_ ?_ ?_);rfl;rfl;rfl)
  |((with_reducible refine QY 110 166 1 #[(0,.tmp 60)] [[.slice B1 x.key.length d1,.slice B2 x.val.length d2]] 2 (by decide) HX2.out rfl (by decide) (by decide) Tryz.underlying110 (by kernel_rfl) ?_ ?_ ?_ ?_);rfl;rfl;rfl)
  |(go_at_call 162
    refine HD.out.2.1.mono ?_
    rintro e w5 ⟨v5,rfl,hb5,ho5,-⟩
    have hb6:=HD.out.1.grown hb5
    have hr2:=hb6.xc.whole
    have hbx:=Qb w5 (.cells #[.slice B1 x.key.length d1,.slice B2 x.val.length d2] 166)
    have hxc:=HA.out.2.2.2.1.grown hb6.bl
    have hic:=Vz s2.v.heap.size m.length po w5.heap.size v5 L.flatten [.slice B1 x.key.length d1,.slice B2 x.val.length d2] _ (Qg ho5 hbx) (Blk.new w5 _ _) rfl hxc.oc HA.out.2.2.1.at_.oc hml h0 hplt (fun e=>by have:=(ho5.lt _ e).2;omega) (Nat.le_trans hb5.size hbx.size)
    have HY:=hid (Qa hic (Qa (hb6.grown hbx) hb5.size))
    clear hb6 hbx hxc hic ho5 hb5)
  |(go_at_call 163
    refine HY.out.1.mono ?_
    rintro e w7 ⟨A7,c7,rfl,hb7,hrd7,hc7,-,-,hty7⟩
    have hz2:=HD.out.1.xc.lt
    have hr1:=(HY.out.2.1.of.below hb7 (by omega)).whole
    have hbf:Below w.heap.size w w7:=HY.out.2.1.bl.trans (hb7.mono HD.out.1.bl.size)
    have hxc:=HA.out.2.2.2.1.grown hbf
    have hpat:Ql w7 (L.take po++([[Value.slice B1 x.key.length d1,Value.slice B2 x.val.length d2]]++L.drop po)) (Hm.ins n x m):=by
     rw[HA.out.2.2.2.2.2.2.2.1]
     exact ((HA.out.2.2.1.at_.grown hbf).take _).append ((Ql.one hxc).append ((HA.out.2.2.1.at_.grown hbf).drop _))
    have hrd:Rd w7 A7 (L.take po++([[Value.slice B1 x.key.length d1,Value.slice B2 x.val.length d2]]++L.drop po)).flatten:=by
     rw[XT 2 _ _ HA.out.2.2.1.at_.two,XU 2 _ _ HA.out.2.2.1.at_.two] at hrd7
     have e2:(L.take po++([[Value.slice B1 x.key.length d1,Value.slice B2 x.val.length d2]]++L.drop po)).flatten=(L.take po).flatten++([Value.slice B1 x.key.length d1,Value.slice B2 x.val.length d2]++(L.drop po).flatten):=by simp
     rw[e2]
     exact hrd7
    have hbd:Bnd (Hm.ins n x m):=⟨by rw[HD.out.2.2];exact hml1,fun p hp=>by
     rcases Hm.mem_ins hp with rfl|hp
     ·exact HA.out.2.2.2.2.2.2.1
     ·exact HA.out.2.2.2.2.2.1.2 p hp⟩
    have hpour:=ZK b n h1 h2 K hklen A7 c7 _ (Hm.ins n x m) _ (HA.out.1.below hbf) (HA.out.2.1.grown hbf) hrd hpat hbd
    rw[HD.out.2.2] at hpour
    have HZ:=hid (Qa hpour (Qa hbf (Qa hrd (Qa hpat (Qa hc7 hty7)))))
    clear hz2 hbf hxc hpat hrd hbd hpour hc7 hb7 hrd7 hty7)
  |(go_at_call 161
    refine HZ.out.1.mono ?_
    rintro e w8 ⟨pb,rfl,hb8,hk8⟩
    have HW:=hid (Qa hb8 hk8);clear hb8 hk8))
 go_ret
 refine⟨pb,rfl,gro HZ.out.2.1 HW.out.1,Jr (by rw[HD.out.2.2];exact HW.out.2) HW.out.1 HZ.out.2.2.1 HZ.out.2.2.2.1 (by rw[HD.out.2.2];exact HZ.out.2.2.2.2.1) ?_ hklen ?_ HZ.out.2.2.2.2.2⟩
 ·intro p hp
  rcases Hm.mem_ins hp with rfl|hp
  ·exact HK.out
  ·exact HA.out.2.2.2.2.2.2.2.2.1 p hp
 ·intro e
  have:=Hm.x_mem_ins n x m
  rw[e] at this;cases this
structure Qhx (P:Program) (ops:Array Oper) (opsF:Value→Array Oper) (md:Region.Mode) (k n g0:Nat) (vs:List (Nat×Tmp)) (o:Oper) (A0:Act) (Q':Exit→Act→World→Prop) (w:World) (X:Value→Array Bool→Prop) (f:FuncId) (args:Array Value) (U:Value→Prop) (u0:Value) (Φ:Value→World→Prop):Prop where
 lk:∀ u,Xh ops (opsF u) k o {o with op:= .move (.const u)}
 ov_:∀ p∈vs,∃ ov,ops[p.1]?=some ov∧ov.dst=some p.2
 hu0:U u0
 run:∀ (a:Act) (w':World),(∀ p∈vs,a.tmps[p.2]?=A0.tmps[p.2]?)→(execOp a.eval o).run P w'= .ok (.enter f args) w'
 call:∀ w',Below w.heap.size w w'→Calls P f args w' fun e w''=>∃ u,e= .returned u∧U u∧Below w'.heap.size w' w''∧Φ u w''
 stab:∀ u w1 w2,Below w1.heap.size w1 w2→Φ u w1→Φ u w2
 kn:k<n
 vk:∀ p∈vs,p.1≠k
 wait:∀ p∈vs,∃ e∈o.after,Region.binds md e=true∧e.on=p.1
 dist:∀ (i j:Nat) (oi oj:Oper) (t:Tmp),ops[i]?=some oi→ops[j]?=some oj→j≠i→oi.dst=some t→oj.dst≠some t
 done:∀ u listed,X u listed→∀ i,i<n→listed.getD i true=true
 last:∀ (u:Value) (listed:Array Bool) (w':World),U u→Below w.heap.size w w'→Φ u w'→X u listed→wpAny P md ops Q' g0 listed (A0.put o.dst u) w'
theorem KP {P:Program}{ops:Array Oper}{opsF:Value→Array Oper}{md:Region.Mode}{k n g0:Nat}{vs:List (Nat×Tmp)}{o:Oper}{A0:Act}{Q':Exit→Act→World→Prop}{w:World}{X:Value→Array Bool→Prop}{fn:FuncId}{args:Array Value}{U:Value→Prop}{u0:Value}{Φ:Value→World→Prop}
 (F:Qhx P ops opsF md k n g0 vs o A0 Q' w X fn args U u0 Φ):
 ∀ (f:Nat) (listed:Array Bool) (a:Act) (w':World),listed.getD k true=false→Below w.heap.size w w'→
   (∀ (w1:World) (u:Value),U u→Below w.heap.size w w1→Zi P md opsF n X A0 o w1 u f listed a)→wpAny P md ops Q' (f+g0) listed a w'
 |0,listed,a,w',hk,_,h=>by
  have:=F.done _ _ (h w u0 F.hu0 (Below.refl _ _)).1 k F.kn
  rw[hk] at this;cases this
 |f+1,listed,a,w',hk,hb,h=>by
  rw[show f+1+g0=(f+g0)+1 by omega]
  have h0:=h w' u0 F.hu0 hb
  have h0':=h0
  unfold Zi at h0
  rw[QP,(F.lk _).ready] at h0
  refine⟨fun e=>absurd e h0.1,fun i hi=>?_⟩
  by_cases hik:i=k
  ·subst hik
   have hvl:∀ p∈vs,listed.getD p.1 true=true:=by
    intro p hp
    obtain⟨_,o2,ho2,hall⟩:=mem_ready.1 hi
    rw[(F.lk undef).at0] at ho2;cases ho2
    obtain⟨e,he,hbd,hon⟩:=F.wait p hp
    have:=hall e he hbd
    rw[hon] at this
    rcases Nat.lt_or_ge p.1 listed.size with hlt|hge
    ·simp[hlt] at this ⊢;exact this
    ·simp[Array.getElem?_eq_none hge] at this
   have s2:∀ p∈vs,a.tmps[p.2]?=A0.tmps[p.2]?:=by
    intro p hp
    obtain⟨ov,hov,hdv⟩:=F.ov_ p hp
    have s2:=Jo (F.lk u0) F.dist hov hdv h0' (hvl p hp)
    rw[ZQ _ _ _ _ (F.dist p.1 i ov o p.2 hov (F.lk undef).at0 (Ne.symm (F.vk p hp)) hdv)] at s2
    exact s2.symm
   have hrun:=F.run a w' s2
   unfold wpOp
   rw[(F.lk undef).at0]
   have hwant:Region.wanted o (Go.yielded ops a.tmps)=true:=by unfold Region.wanted;rw[(F.lk undef).guard]
   simp only[hwant,if_true]
   refine .inl ?_
   unfold Oper.wp
   rw[hrun]
   refine (F.call w' hb).mono ?_
   rintro e w2 ⟨u,rfl,hU,hb2,hΦ⟩
   have hbw:Below w.heap.size w w2:=hb.trans (hb2.mono hb.size)
   have h1:=h w2 u hU hbw
   unfold Zi at h1
   rw[QP,(F.lk _).ready] at h1
   obtain⟨v1,hy,hK⟩:=yieldsIn_of_qOp (F.lk u).at1 (h1.2 i hi).2
   have hv:v1=u:=by
    rcases hy with ⟨_,hq⟩|⟨hw,_⟩
    ·have:=hq _ (⟨Fut.here _,rfl⟩:FC w2 w2)
     unfold Oper.quietAt at this
     rw[BigFrame.run_move _ rfl] at this
     exact this.2.symm
    ·unfold Region.wanted at hw;rw[(F.lk u).guard'] at hw;cases hw
   subst hv
   refine Ko (F.lk v1) (C:=FC w2) (g:=g0) (n:=n) (L:=fun listed a=>X v1 listed∧a=A0.put o.dst v1) ?_ f _ _ _ ⟨Fut.here _,rfl⟩ (Q4 hk) hK
   rintro l2 a2 w3 ⟨s,rfl⟩ ⟨hX,rfl⟩
   exact F.last _ _ _ hU (hbw.trans (s.below.mono hbw.size)) (F.stab _ _ _ s.below hΦ) hX
  ·obtain⟨hil,oi,hoi,_⟩:=mem_ready.1 hi
   have hoi':∀ u,(opsF u)[i]?=some oi:=fun u=>by rw[(F.lk u).off i hik];exact hoi
   obtain⟨vv,hy,hK⟩:=yieldsIn_of_qOp (hoi' _) (h0.2 i hi).2
   have hset:∀ u (x:Value) (w1:World),Zi P md opsF n X A0 o w1 u f (listed.setIfInBounds i true) (a.put oi.dst x)→∀ t,oi.dst=some t→A0.tmps[t]?=(a.put oi.dst x).tmps[t]?:=by
    intro u x w1 hh t ht
    rw[← Jo (F.lk u) F.dist hoi ht hh (Q4 hil)]
    exact (ZQ _ _ _ _ (F.dist i k oi o t hoi (F.lk u).at0 (Ne.symm hik) ht)).symm
   have hnext:∀ w1 u,U u→Below w.heap.size w w1→Zi P md opsF n X A0 o w1 u f (listed.setIfInBounds i true) (a.put oi.dst vv):=by
    intro w1 u hU hb1
    have h1:=h w1 u hU hb1
    unfold Zi at h1
    rw[QP,(F.lk _).ready] at h1
    obtain⟨v1,_,hK1⟩:=yieldsIn_of_qOp (hoi' u) (h1.2 i hi).2
    unfold Zi
    rw[Vu a oi.dst vv v1 (fun t ht=>by rw[← hset _ _ _ hK t ht,←hset _ _ _ hK1 t ht])]
    exact hK1
   have hq:qOp P ops (FC w') i (fun a'=>a'=a.put oi.dst vv) a:=by
    refine YieldsIn.qOp hoi ?_ rfl
    unfold YieldsIn at hy ⊢
    rw[(F.lk _).yielded] at hy
    exact hy
   refine wpOp_of_qOp (C:=FC w') ⟨Fut.here _,rfl⟩ ?_ hq
   rintro a' w2 ⟨s,rfl⟩ rfl
   exact KP F f _ _ _ (by rw[getD_set_ne true hik];exact hk) (hb.trans (s.below.mono hb.size)) hnext
theorem Yl {P:Program}{id:Nat}{Q:Exit→Act→World→Prop}{a:Act}{w:World}{l:List Oper}(n k:Nat)(vs:List (Nat×Tmp))(o:Oper)(f:FuncId)(args:Array Value)(U:Value→Prop)(u0:Value)(Φ:Value→World→Prop)(A0:Act)
 (hm:P.follows .mixedOrders=true) (hk:l[k]?=some o) (hv:(vs.all fun p=>((l[p.1]?).bind (·.dst) == some p.2) && (p.1 != k) && (o.after.any fun e=>Region.binds .any e && e.on == p.1))=true) (hu0:U u0) (hg:o.guard=none) (hkn:k<n)
 (hB:∀ u,Region.lexTailB .any (l.set k {o with op:= .move (.const u)}).toArray n=true)
 (hd:((List.range l.length).all fun i=>(List.range l.length).all fun j=>i == j || (match (l[i]?).bind (·.dst),(l[j]?).bind (·.dst) with|some a,some b=>a != b|_,_=>true))=true)
 (hrun:∀ (a:Act) (w':World),(∀ p∈vs,a.tmps[p.2]?=A0.tmps[p.2]?)→(execOp a.eval o).run P w'= .ok (.enter f args) w')
 (hcall:∀ w',Below w.heap.size w w'→Calls P f args w' fun e w''=>∃ u,e= .returned u∧U u∧Below w'.heap.size w' w''∧Φ u w'')
 (hst:∀ u w1 w2,Below w1.heap.size w1 w2→Φ u w1→Φ u w2)
 (h:∀ (w1:World) (u:Value),U u→Below w.heap.size w w1→wpQuiet P (l.set k {o with op:= .move (.const u)}).toArray (fun w'=>∃ s:Fut w1,w'=s.v) (fun a'=>a'=A0.put o.dst u) ((l.set k {o with op:= .move (.const u)}).take n) a)
 (ht:∀ (u:Value) (w':World),U u→Below w.heap.size w w'→Φ u w'→wpList P l.toArray Q (l.drop n) (A0.put o.dst u) w'):(Code.region id l.toArray true).wp P Q a w:=by
 have lk:∀ u:Value,Xh l.toArray (l.set k {o with op:= .move (.const u)}).toArray k o {o with op:= .move (.const u)}:=fun u=>V7 u hk hg
 have hB':=fun u=>hB u
 simp only[Region.lexTailB,Bool.and_eq_true,decide_eq_true_eq] at hB'
 have hn:n<l.length:=by have:=(hB' undef).1.1.1.2;simpa using this
 have hdl:(l.drop n).length=l.length-n:=by simp
 refine wp_region_any hm ?_
 have F:Qhx P l.toArray (fun u=>(l.set k {o with op:= .move (.const u)}).toArray) .any k n (l.length-n) vs o A0 Q w (fun u listed=>Region.seqB .any (l.set k {o with op:= .move (.const u)}).toArray (l.length-n) n listed=true∧∀ i,i<n→listed.getD i true=true) f args U u0 Φ:=by
  refine⟨lk,?_,hu0,hrun,hcall,hst,hkn,?_,?_,Z9 hd,fun u listed hX=>hX.2,?_⟩
  ·intro p hp
   have h1:=(List.all_eq_true.1 hv) p hp
   simp only[Bool.and_eq_true,beq_iff_eq,bne_iff_ne] at h1
   cases hl:l[p.1]? with
   |none=>rw[hl] at h1;simp at h1
   |some ov=>exact⟨ov,by simpa using hl,by rw[hl] at h1;exact h1.1.1⟩
  ·intro p hp
   have h1:=(List.all_eq_true.1 hv) p hp
   simp only[Bool.and_eq_true,beq_iff_eq,bne_iff_ne] at h1
   exact h1.1.2
  ·intro p hp
   have h1:=(List.all_eq_true.1 hv) p hp
   simp only[Bool.and_eq_true,beq_iff_eq,bne_iff_ne] at h1
   obtain⟨e,he,h2⟩:=Array.any_eq_true'.1 h1.2
   simp only[Bool.and_eq_true,beq_iff_eq] at h2
   exact⟨e,he,h2.1,h2.2⟩
  ·intro u listed w' hU hb hΦ hX
   have hs:=hX.1
   rw[(lk u).seqB] at hs
   have:=wpAny_of_seq (md:= .any) (ops:=l.toArray) (Q':=Q) (l.drop n) n listed (A0.put o.dst u) w' (fun j=>by simp[List.getElem?_drop]) (by rw[hdl];exact hs) (ht u w' hU hb hΦ)
   rwa [hdl] at this
 have hfin:∀ (w1:World) (u:Value),U u→Below w.heap.size w w1→Zi P .any (fun u=>(l.set k {o with op:= .move (.const u)}).toArray) n (fun u listed=>Region.seqB .any (l.set k {o with op:= .move (.const u)}).toArray (l.length-n) n listed=true∧∀ i,i<n→listed.getD i true=true) A0 o w1 u n (Array.replicate l.length false) a:=by
  intro w1 u hU hb1
  obtain⟨⟨⟨⟨hsel,hn'⟩,hs⟩,hc⟩,hlex⟩:=hB' u
  have hsz:(l.set k {o with op:= .move (.const u)}).toArray.size=l.length:=by simp
  rw[hsz] at hlex hn'
  have htl:((l.set k {o with op:= .move (.const u)}).take n).length=n:=by simp;omega
  have inv0:HeadInv .any (l.set k {o with op:= .move (.const u)}).toArray n (Array.replicate l.length false):=
   ⟨by simp,fun j oj _ hl=>(by rw[getD_replicate_false] at hl;cases hl),fun t _ ht'=>getD_in (by rw[hsz] at ht';simpa using ht') (getD_replicate_false _ _)⟩
  have H:=X8 (P:=P) (md:= .any) (C:=FC w1) (g:=l.length-n) hsel hs hc (by rw[hsz];exact hn') ((l.set k {o with op:= .move (.const u)}).take n) 0 _ a (fun j hj=>by
   have hj':j<n:=by rw[htl] at hj;exact hj
   simp[hj']) (by simpa using htl) inv0 (by rw[htl];exact hlex) (h w1 u hU hb1)
  rw[htl] at H
  refine ZB ?_ n _ _ inv0 H
  rintro listed a' ⟨h1,h2⟩ hinv
  refine⟨⟨h1,fun i hi=>?_⟩,h2⟩
  rcases hli:listed.getD i true with _|_
  ·exfalso
   have hready:n∈Region.ready .any (l.set k {o with op:= .move (.const u)}).toArray listed:=by
    obtain⟨q,hq⟩:∃ q,l.length-n=q+1:=⟨l.length-n-1,by omega⟩
    rw[hq] at h1
    simp only[Region.seqB,Bool.and_eq_true,decide_eq_true_eq] at h1
    rw[h1.1];simp
   exact tail_waits hs hc (by rw[hsz];exact hn') hinv _ i rfl hi hli n (Nat.le_refl _) hready
  ·rfl
 have:=KP F n (Array.replicate l.length false) a {w with drawn:=w.drawn+1} (getD_in (by simp;have:=(List.getElem?_eq_some_iff.1 hk).1;omega) (getD_replicate_false _ _)) (Below.refl _ _).drew hfin
 rw[show n+(l.length-n)=l.toArray.size by simp;omega] at this
 simpa using this
abbrev Act.puts (ps:List (Tmp×Value))(a:Act):Act:=ps.foldl (fun a p=>a.put (some p.1) p.2) a
theorem Ym {P:Program}{id:Nat}{Q:Exit→Act→World→Prop}{a:Act}{w:World}{l:List Oper}(n k:Nat)(vs:List (Nat×Tmp))(xs:List Value)(o:Oper)(f:FuncId)(args:Array Value)(U:Value→Prop)(u0:Value)(Φ:Value→World→Prop)(ps:List (Tmp×Value))
 (hm:P.follows .mixedOrders=true) (hk:l[k]?=some o) (hv:(vs.all fun p=>((l[p.1]?).bind (·.dst) == some p.2) && (p.1 != k) && (o.after.any fun e=>Region.binds .any e && e.on == p.1))=true) (hu0:U u0) (hg:o.guard=none) (hkn:k<n)
 (hB:∀ u,Region.lexTailB .any (l.set k {o with op:= .move (.const u)}).toArray n=true)
 (hd:((List.range l.length).all fun i=>(List.range l.length).all fun j=>i == j || (match (l[i]?).bind (·.dst),(l[j]?).bind (·.dst) with|some a,some b=>a != b|_,_=>true))=true)
 (hxs:(vs.map fun p=>(Act.puts ps a).tmps[p.2]?)=xs.map some)
 (hrun:∀ (a:Act) (w':World),(vs.map fun p=>a.tmps[p.2]?)=xs.map some→(execOp a.eval o).run P w'= .ok (.enter f args) w')
 (hcall:∀ w',Below w.heap.size w w'→Calls P f args w' fun e w''=>∃ u,e= .returned u∧U u∧Below w'.heap.size w' w''∧Φ u w'')
 (hst:∀ u w1 w2,Below w1.heap.size w1 w2→Φ u w1→Φ u w2)
 (h:∀ (w1:World) (u:Value),U u→Below w.heap.size w w1→wpQuiet P (l.set k {o with op:= .move (.const u)}).toArray (fun w'=>∃ s:Fut w1,w'=s.v) (fun a'=>a'=(Act.puts ps a).put o.dst u) ((l.set k {o with op:= .move (.const u)}).take n) a)
 (ht:∀ (u:Value) (w':World),U u→Below w.heap.size w w'→Φ u w'→wpList P l.toArray Q (l.drop n) ((Act.puts ps a).put o.dst u) w'):(Code.region id l.toArray true).wp P Q a w:=
 Yl n k vs o f args U u0 Φ (Act.puts ps a) hm hk hv hu0 hg hkn hB hd (fun a' w' ha=>hrun a' w' (by
  rw[← hxs]
  exact List.map_congr_left fun p hp=>ha p hp)) hcall hst h ht
namespace Hm
theorem single_ins_false {n:Nat}{x:Pr}{m:List Pr}(h:single n m=false):single n (ins n x m)=false:=by
 cases hs:single n (ins n x m) with
 |false=>rfl
 |true=>have:=(single_ins.1 hs).1;rw[h] at this;cases this
theorem digs_ins (n t:Nat)(x:Pr)(m:List Pr):digs n t (ins n x m)=lo (has n t m) (dig n t x)++([dig n t x]++hi (has n t m) (dig n t x)):=by
 have h:∀ i,has n t (ins n x m) i=(has n t m i || i == dig n t x):=fun i=>has_ins i
 unfold digs
 rw[digs_split _ _ (dig_lt n t x),h,beq_self_eq_true,Bool.or_true,if_pos rfl]
 rw[lo_congr (Q:=has n t m) fun i hi=>by rw[h];simp[hi],hi_congr (Q:=has n t m) fun i hi=>by rw[h];simp[hi]]
theorem digs_old (n t:Nat)(m:List Pr)(d:Nat)(hd:d<16):digs n t m=lo (has n t m) d++((if has n t m d then [d] else [])++hi (has n t m) d):=digs_split _ _ hd
theorem map_upd {α:Type}(P:Nat→Bool)(d:Nat)(val:Nat→α)(v:α):(lo P d++([d]++hi P d)).map (fun k=>if k=d then v else val k)=(lo P d).map val++([v]++(hi P d).map val):=by
 rw[List.map_append,List.map_append]
 congr 1
 ·exact List.map_congr_left fun k hk=>by rw[if_neg (by have:=(mem_lo hk).1;omega)]
 ·congr 1
  ·simp
  ·exact List.map_congr_left fun k hk=>by rw[if_neg (by have:=(mem_hi hk).1;omega)]
end Hm
structure Zn [Inhabited LoT] (S:Nat→Prop) (w:World) (n f t pb:Nat) (m:List Pr) (A:Option Addr) (c:Nat) (z:Int) (val:Nat→Value):Prop where
 many:Hm.single n m=false
 blk:Blk w pb 171 (Xx (Hm.bm n t m) (.slice A (Hm.digs n t m).length c) (Hm.node n (f+1) t m) z)
 rd:Rd w A ((Hm.digs n t m).map val)
 cap:(Hm.digs n t m).length≤c
 own:(∀ a,A=some a→S a.block)∧Tyd w 157 A
 kids:∀ i∈Hm.digs n t m,QL S w n f (t+1) (val i) (Hm.child n t i m)
theorem Zn.grown [Inhabited LoT]{S:Nat→Prop}{w w':World}{n f t pb:Nat}{m:List Pr}{A:Option Addr}{c:Nat}{z:Int}{val:Nat→Value}(h:Zn S w n f t pb m A c z val)(hb:Below w.heap.size w w'):Zn S w' n f t pb m A c z val:=
 ⟨h.many,h.blk.grown hb,h.rd.grown hb,h.cap,⟨h.own.1,h.own.2.grown hb⟩,fun i hi=>QL.grown hb (h.kids i hi)⟩
theorem Zn.oc [Inhabited LoT]{S:Nat→Prop}{w:World}{n f t pb:Nat}{m:List Pr}{A:Option Addr}{c:Nat}{z:Int}{val:Nat→Value}(h:Zn S w n f t pb m A c z val):∀ v∈(Hm.digs n t m).map val,v.oneCell'=true:=by
 intro v hv
 obtain⟨i,hi,rfl⟩:=List.mem_map.1 hv
 obtain⟨T,p,e⟩:=(h.kids i hi).shape
 rw[e];rfl
theorem Zn.kids_ins [Inhabited LoT]{S S':Nat→Prop}{w w':World}{n f t pb:Nat}{m:List Pr}{A:Option Addr}{c:Nat}{z:Int}{val:Nat→Value}{x:Pr}{v:Value}(h:Zn S w n f t pb m A c z val)(hs:Hm.Srt n m)(hb:Below w.heap.size w w')(hSS:∀ k,S k→S' k)(hv:QL S' w' n f (t+1) v (Hm.ins n x (Hm.child n t (Hm.dig n t x) m))):
 ∀ i∈Hm.digs n t (Hm.ins n x m),QL S' w' n f (t+1) (if i=Hm.dig n t x then v else val i) (Hm.child n t i (Hm.ins n x m)):=by
 intro i hi
 rw[Hm.child_ins hs]
 by_cases hd:i=Hm.dig n t x
 ·subst hd
  rw[if_pos rfl,if_pos rfl];exact hv
 ·rw[if_neg hd,if_neg (fun e=>hd e.symm)]
  refine QL.mono hSS (QL.grown hb (h.kids i ?_))
  unfold Hm.digs at hi ⊢
  rw[List.mem_filter,Hm.has_ins] at hi
  rw[List.mem_filter]
  refine⟨hi.1,?_⟩
  have:=hi.2
  simpa [hd] using this
theorem VF (x1 x2 x3 x4 x5:Value)(w:World):(callFunc 116 (#[]++ #[x1,x2,x3,x4,x5]++ #[])).run Tryz.prog w= .ok (.enter 116 #[x1,x2,x3,x4,x5]) w:=by kernel_rfl
theorem Qb3 {a:Act}{x1 x2 x3 x4 x5:Value}{i1 i2 i3 i4 i5:Nat}{j1 j2 j3 j4 j5:Nat}(h:([(j1,i1),(j2,i2),(j3,i3),(j4,i4),(j5,i5)]:List (Nat×Tmp)).map (fun p=>a.tmps[p.2]?)=[x1,x2,x3,x4,x5].map some):
 (#[.tmp i1,.tmp i2,.tmp i3,.tmp i4,.tmp i5]:Array Operand).map a.eval= #[x1,x2,x3,x4,x5]:=by
 simp only[List.map_cons,List.map_nil,List.cons.injEq,and_true] at h
 obtain⟨e1,e2,e3,e4,e5⟩:=h
 simp[Act.eval,Array.getD_eq_getD_getElem?,e1,e2,e3,e4,e5]
theorem WG [Inhabited LoT](B b n:Nat)(h1:1≤n)(h2:n≤32)(f t pb:Nat)(hft:f+1+t=2*n)(m:List Pr)(x:Pr)(A:Option Addr)(c:Nat)(z:Int)(val:Nat→Value)(xc:List Value)(w:World)(hw:Qs w)(hm:XF w b n)(hB:B≤w.heap.size)(ha:Zn (· <B) w n f t pb m A c z val)(hx:QO w xc x)(hs:Hm.Srt n m)(hxs:x.key.length≤64∧x.val.length≤256)
 (hh:Hm.has n t m (Hm.dig n t x)=true)
 (hrec:∀ w',Below w.heap.size w w'→Calls Tryz.prog 116 #[ptr b,val (Hm.dig n t x),.int .i64 ((t:Int)+1),dg (Dg.key n x.key),.agg xc.toArray] w' fun e w''=>∃ T p,e= .returned (ifp T p)∧Below w'.heap.size w' w''∧QL (fun k=>k<B∨w'.heap.size≤k) w'' n f (t+1) (ifp T p) (Hm.ins n x (Hm.child n t (Hm.dig n t x) m))):
 Calls Tryz.prog 116 #[ptr b,nbr pb,.int .i64 t,dg (Dg.key n x.key),.agg xc.toArray] w fun e w'=>∃ T p,e= .returned (ifp T p)∧Below w.heap.size w w'∧QL (fun k=>k<B∨w.heap.size≤k) w' n (f+1) t (ifp T p) (Hm.ins n x m):=by
 have hkl:=Dg.sum_length n (Dg.keyIn x.key) h2
 have hklen:(Dg.key n x.key).length=32:=hkl
 have hkf:Dg.form n (Dg.key n x.key)=true:=Dg.form_sum _ _ h2
 have hdl:=Hm.dig_lt n t x
 have hrk:Nib.rank (Hm.bm n t m) (Hm.dig n t x)=(Hm.lo (Hm.has n t m) (Hm.dig n t x)).length:=Hm.bmf_rank _ _ hdl
 have hhs:Nib.has (Hm.bm n t m) (Hm.dig n t x)=true:=by unfold Hm.bm;rw[Hm.bmf_has _ _ hdl];exact hh
 have hbm:=Hm.bm_lt n t m
 have hdo:=Hm.digs_old n t m _ hdl
 rw[hh,if_pos rfl] at hdo
 have hdn:=Hm.digs_ins n t x m
 have hdig:Hm.dig n t x=Dg.digit (Dg.key n x.key) t:=rfl
 have hdd:=fun w' (hb:Below w.heap.size w w')=>Xo b n h1 h2 _ hklen hkf t (by omega) w' (hm.grown hb)
 rw[← hdig] at hdd
 generalize hK:Dg.key n x.key=K at hklen hkf hdd hrec
 have HK:=hid hK
 generalize hdv:Hm.dig n t x=d at hdl hrk hhs hdo hdn hdd hrec hh
 have HDV:=hid hdv
 generalize hr:(Hm.lo (Hm.has n t m) d).length=r at hrk
 have hdlen:(Hm.digs n t m).length=r+(1+(Hm.hi (Hm.has n t m) d).length):=by rw[hdo];simp[hr];omega
 have hd16:=Hm.digs_le (Hm.has n t m)
 have hd16:(Hm.digs n t m).length≤16:=hd16
 generalize hq:Hm.bm n t m=q at hbm hhs hrk
 have HL:=hid (show (K.map b8).length=32 by simp[hklen])
 have hxl:=hx.len
 have HA:=hid (Qa hw (Qa hm (Qa ha (Qa hx (Qa hs hxs)))))
 have HX:=hid (Qa hxl (Qa hdd hrec))
 have HQ:=hid (Qa hq (Qa hrk (Qa hdo (Qa hdn (Qa hdlen (Qa hr hh))))))
 have k0:=ha.blk
 rw[hq] at k0
 generalize hkk:(Hm.digs n t m).length=kk at k0 hdlen hd16
 have hrkk:r<kk:=by omega
 have HKK:=hid (Qa hkk hdlen)
 have HBL:=hid k0
 clear hw hm ha hx hs hxs hK hkl hxl hdd hrec hq hrk hdo hdn hr hdig k0 hkk hh hdv hdlen
 have hbx:=Zb.new w K xc
 have HBX:=hid hbx
 clear hbx
 go_enter Tryz.func116,Tryz.ntmps116
 go_upto_region 1 with fail
 refine Qe (fun w'=>Zb w w' K _) HBX.out ?_
 rintro w1 hb1
 have HB:=hid hb1
 clear hb1 HBX
 have hbr:=HA.out.2.2.1.grown HB.out.bl
 have hr1:=HB.out.of.whole
 have HBR:=hid hbr
 clear hbr
 go_upto_region 16 with (first
  |((with_reducible refine Qf 40 (.tmp 8) w.heap.size 0 _ 32 _ HL.out hr1 Tryz.underlying40 rfl (by kernel_rfl) ?_ ?_ ?_ ?_);rfl;rfl;rfl)
  |(go_at_call 96
    refine (HX.out.2.1 w1 HB.out.bl).mono ?_
    rintro e w3 ⟨rfl,hb3⟩
    have k3:=Zj (HBL.out.grown (gro HB.out.bl hb3))
    have HV:=hid hb3;clear hb3)
  |(go_at_call 90
    refine (XP q d hbm hdl _).mono ?_
    rw[HQ.out.2.1]
    rintro e w4 ⟨rfl,hb4⟩
    have HY:=hid hb4;clear hb4 k3))
 have hbw4:=gro HB.out.bl (gro HV.out HY.out)
 have k4:=XB (HBL.out.grown hbw4)
 have hcl:=Zk A kk c ((Hm.digs n t m).map val) w4 (by rw[List.length_map,HKK.out.1];omega) (HA.out.2.2.1.rd.grown hbw4) HA.out.2.2.1.oc (by omega)
 have HC:=hid (Qa hcl (Qa hbw4 (HB.out.grown (gro HV.out HY.out))))
 clear hbw4 hcl hr1 HB HBR HV HY
 go_upto_region 18 with (first
  |(go_at_call 164
    refine HC.out.1.mono ?_
    rintro e w5 ⟨v5,rfl,hb5,ho5,-⟩
    obtain⟨g5,c5,cur5,rfl,hm5⟩:=XS ho5 (by omega)
    have k5:=Zj (HBL.out.grown (gro HC.out.2.1 hb5))
    have HY:=hid (Qa hb5 hm5);clear hb5 hm5 ho5 k4)
  |(go_at_call 91
    refine (XD q d hbm hdl _).mono ?_
    rw[hhs]
    rintro e w6 ⟨rfl,rfl⟩))
 have hpi:(0:Int)≤(r:Int)∧(r:Int)< (kk:Int):=by omega
 have hc5:w5.cell? ⟨g5,r,none⟩=some (val d):=by
  have h:=HY.out.2.blk.takes (kk*1) r (val d) (by
   rw[HY.out.2.hx,HQ.out.2.2.1,List.map_append,List.getElem?_append_right (by rw[List.length_map,HQ.out.2.2.2.2.2.1];exact Nat.le_refl _),List.length_map,HQ.out.2.2.2.2.2.1,Nat.sub_self]
   rfl)
  rwa [Nat.zero_add] at h
 have hbx5:=HC.out.2.2.grown HY.out.1
 have HE:=hid (Qa hc5 (Qa hbx5 (gro HC.out.2.1 HY.out.1)))
 clear hc5 hbx5
 refine Ym 13 11 [(2,94),(6,98),(8,100),(9,101),(10,102)] [ptr b,val d,.int .i64 ((t:Int)+1),dg K,.agg xc.toArray] _ 116 #[ptr b,val d,.int .i64 ((t:Int)+1),dg K,.agg xc.toArray] (fun u=>∃ T p,u=ifp T p) (ifp 0 0) (fun u w'=>QL (fun k=>k<B∨w5.heap.size≤k) w' n f (t+1) u (Hm.ins n x (Hm.child n t d m)))
  [(92,.slice (some ⟨g5,0,none⟩) kk c5),(93,.int .i64 r),(94,ptr b),(95,.slice (some ⟨g5,0,none⟩) kk c5),(96,.int .i64 r),(97,.pointer (some ⟨g5,r,none⟩)),(98,val d),(99,.int .i64 t),(100,.int .i64 ((t:Int)+1)),(101,dg K),(102,.agg xc.toArray),(104,.pointer (some ⟨g5,r,none⟩))]
  (by kernel_rfl) rfl (by kernel_rfl) ⟨0,0,rfl⟩ rfl (by decide) (fun u=>by kernel_rfl) (by kernel_rfl) ?hxs ?hrun ?hcall ?hst ?h ?ht
 case hxs=>kernel_rfl
 case hrun=>
  intro a w' ha
  rw[execOp_call_go,Qb3 ha]
  exact VF _ _ _ _ _ w'
 case hcall=>
  intro w' hb
  refine (HX.out.2.2 w' (gro HE.out.2.2 hb)).mono ?_
  rintro e w'' ⟨T,p,rfl,hb2,hh2⟩
  exact⟨_,rfl,⟨T,p,rfl⟩,hb2,QL.mono (fun k hk=>hk.imp id (fun h=>Nat.le_trans hb.size h)) hh2⟩
 case hst=>exact fun u w1 w2 hb h=>QL.grown hb h
 case h=>
  intro w7 u hu hb7
  have q1:=Fut.cell (show w7.cell? ⟨g5,r,none⟩=some (val d) from by rw[hb7.cell (p:=⟨g5,r,none⟩) (World.block_lt_of_cell? _ _ HE.out.1)];exact HE.out.1)
  have HR:=hid (Qa (QA (HE.out.2.1.grown hb7).of.whole) (QA (HE.out.2.1.grown hb7).xc.whole))
  dsimp only[List.take_succ_cons,List.take_zero,List.drop_succ_cons,List.drop_zero,List.set_cons_zero,List.set_cons_succ]
  repeat (first
   |(go_big_quiet_want;(with_reducible refine QG 40 (.tmp 8) w.heap.size 0 _ 32 _ HL.out HR.out.1 Tryz.underlying40 rfl (by kernel_rfl) ?_ ?_ ?_);rfl;rfl;simp only[Act.put,List.setIfInBounds_toArray,List.set_cons_zero,List.set_cons_succ];go_big_quiet_on)
   |(go_big_quiet_want;(with_reducible refine QG 166 (.tmp 9) (w.heap.size+1) 0 _ 2 _ HX.out.1 HR.out.2 Tryz.underlying166 rfl (by kernel_rfl) ?_ ?_ ?_);rfl;rfl;simp only[Act.put,List.setIfInBounds_toArray,List.set_cons_zero,List.set_cons_succ];go_big_quiet_on)
   |go_big_quiet_step (fail))
  refine wpQuiet_nil ?_
  show _=_
  kernel_rfl
 case ht=>
  rintro u w7 ⟨T7,p7,rfl⟩ hb7 hh7
  obtain⟨T0,q0,hsh⟩:=(HA.out.2.2.1.kids d (by rw[HQ.out.2.2.1];simp)).shape
  have hg5B:=HY.out.2.hB
  have hg5l:=HY.out.2.blk.lt
  have hw4s:=HC.out.2.1.size
  have hbk7:=HY.out.2.blk.grown hb7
  have hc7:w7.cell? ⟨g5,r,none⟩=some (val d):=by rw[hb7.cell (p:=⟨g5,r,none⟩) hg5l];exact HE.out.1
  have hf7:=hbk7.frozen r
  have hc7i:=hc7
  rw[hsh] at hc7i
  have hh8:=QL.mono (S':=fun k=>k<B∨w.heap.size≤k) (fun k hk=>hk.imp id (fun h=>Nat.le_trans HE.out.2.2.size h)) (QL.write (u:=ifp T7 p7) hbk7 hc7i (show ¬(g5<B∨w5.heap.size≤g5) by omega) hh7)
  have hbl8:Below w.heap.size w (w7.setCell ⟨g5,r,none⟩ (ifp T7 p7)):=(HE.out.2.2.trans (hb7.mono HE.out.2.2.size)).setCell (by show _≤g5;omega) _
  have hbk8:=hbk7.set_ r (ifp T7 p7)
  have hlc5:=HY.out.2.len
  have hcc5:=HY.out.2.hc
  have hrow:Rd (w7.setCell ⟨g5,r,none⟩ (ifp T7 p7)) (some ⟨g5,0,none⟩) ((Hm.digs n t (Hm.ins n x m)).map fun k=>if k=d then ifp T7 p7 else val k):=by
   have e1:(cur5.set r (ifp T7 p7)).take (kk*1)=(Hm.digs n t (Hm.ins n x m)).map fun k=>if k=d then ifp T7 p7 else val k:=by
    rw[HQ.out.2.2.2.1,Hm.map_upd,List.take_set,HY.out.2.hx,HQ.out.2.2.1,List.map_append,List.map_append]
    have hl:((Hm.lo (Hm.has n t m) d).map val).length=r:=by rw[List.length_map];exact HQ.out.2.2.2.2.2.1
    rw[List.set_append_right _ _ (by omega),hl,Nat.sub_self]
    rfl
   rw[← e1]
   exact Rd.of _ (hbk8.takes _)
  have hkids:=HA.out.2.2.1.kids_ins (S':=fun k=>k<B∨w.heap.size≤k) (x:=x) (v:=ifp T7 p7) HA.out.2.2.2.2.1 hbl8 (fun k hk=> .inl hk) (by rw[HDV.out];exact hh8)
  rw[HDV.out] at hkids
  have hfk:=ZD (S:=fun k=>k<B∨w.heap.size≤k) b n f t h1 h2 (Hm.ins n x m) (Hm.single_ins_false HA.out.2.2.1.many) (fun k=>if k=d then ifp T7 p7 else val k) (some ⟨g5,0,none⟩) c5 kk (Nib.add q d) _ (HA.out.1.below hbl8) (HA.out.2.1.grown hbl8) (by rw[HQ.out.2.2.2.1,←HQ.out.2.2.1];exact HKK.out.1.symm) (by rw[Hm.bm_ins,HQ.out.1,HDV.out]) hrow (by omega) ⟨fun a e=>by cases e;exact .inr (show w.heap.size≤g5 by omega),hbk8.tyd⟩ hkids
  have k8:=Zj (HBL.out.below hbl8 HBL.out.lt)
  have HZ:=hid (Qa hfk hbl8)
  clear hbk7 hh8 hbl8 hbk8 hrow hkids hfk hh7 hc7i hsh hb7
  simp only[List.drop_succ_cons,List.drop_zero,Act.puts,List.foldl_cons,List.foldl_nil,Act.put,List.setIfInBounds_toArray,List.set_cons_zero,List.set_cons_succ]
  go_wp2_with (first
   |(go_at_call 167;refine (ZJ q d hbm hdl _).mono ?_;rintro e w9 ⟨rfl,rfl⟩)
   |(go_at_call 166;refine HZ.out.1.mono ?_;rintro e w10 ⟨b',rfl,hb',hh⟩;have HW:=hid (Qa hb' hh);clear hb' hh))
  go_ret
  exact⟨_,b',rfl,HZ.out.2.trans (HW.out.1.mono HZ.out.2.size),HW.out.2⟩
end Go.Proofs.YtpnakfeafekneaaGreatDoor
