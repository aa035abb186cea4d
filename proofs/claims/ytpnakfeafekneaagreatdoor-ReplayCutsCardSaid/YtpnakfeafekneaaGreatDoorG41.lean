/- Part 41 of this proof. -/
import Derived.Test.YtpnakfeafekneaaGreatDoorG40
set_option linter.unusedSimpArgs false
set_option linter.unusedVariables false
set_option maxHeartbeats 8000000
set_option maxRecDepth 100000
namespace Go.Proofs.YtpnakfeafekneaaGreatDoor
open Go.RowKit
def Xa:Rt:=⟨0,List.replicate 32 0,List.replicate 32 0⟩
def Qp (kd:UInt8)(r:Rt)(ix:Nat)(en:List Value)(kv dv s1 s2:Value):List Value:=[b8 kd]++(Qd r++(Qd Xa++([.int .u64 ix]++(en++[kv,dv,s1,s2]))))
section
variable {w:World} {b:Nat} {kd:UInt8} {r:Rt} {ix:Nat} {en:List Value} {kv dv s1 s2:Value}
theorem KF (hr:(Qd r).length=65)(he:en.length=3):(Qp kd r ix en kv dv s1 s2).length=139:=by
 simp[Qp,hr,he,show (Qd Xa).length=65 from by simp[Qd,Xa]]
theorem Jv (h:Blk w b 114 (Qp kd r ix en kv dv s1 s2)):w.cell? ⟨b,0,none⟩=some (b8 kd):=by rw[h.cell];rfl
theorem Qa4 (h:Blk w b 114 (Qp kd r ix en kv dv s1 s2)):w.rangeAt b 1 (Qd r):=h.range [b8 kd] (Qd r) _ rfl
theorem Qew (h:Blk w b 114 (Qp kd r ix en kv dv s1 s2)):w.rangeAt b 2 (r.log.map b8):=
 h.range [b8 kd,.int .u64 r.size] (r.log.map b8) (r.map.map b8++(Qd Xa++([.int .u64 ix]++(en++[kv,dv,s1,s2])))) (by simp[Qp,Qd])
theorem Qex (h:Blk w b 114 (Qp kd r ix en kv dv s1 s2))(hl:r.log.length=32):w.rangeAt b 34 (r.map.map b8):=by
 have:=h.range ([b8 kd,.int .u64 r.size]++r.log.map b8) (r.map.map b8) (Qd Xa++([.int .u64 ix]++(en++[kv,dv,s1,s2]))) (by simp[Qp,Qd])
 rwa [show ([b8 kd,.int .u64 (r.size:Nat)]++r.log.map b8).length=34 by simp[hl]] at this
theorem VT (h:Blk w b 114 (Qp kd r ix en kv dv s1 s2))(hr:(Qd r).length=65):w.rangeAt b 131 ([.int .u64 ix]++(en++[kv,dv,s1,s2])):=by
 have:=h.range ([b8 kd]++(Qd r++Qd Xa)) ([.int .u64 ix]++(en++[kv,dv,s1,s2])) [] (by simp[Qp])
 rwa [show ([b8 kd]++(Qd r++Qd Xa)).length=131 by simp[hr,show (Qd Xa).length=65 from by simp[Qd,Xa]]] at this
theorem Qh2 (h:Blk w b 114 (Qp kd r ix en kv dv s1 s2))(hr:(Qd r).length=65):w.cell? ⟨b,131,none⟩=some (.int .u64 ix):=VT h hr 0 _ rfl
theorem Qgq (h:Blk w b 114 (Qp kd r ix en kv dv s1 s2))(hr:(Qd r).length=65):w.rangeAt b 132 en:=fun j v hj=>by
 have:=VT h hr (1+j) v (by rw[List.getElem?_append_right (by simp)];simp only[List.length_singleton,Nat.add_sub_cancel_left];rw[List.getElem?_append_left (List.getElem?_eq_some_iff.1 hj).1];exact hj)
 rwa [← Nat.add_assoc] at this
theorem YA (h:Blk w b 114 (Qp kd r ix en kv dv s1 s2))(hr:(Qd r).length=65)(he:en.length=3):w.rangeAt b 135 [kv,dv,s1,s2]:=fun j v hj=>by
 have:=VT h hr (4+j) v (by
  rw[List.getElem?_append_right (by simp only[List.length_singleton];omega),List.getElem?_append_right (by simp only[List.length_singleton,he];omega),show 4+j-[Value.int .u64 (ix:Nat)].length-en.length=j by simp only[List.length_singleton,he];omega];exact hj)
 rwa [← Nat.add_assoc] at this
theorem Qey (h:Blk w b 114 (Qp kd r ix en kv dv s1 s2))(hr:(Qd r).length=65)(he:en.length=3):w.cell? ⟨b,135,none⟩=some kv:=YA h hr he 0 _ rfl
theorem W9 (h:Blk w b 114 (Qp kd r ix en kv dv s1 s2))(hr:(Qd r).length=65)(he:en.length=3):w.cell? ⟨b,136,none⟩=some dv:=YA h hr he 1 _ rfl
theorem Qgr (h:Blk w b 114 (Qp kd r ix en kv dv s1 s2))(hr:(Qd r).length=65)(he:en.length=3):w.cell? ⟨b,137,none⟩=some s1:=YA h hr he 2 _ rfl
theorem Qgs (h:Blk w b 114 (Qp kd r ix en kv dv s1 s2))(hr:(Qd r).length=65)(he:en.length=3):w.cell? ⟨b,138,none⟩=some s2:=YA h hr he 3 _ rfl
theorem Qgk (h:Blk w b 114 (Qp kd r ix en kv dv s1 s2))(hr:(Qd r).length=65)(he:en.length=3):w.rangeAt b 137 [s1,s2]:=fun j v hj=>by
 have:=YA h hr he (2+j) v (by rw[← hj,show 2+j=j+1+1 by omega];rfl)
 rwa [← Nat.add_assoc] at this
end
theorem Qez (x n:Nat)(h1:1≤n)(h2:n≤32)(key:List UInt8)(Ak:Option Addr)(ck:Nat)(sts:List (Nat×List (List UInt8)))(As:Option Addr)(t cs:Nat)(ps:List Pr)(Ap:Option Addr)(kp cp:Nat)(Lp:List (List Value))(w:World)
 (hl:key.length≤64) (ht:sts.length=t) (ht2:t≤2*n) (hkp:ps.length=kp) (hst:J7 w As sts) (hf:∀ s∈sts,Hm.Fit n s) (hr:Rd w Ap Lp.flatten) (hp:Ql w Lp ps) (hb:Bnd ps):
 Calls Tryz.prog 188 #[ptr x,.int .i64 n,.slice Ak key.length ck,.agg #[.slice As t cs,.slice Ap kp cp]] w fun e w'=>e= .returned (.tuple #[])∧Below w.heap.size w w':=by
 have HA:=hid (Qa ht (Qa hkp (Qa hst (Qa hf (Qa hr (Qa hp hb))))))
 have hnl:¬(64:Int)< (key.length:Int):=by omega
 have htn:decide ((2:Int)*(n:Int)< (t:Int))=false:=by rw[decide_eq_false_iff_not];omega
 have h2n:IntKind.i64.wrap (2*(n:Int))=2*(n:Int):=by rw[IntKind.wrap_i64];omega
 have hkb:kp<1048576:=by have:=hb.1;omega
 clear hl ht hkp hst hf hr hp hb
 have HB0:=hid (Qa (Blk.new w 112 [.slice As t cs,.slice Ap kp cp]) (Qb w (.cells [Value.slice As t cs,.slice Ap kp cp].toArray 112)))
 go_enter Tryz.func188,Tryz.ntmps188
 go_upto_region 1 with fail
 refine Qe (fun w'=>Blk w' w.heap.size 112 [.slice As t cs,.slice Ap kp cp]∧Below w.heap.size w w') HB0.out ?_
 rintro w1 ⟨hb1,hbl1⟩
 have q0:w1.cell? ⟨w.heap.size,0,none⟩=some (.slice As t cs):=by rw[hb1.cell];rfl
 have HB:=hid (Qa hb1 hbl1)
 clear hb1 hbl1 HB0
 go_upto_region 4 with (
  (go_at_call 187
   refine (Zq x _ _ (.inl ?_) _).mono ?_
   ·rfl
   rintro e w4 ⟨rfl,rfl⟩))
 clear q0
 go_loopg [28] t (fun g i wr=>∃ (j:Nat),j+g=t∧i= .int .i64 j∧Below w1.heap.size w1 wr)
 case atStart=>exact⟨0,by omega,rfl,Below.refl _ _⟩
 case round=>
  obtain⟨j,hj,rfl,hbl⟩:=hrel
  have hbw:=gro HB.out.2 hbl
  by_cases hlt:j<t
  ·have hjl:j<sts.length:=by rw[HA.out.1];exact hlt
   have hs:sts[j]?=some sts[j]:=List.getElem?_eq_getElem hjl
   obtain⟨s,hse⟩:∃ s,s=sts[j]:=⟨_,rfl⟩
   rw[← hse] at hs
   obtain⟨hf1,hf2,hf3⟩:=HA.out.2.2.2.1 s (List.mem_of_getElem? hs)
   obtain⟨g,o,A',c',rfl,hp,hd,-,-⟩:=(HA.out.2.2.1.grown hbw) j s hs
   obtain⟨kn,hkn⟩:∃ kn,kn=s.2.length:=⟨_,rfl⟩
   obtain⟨bm,hbm⟩:∃ bm,bm=s.1:=⟨_,rfl⟩
   rw[← hkn,←hbm] at hp
   rw[← hkn] at hf2
   have hoc:∀ v∈[Value.int .u16 bm,.slice A' kn c'],v.oneCell'=true:=fun v hv=>by
    simp only[List.mem_cons,List.not_mem_nil,or_false] at hv
    rcases hv with rfl|rfl<;>rfl
   have hwe:Blk (wr.alloc (.cells [Value.int .u16 bm,.slice A' kn c'].toArray 151)) wr.heap.size 151 [Value.int .u16 bm,.slice A' kn c']:=Blk.new wr _ _
   have k1:(wr.alloc (.cells [Value.int .u16 bm,.slice A' kn c'].toArray 151)).cell? ⟨wr.heap.size,1,none⟩=some (.slice A' kn c'):=by rw[hwe.cell];rfl
   have hbx:=Qb wr (.cells [Value.int .u16 bm,.slice A' kn c'].toArray 151)
   have hdg:=ZE x n h1 h2 A' kn c' s.2 _ hkn.symm (hd.grown hbx) hf3 (by omega)
   have h16:¬(16:Int)< (kn:Int):=by omega
   have HX:=hid (Qa (gro hbl hbx) hdg)
   clear hbl hbw hbx hdg hwe hd hkn hbm hs hse hf1 hf3 hf2
   go_wp2_with (first
    |((with_reducible refine Qf 151 (.tmp 30) g (o+j*2) [.int .u16 bm,.slice A' kn c'] 2 _ rfl hp Tryz.underlying151 rfl (by kernel_rfl) ?_ ?_ ?_ ?_);rfl;rfl;rfl)
    |((with_reducible refine Qw 151 (.tmp 9) (.tmp 31) _ _ [.int .u16 bm,.slice A' kn c'] 2 rfl ?_ (by kernel_rfl) hoc ?_ ?_ ?_ ?_ ?_);rfl;rfl;rfl;rfl;rfl)
    |(go_at_call 187
      refine (Zq x 3 false (.inl rfl) _).mono ?_
      rintro e w4 ⟨rfl,rfl⟩)
    |(go_at_call 186
      refine HX.out.2.mono ?_
      rintro e w5 ⟨rfl,hb5⟩
      have H5:=hid (gro HX.out.1 hb5);clear hb5))
   go_roundg (t-(j+1))
   case measure=>omega
   case rel=>exact⟨j+1,by omega,by go_num,H5.out⟩
  ·obtain rfl:j=t:=by omega
   have q1:wr.cell? ⟨w.heap.size,1,none⟩=some (.slice Ap kp cp):=by rw[(HB.out.1.grown hbl).cell];rfl
   have HC:=hid hbw
   clear hbl hbw
   go_upto_region 10 with fail
   clear q1
   go_loopg [47] kp (fun g i wr=>∃ (j:Nat),j+g=kp∧i= .int .i64 j∧Below w.heap.size w wr)
   case atStart=>exact⟨0,by omega,rfl,HC.out⟩
   case round=>
    obtain⟨q,hq,rfl,hbl⟩:=hrel
    by_cases hlt:q<kp
    ·have hjp:q<ps.length:=by rw[HA.out.2.1];exact hlt
     obtain⟨g,o,A1,c1,A2,c2,rfl,hp,-,-,-,-,-,-⟩:=J2 HA.out.2.2.2.2.1 HA.out.2.2.2.2.2.1 q hjp
     have hsz:=HA.out.2.2.2.2.2.2.2 ps[q] (List.getElem_mem hjp)
     obtain⟨kl,hkl⟩:∃ kl,kl=ps[q].key.length:=⟨_,rfl⟩
     obtain⟨vl,hvl⟩:∃ vl,vl=ps[q].val.length:=⟨_,rfl⟩
     rw[← hkl,←hvl] at hp hsz
     have hp2:=Qh hp hbl (Qo hp (by simp))
     have hoc:∀ v∈[Value.slice A1 kl c1,.slice A2 vl c2],v.oneCell'=true:=fun v hv=>by
      simp only[List.mem_cons,List.not_mem_nil,or_false] at hv
      rcases hv with rfl|rfl<;>rfl
     have hwe:Blk (wr.alloc (.cells [Value.slice A1 kl c1,.slice A2 vl c2].toArray 166)) wr.heap.size 166 [Value.slice A1 kl c1,.slice A2 vl c2]:=Blk.new wr _ _
     have k0:(wr.alloc (.cells [Value.slice A1 kl c1,.slice A2 vl c2].toArray 166)).cell? ⟨wr.heap.size,0,none⟩=some (.slice A1 kl c1):=by rw[hwe.cell];rfl
     have k1:(wr.alloc (.cells [Value.slice A1 kl c1,.slice A2 vl c2].toArray 166)).cell? ⟨wr.heap.size,1,none⟩=some (.slice A2 vl c2):=by rw[hwe.cell];rfl
     have hbx:=Qb wr (.cells [Value.slice A1 kl c1,.slice A2 vl c2].toArray 166)
     have i1:¬(64:Int)< (kl:Int):=by omega
     have i2:¬(256:Int)< (vl:Int):=by omega
     have HX:=hid (gro hbl hbx)
     clear hbl hbx hwe hkl hvl hsz hp
     go_wp2_with (first
      |((with_reducible refine Qf 166 (.tmp 49) g (o+q*2) [.slice A1 kl c1,.slice A2 vl c2] 2 _ rfl hp2 Tryz.underlying166 rfl (by kernel_rfl) ?_ ?_ ?_ ?_);rfl;rfl;rfl)
      |((with_reducible refine Qw 166 (.tmp 11) (.tmp 50) _ _ [.slice A1 kl c1,.slice A2 vl c2] 2 rfl ?_ (by kernel_rfl) hoc ?_ ?_ ?_ ?_ ?_);rfl;rfl;rfl;rfl;rfl)
      |(go_at_call 187
        refine (Zq x 2 false (.inl rfl) _).mono ?_
        rintro e w4 ⟨rfl,rfl⟩))
     go_roundg (kp-(q+1))
     case measure=>omega
     case rel=>exact⟨q+1,by omega,by go_num,HX.out⟩
    ·obtain rfl:q=kp:=by omega
     have HX:=hid hbl
     clear hbl
     go_wp2_with fail
     go_end0
     exact⟨rfl,HX.out⟩
theorem Qaa (n:Nat)(h1:1≤n)(h2:n≤32)(r:Rt)(hrf:Zy n r)(key:List UInt8)(Ak:Option Addr)(ck:Nat)(sts:List (Nat×List (List UInt8)))(As:Option Addr)(t cs:Nat)(ps:List Pr)(Ap:Option Addr)(kp cp:Nat)(Lp:List (List Value))(ix:Nat)(en:List Value)(dv:Value)(w:World)
 (he:en.length=3) (hl:key.length≤64) (ht:sts.length=t) (ht2:t≤2*n) (hkp:ps.length=kp) (hst:J7 w As sts) (hf:∀ s∈sts,Hm.Fit n s) (hr:Rd w Ap Lp.flatten) (hp:Ql w Lp ps) (hb:Bnd ps):
 Calls Tryz.prog 132 #[.int .i64 n,.agg (Qp 2 r ix en (.slice Ak key.length ck) dv (.slice As t cs) (.slice Ap kp cp)).toArray] w fun e w'=>e= .returned (.int .i64 0)∧Below w.heap.size w w':=by
 have hpp:=fun (x:Nat) (w':World) (h:Below w.heap.size w w')=>Qez x n h1 h2 key Ak ck sts As t cs ps Ap kp cp Lp w' hl ht ht2 hkp (hst.grown h) hf (hr.grown h) (hp.grown h) hb
 have hrl:(Qd r).length=65:=by simp[Qd,hrf.log.1,hrf.map.1]
 have HLl:=hid (show (r.log.map b8).length=32 by simp[hrf.log.1])
 have HLr:=hid (show (r.map.map b8).length=32 by simp[hrf.map.1])
 obtain⟨kl,hkl⟩:∃ kl,kl=key.length:=⟨_,rfl⟩
 rw[← hkl] at hpp ⊢
 obtain⟨C,hC⟩:∃ C,C=Qp 2 r ix en (.slice Ak kl ck) dv (.slice As t cs) (.slice Ap kp cp):=⟨_,rfl⟩
 have HB0:=hid (Qa (Blk.new w 114 C) (Qb w (.cells C.toArray 114)))
 rw[← hC]
 have HA:=hid (Qa hpp (Qa hrl (Qa he (Qa hrf hC))))
 have hdl:∀ x∈dgs [r.log,r.map],x.length=32:=Q3 fun d hd=>(hrf.fits d hd).1
 have hlen2:(dgs [r.log,r.map]).length=2:=rfl
 clear hpp hrl he hrf hC hst hf hr hp hb hkl hl ht hkp
 go_enter Tryz.func132,Tryz.ntmps132
 go_upto_region 1 with fail
 refine Qe (fun w'=>Blk w' w.heap.size 114 C∧Below w.heap.size w w') HB0.out ?_
 rintro w1 ⟨hb1,hbl1⟩
 have HB:=hid (Qa hb1 hbl1)
 clear hb1 hbl1 HB0
 go_upto_region 4 with (
  (go_at_call 185
   refine (UZ n h1 h2 _).mono ?_
   rintro e w2 ⟨rfl,rfl⟩))
 refine Qe (fun w'=>Blk w' w1.heap.size 255 [.int .i64 0]∧Below w1.heap.size w1 w') ⟨Blk.new w1 _ _,Qb _ _⟩ ?_
 rintro w3 ⟨hb3,hbl3⟩
 have hR:=HB.out.1.grown hbl3
 rw[HA.out.2.2.2.2] at hR
 have p1:=Qew hR
 have p2:=Qex hR HA.out.2.2.2.1.log.1
 have hbx:=Qb w3 (.cells (dgs [r.log,r.map]).flatten.toArray 40)
 have hdg:=ZE w1.heap.size n h1 h2 (some ⟨w3.heap.size,0,none⟩) 2 2 [r.log,r.map] _ rfl (Rd.of _ (Blk.new w3 40 (dgs [r.log,r.map]).flatten).whole) HA.out.2.2.2.1.fits (by omega)
 have HD:=hid (Qa hbl3 (Qa hb3 (Qa hR (Qa hbx hdg))))
 clear hbl3 hb3 hR hbx hdg
 go_upto_region 5 with (first
  |((with_reducible refine Qf 40 (.tmp 11) w.heap.size 2 _ 32 _ HLl.out p1 Tryz.underlying40 rfl (by kernel_rfl) ?_ ?_ ?_ ?_);rfl;rfl;rfl)
  |((with_reducible refine Qf 40 (.tmp 14) w.heap.size 34 _ 32 _ HLr.out p2 Tryz.underlying40 rfl (by kernel_rfl) ?_ ?_ ?_ ?_);rfl;rfl;rfl)
  |((with_reducible refine QY 105 40 2 #[(0,.tmp 12),(1,.tmp 15)] (dgs [r.log,r.map]) 32 (by decide) hdl hlen2 (by decide) (by decide) Tryz.underlying105 (by kernel_rfl) ?_ ?_ ?_ ?_);rfl;rfl;rfl)
  |(go_at_call 186
    refine HD.out.2.2.2.2.mono ?_
    rintro e w5 ⟨rfl,hb5⟩
    have H5:=hid (gro HD.out.2.2.2.1 hb5);clear hb5))
 have hR5:=HD.out.2.2.1.grown H5.out
 have k0:=Jv hR5
 have p3:=Qgk hR5 HA.out.2.1 HA.out.2.2.1
 have k5:=Qey hR5 HA.out.2.1 HA.out.2.2.1
 have hX5:=HD.out.2.1.grown H5.out
 have h15:=gro HB.out.2 (gro HD.out.1 H5.out)
 have HE:=hid (Qa hX5 h15)
 clear p1 p2 hR5 hX5 h15
 go_wp2_with (first
  |((with_reducible refine Qf 112 (.tmp 69) w.heap.size 137 [.slice As t cs,.slice Ap kp cp] 2 _ rfl p3 Tryz.underlying112 rfl (by kernel_rfl) ?_ ?_ ?_ ?_);rfl;rfl;rfl)
  |(go_at_call 188
    refine (HA.out.1 w1.heap.size _ HE.out.2).mono ?_
    rintro e w6 ⟨rfl,hb6⟩
    have kx:w6.cell? ⟨w1.heap.size,0,none⟩=some (.int .i64 0):=by rw[(HE.out.1.grown hb6).cell];rfl
    have H6:=hid (gro HE.out.2 hb6);clear hb6 k0 k5 p3))
 go_ret
 exact⟨rfl,H6.out⟩
theorem VU (n:Nat)(h1:1≤n)(h2:n≤32)(r:Rt)(hrf:Zy n r)(ix:Nat)(en:List Value)(x:Ent)(kv s1 s2:Value)(ds:List (List UInt8))(A:Option Addr)(k c:Nat)(w:World)
 (he:Xu w en x) (hx:En.check x=0) (hk:ds.length=k) (hk2:k≤128) (hA:Rd w A (dgs ds).flatten) (hf:XZ n ds):
 Calls Tryz.prog 132 #[.int .i64 n,.agg (Qp 1 r ix en kv (.slice A k c) s1 s2).toArray] w fun e w'=>e= .returned (.int .i64 0)∧Below w.heap.size w w':=by
 obtain⟨A1,c1,A2,c2,hen,-⟩:=he
 have hdd:=fun (y:Nat) (w':World) (h:Below w.heap.size w w')=>ZE y n h1 h2 A k c ds w' hk (hA.grown h) hf (by omega)
 have hck:=fun (w':World)=>JR x.kind A1 A2 x.key.length c1 x.val.length c2 w'
 rw[show En.chk x.kind x.key.length x.val.length=0 from hx] at hck
 have hrl:(Qd r).length=65:=by simp[Qd,hrf.log.1,hrf.map.1]
 have HLl:=hid (show (r.log.map b8).length=32 by simp[hrf.log.1])
 have HLr:=hid (show (r.map.map b8).length=32 by simp[hrf.map.1])
 have hel:en.length=3:=by rw[hen];rfl
 obtain⟨kl,hkl⟩:∃ kl,kl=x.key.length:=⟨_,rfl⟩
 obtain⟨vl,hvl⟩:∃ vl,vl=x.val.length:=⟨_,rfl⟩
 obtain⟨kd,hkd⟩:∃ kd,kd=x.kind:=⟨_,rfl⟩
 rw[← hkl,←hvl,←hkd] at hen
 simp only[← hkl,←hvl,←hkd] at hck
 obtain⟨C,hC⟩:∃ C,C=Qp 1 r ix en kv (.slice A k c) s1 s2:=⟨_,rfl⟩
 have HB0:=hid (Qa (Blk.new w 114 C) (Qb w (.cells C.toArray 114)))
 rw[← hC]
 have HA:=hid (Qa hdd (Qa hrl (Qa hel (Qa hrf (Qa hC (Qa hck hen))))))
 have hdl:∀ x∈dgs [r.log,r.map],x.length=32:=Q3 fun d hd=>(hrf.fits d hd).1
 have hlen2:(dgs [r.log,r.map]).length=2:=rfl
 have hnk:¬(128:Int)< (k:Int):=by omega
 clear hdd hrl hel hrf hC hck hen hA hf hk hx hkl hvl hkd
 go_enter Tryz.func132,Tryz.ntmps132
 go_upto_region 1 with fail
 refine Qe (fun w'=>Blk w' w.heap.size 114 C∧Below w.heap.size w w') HB0.out ?_
 rintro w1 ⟨hb1,hbl1⟩
 have HB:=hid (Qa hb1 hbl1)
 clear hb1 hbl1 HB0
 go_upto_region 4 with (
  (go_at_call 185
   refine (UZ n h1 h2 _).mono ?_
   rintro e w2 ⟨rfl,rfl⟩))
 refine Qe (fun w'=>Blk w' w1.heap.size 255 [.int .i64 0]∧Below w1.heap.size w1 w') ⟨Blk.new w1 _ _,Qb _ _⟩ ?_
 rintro w3 ⟨hb3,hbl3⟩
 have hR:=HB.out.1.grown hbl3
 rw[HA.out.2.2.2.2.1] at hR
 have p1:=Qew hR
 have p2:=Qex hR HA.out.2.2.2.1.log.1
 have hbx:=Qb w3 (.cells (dgs [r.log,r.map]).flatten.toArray 40)
 have hdg:=ZE w1.heap.size n h1 h2 (some ⟨w3.heap.size,0,none⟩) 2 2 [r.log,r.map] _ rfl (Rd.of _ (Blk.new w3 40 (dgs [r.log,r.map]).flatten).whole) HA.out.2.2.2.1.fits (by omega)
 have HD:=hid (Qa hbl3 (Qa hb3 (Qa hR (Qa hbx hdg))))
 clear hbl3 hb3 hR hbx hdg
 go_upto_region 5 with (first
  |((with_reducible refine Qf 40 (.tmp 11) w.heap.size 2 _ 32 _ HLl.out p1 Tryz.underlying40 rfl (by kernel_rfl) ?_ ?_ ?_ ?_);rfl;rfl;rfl)
  |((with_reducible refine Qf 40 (.tmp 14) w.heap.size 34 _ 32 _ HLr.out p2 Tryz.underlying40 rfl (by kernel_rfl) ?_ ?_ ?_ ?_);rfl;rfl;rfl)
  |((with_reducible refine QY 105 40 2 #[(0,.tmp 12),(1,.tmp 15)] (dgs [r.log,r.map]) 32 (by decide) hdl hlen2 (by decide) (by decide) Tryz.underlying105 (by kernel_rfl) ?_ ?_ ?_ ?_);rfl;rfl;rfl)
  |(go_at_call 186
    refine HD.out.2.2.2.2.mono ?_
    rintro e w5 ⟨rfl,hb5⟩
    have H5:=hid (gro HD.out.2.2.2.1 hb5);clear hb5))
 have hR5:=HD.out.2.2.1.grown H5.out
 have k0:=Jv hR5
 have p3:=Qgq hR5 HA.out.2.1
 rw[HA.out.2.2.2.2.2.2] at p3
 have k6:=W9 hR5 HA.out.2.1 HA.out.2.2.1
 have hX5:=HD.out.2.1.grown H5.out
 have h15:=gro HB.out.2 (gro HD.out.1 H5.out)
 have HE:=hid (Qa hX5 (Qa h15 hR5))
 clear p1 p2 hR5 hX5 h15
 go_wp2_with (first
  |((with_reducible refine Qf 36 (.tmp 41) w.heap.size 132 [b8 kd,.slice A1 kl c1,.slice A2 vl c2] 3 _ rfl p3 Tryz.underlying36 rfl (by kernel_rfl) ?_ ?_ ?_ ?_);rfl;rfl;rfl)
  |(go_at_call 39
    refine (HA.out.2.2.2.2.2.1 _).mono ?_
    rintro e w6 ⟨rfl,hb6⟩
    have k7:=W9 (HE.out.2.2.grown hb6) HA.out.2.1 HA.out.2.2.1
    have H6:=hid hb6;clear hb6 k0 k6 p3)
  |(go_at_call 187
    have hq6:=H6
    clear hq6
    refine (Zq w1.heap.size 0 true (.inr rfl) _).mono ?_
    rintro e w4 ⟨rfl,rfl⟩)
  |(go_at_call 187
    refine (Zq w1.heap.size 2 false (.inl rfl) _).mono ?_
    rintro e w4 ⟨rfl,rfl⟩)
  |(go_at_call 186
    refine (HA.out.1 w1.heap.size _ (gro HE.out.2.1 H6.out)).mono ?_
    rintro e w7 ⟨rfl,hb7⟩
    have kx:w7.cell? ⟨w1.heap.size,0,none⟩=some (.int .i64 0):=by rw[((HE.out.1.grown H6.out).grown hb7).cell];rfl
    have H7:=hid (gro (gro HE.out.2.1 H6.out) hb7);clear hb7))
 go_ret
 exact⟨rfl,H7.out⟩
def Jy (n:Nat)(ds:List (List UInt8)):List UInt8:=ds.flatMap fun d=>d.take n
theorem Qcw (n:Nat)(ds:List (List UInt8))(d:List UInt8):Jy n (ds++[d])=Jy n ds++d.take n:=by simp[Jy]
theorem J8 (n:Nat)(ds:List (List UInt8)):(Jy n ds).length≤ds.length*n:=by
 unfold Jy
 induction ds with
 |nil=>simp
 |cons d ds ih=>rw[List.flatMap_cons,List.length_append,List.length_take,List.length_cons,Nat.add_mul];omega
theorem Qe0 (g:Nat)(w0:World)(l:List UInt8)(n:Nat)(h1:1≤n)(h2:n≤32)(ds:List (List UInt8))(A:Option Addr)(k c:Nat)(w:World)(hw:Wr w0.heap.size g w0 w l)(hk:ds.length=k)(hk2:k≤256)(hA:Rd w0 A (dgs ds).flatten)(hf:XZ n ds)(hl:l.length<1099511627776):
 Calls Tryz.prog 135 #[ptr g,.int .i64 n,.slice A k c] w fun e w'=>e= .returned (.tuple #[])∧Wr w0.heap.size g w0 w' (l++Wi.uvar k++Jy n ds):=by
 have hvl:=Wi.uvar_length 9 k (by omega)
 have HA:=hid (Qa hk (Qa hA (Qa hf (Qa hw hvl))))
 have hkw:IntKind.u64.wrap (k:Int)=(k:Int):=by rw[IntKind.wrap_u64];omega
 clear hk hA hf hw hvl
 go_enter Tryz.func135,Tryz.ntmps135
 go_upto_region 2 with (
  (go_at_call 110
   refine (Ki k HA.out.2.2.2.1 (by omega) (by omega)).mono ?_
   rintro e w3 ⟨rfl,h⟩
   have HW:=hid h
   clear h))
 go_loopg [15] k (fun g' i wr=>∃ (j:Nat),j+g'=k∧i= .int .i64 j∧Wr w0.heap.size g w0 wr (l++Wi.uvar k++Jy n (ds.take j)))
 case atStart=>exact⟨0,by omega,rfl,by simpa [Jy] using HW.out⟩
 case round=>
  obtain⟨j,hj,rfl,hwr⟩:=hrel
  by_cases hlt:j<k
  ·have hjd:j<ds.length:=by rw[HA.out.1];exact hlt
   obtain⟨d,hd⟩:∃ d,d=ds[j]:=⟨_,rfl⟩
   obtain⟨hdl,hdf⟩:=HA.out.2.2.1 d (by rw[hd];exact List.getElem_mem hjd)
   have hfl:=Q3 fun d hd=>(HA.out.2.2.1 d hd).1
   obtain⟨g2,o,rfl,hr⟩:=HA.out.2.1 (fun e=>by
    have:=Qk 32 _ hfl
    rw[e] at this;simp[dgs] at this;omega)
   have hp:=Qt hr hfl j (by simp[dgs];exact hjd)
   rw[show (dgs ds)[j]'(by simp[dgs];exact hjd)=d.map b8 by simp[dgs,hd]] at hp
   have hp:=Qh hp hwr.bl (Qo hp (by simp[hdl]))
   have HL:=hid (show (d.map b8).length=32 by simp[hdl])
   have htk:(d.take n).length=n:=by rw[List.length_take];omega
   have hlb:=J8 n (ds.take j)
   have htj:(ds.take j).length≤256:=by rw[List.length_take];omega
   have hmul:(ds.take j).length*n≤256*32:=Nat.mul_le_mul htj h2
   have hsn:Jy n (ds.take (j+1))=Jy n (ds.take j)++d.take n:=by rw[List.take_succ_eq_append_getElem hjd,Qcw,hd]
   have hbx:=Qb wr (.cells (d.map b8).toArray 40)
   have hrx:=(Blk.new wr 40 (d.map b8)).whole
   have hs1:=QH (P:=Tryz.prog) Tryz.underlying40 (by kernel_rfl) wr.heap.size 0 n h2
   have hraw:=JB (d.take n) n (some ⟨wr.heap.size,0,none⟩) 32 (hwr.grown hbx) htk (by rw[List.map_take];exact Rd.take (Rd.of _ hrx) n) (by have:=HA.out.2.2.2.2;simp only[List.length_append];omega)
   have HX:=hid (Qa hraw hsn)
   clear hraw hsn hbx hrx hmul htj hlb htk hwr hfl hr hd hdl hdf
   go_wp2_with (first
    |((with_reducible refine Qf 40 (.tmp 17) g2 (o+j*32) _ 32 _ HL.out hp Tryz.underlying40 rfl (by kernel_rfl) ?_ ?_ ?_ ?_);rfl;rfl;rfl)
    |((with_reducible refine Qw 40 (.tmp 7) (.tmp 18) _ _ (d.map b8) 32 HL.out ?_ (by kernel_rfl) (Qi _) ?_ ?_ ?_ ?_ ?_);rfl;rfl;rfl;rfl;rfl)
    |(go_at_call 128
      refine HX.out.1.mono ?_
      rintro e w4 ⟨rfl,h⟩
      have H4:=hid h;clear h))
   go_roundg (k-(j+1))
   case measure=>omega
   case rel=>exact⟨j+1,by omega,by go_num,by rw[HX.out.2,←List.append_assoc];exact H4.out⟩
  ·obtain rfl:j=k:=by omega
   rw[List.take_of_length_le (by rw[HA.out.1];exact Nat.le_refl _)] at hwr
   have HX:=hid hwr
   clear hwr
   go_wp2_with fail
   go_end0
   exact⟨rfl,HX.out⟩
theorem Qe1 (e:Ent)(A1 A2:Option Addr)(c1 c2:Nat)(w:World)(hr1:Rd w A1 (e.key.map b8))(hr2:Rd w A2 (e.val.map b8))(hok:En.check e=0):
 Calls Tryz.prog 114 #[.agg #[b8 e.kind,.slice A1 e.key.length c1,.slice A2 e.val.length c2]] w fun ee w'=>∃ A c,ee= .returned (.tuple #[.slice A (En.bytes e).length c,.int .i64 0])∧Below w.heap.size w w'∧Rd w' A ((En.bytes e).map b8)∧∀ a,A=some a→w.heap.size≤a.block:=by
 have hlen:=En.lens e hok
 have hbl:=En.bytes_len e hok
 have hbk:Blk (w.alloc (.cells #[b8 e.kind,.slice A1 e.key.length c1,.slice A2 e.val.length c2] 36)) w.heap.size 36 [b8 e.kind,.slice A1 e.key.length c1,.slice A2 e.val.length c2]:=Blk.new w _ _
 have HE:=hid (Qa hr1 (Qa hr2 (Qa hok (Qa hlen hbl))))
 clear hr1 hr2 hok hlen hbl
 go_enter Tryz.func114,Tryz.ntmps114
 go_upto_region 1 with fail
 refine Qe (fun w'=>Blk w' w.heap.size 36 [b8 e.kind,.slice A1 e.key.length c1,.slice A2 e.val.length c2]∧Below w.heap.size w w') ⟨hbk,Qb _ _⟩ ?_
 clear hbk
 rintro w1 ⟨hb,hbl⟩
 have hr:=hb.whole
 have HB:=hid (Qa hb hbl)
 clear hb hbl
 go_wp2_with (first
  |(go_at_call 112
    refine (Kf w2.heap.size (En.bytes e) _ (by have:=HW.out.wr;rwa [List.nil_append] at this) (by have:=HE.out.2.2.2.2;omega)).mono ?_
    rintro e7 w7 hN
    obtain⟨A',c',rfl,h1,h2,h3,h4,h5⟩:=hN.sl
    have HZ:=hid (Qa (gro HW.out.bl h1) (Qa h2 (fun a ha=>Nat.le_trans HW.out.bl.size (h4 a ha))))
    clear h1 h2 h3 h4 h5 hN)
  |(go_at_call 111
    have hn:=(Wr.new w2).weaken (gro HB.out.2 HC.out)
    refine (Vt w2.heap.size w e A1 A2 c1 c2 [] _ hn HE.out.1 HE.out.2.1 (by simp) (by have:=HE.out.2.2.2.1;omega) (by have:=HE.out.2.2.2.1;omega)).mono ?_
    rintro ee w3 ⟨rfl,h,-⟩
    have HW:=hid h;clear h)
  |((with_reducible refine Qf 36 (.tmp 1) w.heap.size 0 _ 3 _ rfl hr3 Tryz.underlying36 rfl (by kernel_rfl) ?_ ?_ ?_ ?_);rfl;rfl;rfl)
  |((with_reducible refine Qf 36 (.tmp 1) w.heap.size 0 _ 3 _ rfl hr Tryz.underlying36 rfl (by kernel_rfl) ?_ ?_ ?_ ?_);rfl;rfl;rfl)
  |(go_at_call 39
    refine (JR e.kind A1 A2 e.key.length c1 e.val.length c2 _).mono ?_
    rw[show En.chk e.kind e.key.length e.val.length=0 from HE.out.2.2.1]
    rintro ee w2 ⟨rfl,hk⟩
    have hr3:(w2.alloc (.cells #[.slice none 0 0] 184)).rangeAt w.heap.size 0 [b8 e.kind,.slice A1 e.key.length c1,.slice A2 e.val.length c2]:=((HB.out.1.grown hk).grown (Qb _ _)).whole
    have HC:=hid hk;clear hk))
 go_ret2
 exact⟨A',c',rfl,HZ.out.1,HZ.out.2⟩
def Rc.eb (n:Nat)(r:Rt)(ix:Nat)(x:Ent)(ds:List (List UInt8)):List UInt8:=[]++[1]++Rt.bytes n r++Wi.uvar ix++Wi.blob (En.bytes x)++Wi.uvar ds.length++Jy n ds
theorem Rt.bytes_len (n:Nat)(h2:n≤32)(r:Rt):(Rt.bytes n r).length≤72:=by
 have h:=Wi.wide_length r.size 8
 simp only[Rt.bytes,List.length_append,List.length_take];omega
theorem U0 {B g k:Nat}{w0 w w1:World}{l:List UInt8}(h:Wr B g w0 w l)(hb:Below w.heap.size w w1)(hk:w.heap.size≤k):¬WrS w1 g k:=by
 rintro(rfl|⟨v,h1,h2⟩)
 ·have:=h.wr.lt;omega
 ·obtain⟨v',h1',h2'⟩:=h.wr
  have h3:=h1'.grown hb
  unfold Blk at h1 h3
  rw[h3] at h1
  cases h1
  have:=(h2'.lt k h2).2
  omega
theorem YN (n:Nat)(h1:1≤n)(h2:n≤32)(r:Rt)(hrf:Zy n r)(ix:Nat)(hix:ix<18446744073709551616)(en:List Value)(x:Ent)(kv s1 s2:Value)(ds:List (List UInt8))(A:Option Addr)(k c:Nat)(w:World)
 (he:Xu w en x) (hx:En.check x=0) (hk:ds.length=k) (hk2:k≤128) (hA:Rd w A (dgs ds).flatten) (hf:XZ n ds):
 Calls Tryz.prog 85 #[.int .i64 n,.agg (Qp 1 r ix en kv (.slice A k c) s1 s2).toArray] w fun e w'=>∃ A' c',e= .returned (.tuple #[.slice A' (Rc.eb n r ix x ds).length c',.int .i64 0])∧Below w.heap.size w w'∧Rd w' A' ((Rc.eb n r ix x ds).map b8):=by
 have hck:=fun (w':World) (h:Below w.heap.size w w')=>VU n h1 h2 r hrf ix en x kv s1 s2 ds A k c w' (he.grown h) hx hk hk2 (hA.grown h) hf
 have hrt:=fun (w':World)=>UY n h1 h2 r w' hrf
 obtain⟨A1,c1,A2,c2,hen,he1,he2,-⟩:=he
 have hec:=fun (w':World) (h:Below w.heap.size w w')=>Qe1 x A1 A2 c1 c2 w' (he1.grown h) (he2.grown h) hx
 have hlay:=fun (g:Nat) (w0:World) (l:List UInt8) (w':World) (h:Below w.heap.size w w0) (hw:Wr w0.heap.size g w0 w' l) (hl:l.length<1099511627776)=>Qe0 g w0 l n h1 h2 ds A k c w' hw hk (by omega) (hA.grown h) hf hl
 have hrl:(Qd r).length=65:=by simp[Qd,hrf.log.1,hrf.map.1]
 have hel:en.length=3:=by rw[hen];rfl
 have hbl:=En.bytes_len x hx
 have hrb:=Rt.bytes_len n h2 r
 have hul:=Wi.uvar_length 9 ix (by omega)
 have hul2:=Wi.uvar_length 9 (En.bytes x).length (by omega)
 have hul3:=Wi.uvar_length 9 k (by omega)
 have hll:=J8 n ds
 have hmul:ds.length*n≤128*32:=Nat.mul_le_mul (by omega) h2
 have hR:Rc.eb n r ix x ds=[]++[1]++Rt.bytes n r++Wi.uvar ix++Wi.blob (En.bytes x)++Wi.uvar k++Jy n ds:=by rw[Rc.eb,hk]
 have hRl:(Rc.eb n r ix x ds).length<17592186044416:=by rw[hR];simp only[Wi.blob,List.length_append,List.length_cons,List.length_nil];omega
 obtain⟨R,hRe⟩:∃ R,R=Rc.eb n r ix x ds:=⟨_,rfl⟩
 rw[← hRe] at hR hRl ⊢
 obtain⟨kl,hkl⟩:∃ kl,kl=x.key.length:=⟨_,rfl⟩
 obtain⟨vl,hvl⟩:∃ vl,vl=x.val.length:=⟨_,rfl⟩
 obtain⟨kd,hkd⟩:∃ kd,kd=x.kind:=⟨_,rfl⟩
 obtain⟨P,hP⟩:∃ P,P=En.bytes x:=⟨_,rfl⟩
 obtain⟨Q,hQ⟩:∃ Q,Q=Rt.bytes n r:=⟨_,rfl⟩
 obtain⟨RC,hRC⟩:∃ RC,RC=Qd r:=⟨_,rfl⟩
 rw[← hkl,←hvl,←hkd] at hen
 rw[← hP] at hbl hul2
 rw[← hQ] at hrb
 rw[← hP,←hQ] at hR
 rw[← hRC] at hrl
 simp only[← hkl,←hvl,←hkd,←hP] at hec
 simp only[← hQ,←hRC] at hrt
 obtain⟨C,hC⟩:∃ C,C=Qp 1 r ix en kv (.slice A k c) s1 s2:=⟨_,rfl⟩
 have hCl:C.length=139:=by rw[hC];exact KF (by rw[← hRC];exact hrl) hel
 rw[← hC]
 simp only[← hC] at hck
 have HB0:=hid (Qa (Blk.new w 114 C) (Qb w (.cells C.toArray 114)))
 have HA:=hid (Qa hck (Qa hrt (Qa hec (Qa hlay (Qa hrl (Qa hel (Qa hen (Qa hR (Qa hRl (Qa hC hRC))))))))))
 have HN:=hid (Qa hbl (Qa hrb (Qa hul (Qa hul2 (Qa hul3 (Qa hll hmul))))))
 clear hck hrt hec hlay hrl hel hen hR hRl hC hRC hbl hrb hul hul2 hul3 hll hmul hRe hkl hvl hkd hP hQ hA hf hk hx he1 he2 hrf
 go_enter Tryz.func85,Tryz.ntmps85
 go_upto_region 1 with fail
 refine Qe (fun w'=>Blk w' w.heap.size 114 C∧Below w.heap.size w w') HB0.out ?_
 rintro w1 ⟨hb1,hbl1⟩
 have p0:=hb1.whole
 have HB:=hid (Qa hb1 hbl1)
 clear hb1 hbl1 HB0
 go_upto_region 5 with (first
  |((with_reducible refine Qf 114 (.tmp 3) w.heap.size 0 C 139 _ hCl p0 Tryz.underlying114 rfl (by kernel_rfl) ?_ ?_ ?_ ?_);rfl;rfl;rfl)
  |(go_at_call 132
    refine (HA.out.1 _ HB.out.2).mono ?_
    rintro e w2 ⟨rfl,hb2⟩
    have H2:=hid hb2;clear hb2))
 refine Qe (fun w'=>Wr w2.heap.size w2.heap.size w2 w' []) (Wr.new w2) ?_
 rintro w3 hwr
 clear p0
 have h02:=gro HB.out.2 H2.out
 have hR2:=HB.out.1.grown H2.out
 rw[HA.out.2.2.2.2.2.2.2.2.2.1] at hR2
 have hR3:=hR2.grown hwr.bl
 have k0:=Jv hR3
 have HW:=hid hwr
 have HR:=hid (Qa hR2 h02)
 clear hwr hR2 hR3 h02
 have hrl2:(Qd r).length=65:=by rw[← HA.out.2.2.2.2.2.2.2.2.2.2];exact HA.out.2.2.2.2.1
 have HRL:=hid hrl2
 clear hrl2
 go_upto_region 7 with (first
  |(go_at_call 126
    refine (Qbi 1 HW.out (by simp)).mono ?_
    rintro e w4 ⟨rfl,h⟩
    have p1:=Qa4 (HR.out.1.grown h.bl)
    rw[← HA.out.2.2.2.2.2.2.2.2.2.2] at p1
    have H4:=hid h
    clear h k0)
  |((with_reducible refine Qf 42 (.tmp 24) w.heap.size 1 RC 65 _ HA.out.2.2.2.2.1 p1 Tryz.underlying42 rfl (by kernel_rfl) ?_ ?_ ?_ ?_);rfl;rfl;rfl)
  |(go_at_call 133
    refine (HA.out.2.1 _).mono ?_
    rintro e w5 ⟨A5,c5,rfl,hb5,hr5⟩
    have H5:=hid (Qa (H4.out.grown hb5) hr5)
    clear hb5 hr5 p1)
  |(go_at_call 128
    refine (JB Q Q.length A5 c5 H5.out.1 rfl H5.out.2 (by have:=HN.out.2.1;simp only[List.length_append,List.length_cons,List.length_nil];omega)).mono ?_
    rintro e w6 ⟨rfl,h⟩
    have H6:=hid h
    clear h))
 have hR6:=HR.out.1.grown H6.out.bl
 have k0:=Jv hR6
 have p2:=Qgq hR6 HRL.out
 rw[HA.out.2.2.2.2.2.2.1] at p2
 clear hR6
 go_wp2_with (first
  |((with_reducible refine Qf 36 (.tmp 33) w.heap.size 132 [b8 kd,.slice A1 kl c1,.slice A2 vl c2] 3 _ rfl p2 Tryz.underlying36 rfl (by kernel_rfl) ?_ ?_ ?_ ?_);rfl;rfl;rfl)
  |(go_at_call 114
    refine (HA.out.2.2.1 _ (gro HR.out.2 H6.out.bl)).mono ?_
    rintro e w7 ⟨A7,c7,rfl,hb7,hr7,hf7⟩
    have k7:=Qh2 ((HR.out.1.grown H6.out.bl).grown hb7) HRL.out
    have H7:=hid (Qa (H6.out.grown hb7) (Qa hr7 (Qa hf7 hb7)))
    clear hb7 hr7 hf7 k0 p2)
  |(go_at_call 110
    refine (K6 w2.heap.size _ ix w7 hix H7.out.1.wr (by have:=HN.out.2.1;simp only[List.length_append,List.length_cons,List.length_nil];omega)).mono ?_
    rintro e w8 ⟨rfl,hwb,hwk⟩
    have h8:=H7.out.1.step hwb hwk
    have hr8:Rd w8 A7 (P.map b8):=H7.out.2.1.kept hwk.1 (fun a ha _=>U0 H6.out H7.out.2.2.2 (H7.out.2.2.1 a ha))
    have hn8:∀ a,A7=some a→P≠[]→¬WrS w8 w2.heap.size a.block:=fun a ha hn hs=>U0 H6.out H7.out.2.2.2 (H7.out.2.2.1 a ha) (hwk.2 _ (Rd.lt H7.out.2.1 (by simpa using hn) a ha) hs)
    have H8:=hid (Qa h8 (Qa hr8 hn8))
    clear hwb hwk h8 hr8 hn8 k7)
  |(go_at_call 134
    refine (K7 w2.heap.size _ P A7 c7 w8 H8.out.1.wr H8.out.2.1 (fun hn ad e hs=>H8.out.2.2 ad e hn hs) (by have:=HN.out.1;have:=HN.out.2.1;have:=HN.out.2.2.1;simp only[List.length_append,List.length_cons,List.length_nil];omega)).mono ?_
    rintro e w9 ⟨rfl,hwb,hwk⟩
    have h9:=H8.out.1.step hwb hwk
    have k9:=W9 (HR.out.1.grown h9.bl) HRL.out HA.out.2.2.2.2.2.1
    have H9:=hid h9
    clear hwb hwk h9)
  |(go_at_call 135
    refine (HA.out.2.2.2.1 w2.heap.size w2 _ w9 HR.out.2 H9.out (by have:=HN.out.1;have:=HN.out.2.1;have:=HN.out.2.2.1;have:=HN.out.2.2.2.1;simp only[Wi.blob,List.length_append,List.length_cons,List.length_nil];omega)).mono ?_
    rintro e w10 ⟨rfl,h⟩
    rw[← HA.out.2.2.2.2.2.2.2.1] at h
    have H10:=hid h
    clear h k9)
  |(go_at_call 112
    refine (Zm H10.out HA.out.2.2.2.2.2.2.2.2.1).mono ?_
    rintro e w11 ⟨A',c',rfl,h1,h2,h3,h4⟩
    have HZ:=hid (Qa h1 h3)
    clear h1 h2 h3 h4))
 go_ret2
 exact⟨A',c',rfl,gro HR.out.2 HZ.out.1,HZ.out.2⟩
def stB (n:Nat)(sts:List (Nat×List (List UInt8))):List UInt8:=sts.flatMap fun s=>Wi.wide s.1 2++Wi.uvar s.2.length++Jy n s.2
def prB (ps:List Pr):List UInt8:=ps.flatMap fun p=>Wi.blob p.key++Wi.blob p.val
theorem Qe2 (n:Nat)(sts:List (Nat×List (List UInt8)))(s:Nat×List (List UInt8)):stB n (sts++[s])=stB n sts++(Wi.wide s.1 2++Wi.uvar s.2.length++Jy n s.2):=by simp[stB]
theorem VV (n:Nat)(h2:n≤32):∀ (sts:List (Nat×List (List UInt8))),(∀ s∈sts,s.2.length≤16)→(stB n sts).length≤1000*sts.length
 |[],_=>by simp[stB]
 |s :: sts,h=>by
  have ih:=VV n h2 sts fun q hq=>h q (by simp[hq])
  have hs:=h s (by simp)
  have h1:=Wi.wide_length s.1 2
  have h3:=Wi.uvar_length 9 s.2.length (by omega)
  have h4:=J8 n s.2
  have h5:s.2.length*n≤16*32:=Nat.mul_le_mul hs h2
  have e:stB n (s :: sts)=(Wi.wide s.1 2++Wi.uvar s.2.length++Jy n s.2)++stB n sts:=rfl
  rw[e]
  simp only[List.length_append,List.length_cons]
  omega
def Rc.kb (n:Nat)(r:Rt)(key:List UInt8)(sts:List (Nat×List (List UInt8)))(ps:List Pr):List UInt8:=[]++[2]++Rt.bytes n r++Wi.blob key++Wi.uvar sts.length++stB n sts++Wi.uvar ps.length++prB ps
theorem U1 (n:Nat)(h1:1≤n)(h2:n≤32)(r:Rt)(hrf:Zy n r)(key:List UInt8)(Ak:Option Addr)(ck:Nat)(sts:List (Nat×List (List UInt8)))(As:Option Addr)(t cs:Nat)(ps:List Pr)(Ap:Option Addr)(kp cp:Nat)(Lp:List (List Value))(ix:Nat)(en:List Value)(dv:Value)(w:World)
 (he:en.length=3) (hk:Rd w Ak (key.map b8)) (hl:key.length≤64) (ht:sts.length=t) (ht2:t≤2*n) (hkp:ps.length=kp) (hst:J7 w As sts) (hf:∀ s∈sts,Hm.Fit n s) (hr:Rd w Ap Lp.flatten) (hp:Ql w Lp ps) (hb:Bnd ps):
 Calls Tryz.prog 85 #[.int .i64 n,.agg (Qp 2 r ix en (.slice Ak key.length ck) dv (.slice As t cs) (.slice Ap kp cp)).toArray] w fun e w'=>∃ A' c',e= .returned (.tuple #[.slice A' (Rc.kb n r key sts ps).length c',.int .i64 0])∧Below w.heap.size w w'∧Rd w' A' ((Rc.kb n r key sts ps).map b8):=by
 have hck:=fun (w':World) (h:Below w.heap.size w w')=>Qaa n h1 h2 r hrf key Ak ck sts As t cs ps Ap kp cp Lp ix en dv w' he hl ht ht2 hkp (hst.grown h) hf (hr.grown h) (hp.grown h) hb
 have hrt:=fun (w':World)=>UY n h1 h2 r w' hrf
 have hrl:(Qd r).length=65:=by simp[Qd,hrf.log.1,hrf.map.1]
 have hrb:=Rt.bytes_len n h2 r
 have hul:=Wi.uvar_length 9 key.length (by omega)
 have hul2:=Wi.uvar_length 9 t (by omega)
 have hpb:=hb.1
 have hul3:=Wi.uvar_length 9 kp (by omega)
 have hsl:=fun j=>VV n h2 (sts.take j) fun s hs=>(hf s (List.mem_of_mem_take hs)).2.1
 have hR:Rc.kb n r key sts ps=[]++[2]++Rt.bytes n r++Wi.blob key++Wi.uvar t++stB n sts++Wi.uvar kp++prB ps:=by rw[Rc.kb,ht,hkp]
 have hbz:=hb.size
 have hRl:(Rc.kb n r key sts ps).length<17592186044416:=by
  have:=hsl sts.length
  rw[List.take_length] at this
  have hpz:(prB ps).length=QS ps:=rfl
  rw[hR];simp only[Wi.blob,List.length_append,List.length_cons,List.length_nil];omega
 obtain⟨R,hRe⟩:∃ R,R=Rc.kb n r key sts ps:=⟨_,rfl⟩
 rw[← hRe] at hR hRl ⊢
 obtain⟨Q,hQ⟩:∃ Q,Q=Rt.bytes n r:=⟨_,rfl⟩
 obtain⟨RC,hRC⟩:∃ RC,RC=Qd r:=⟨_,rfl⟩
 rw[← hQ] at hrb hR
 have hU0:([]++[(2:UInt8)]++Q++Wi.blob key++Wi.uvar t).length≤200:=by simp only[Wi.blob,List.length_append,List.length_cons,List.length_nil];omega
 rw[← hRC] at hrl
 simp only[← hQ,←hRC] at hrt
 obtain⟨kl,hkl⟩:∃ kl,kl=key.length:=⟨_,rfl⟩
 rw[← hkl] at hul hl ⊢
 simp only[← hkl] at hck
 obtain⟨C,hC⟩:∃ C,C=Qp 2 r ix en (.slice Ak kl ck) dv (.slice As t cs) (.slice Ap kp cp):=⟨_,rfl⟩
 have hCl:C.length=139:=by rw[hC];exact KF (by rw[← hRC];exact hrl) he
 rw[← hC]
 simp only[← hC] at hck
 have HB0:=hid (Qa (Blk.new w 114 C) (Qb w (.cells C.toArray 114)))
 have HA:=hid (Qa hck (Qa hrt (Qa hk (Qa hst (Qa hrl (Qa he (Qa hf (Qa hR (Qa hRl (Qa hC hRC))))))))))
 have HN:=hid (Qa hrb (Qa hul (Qa hul2 (Qa hul3 (Qa hsl (Qa hbz (Qa hl (Qa hkl hU0))))))))
 have HP:=hid (Qa ht (Qa hkp (Qa hr hp)))
 have htw:IntKind.u64.wrap (t:Int)=(t:Int):=by rw[IntKind.wrap_u64];omega
 have hkw:IntKind.u64.wrap (kp:Int)=(kp:Int):=by rw[IntKind.wrap_u64];omega
 have ht64:t≤64:=by omega
 have hkpb:kp<1048576:=by omega
 clear hck hrt hk hst hrl he hf hR hRl hC hRC hrb hul hul2 hul3 hsl hbz hRe hkl hU0 hQ hl hb ht hkp hr hp hrf ht2 hpb
 go_enter Tryz.func85,Tryz.ntmps85
 go_upto_region 1 with fail
 refine Qe (fun w'=>Blk w' w.heap.size 114 C∧Below w.heap.size w w') HB0.out ?_
 rintro w1 ⟨hb1,hbl1⟩
 have p0:=hb1.whole
 have HB:=hid (Qa hb1 hbl1)
 clear hb1 hbl1 HB0
 go_upto_region 5 with (first
  |((with_reducible refine Qf 114 (.tmp 3) w.heap.size 0 C 139 _ hCl p0 Tryz.underlying114 rfl (by kernel_rfl) ?_ ?_ ?_ ?_);rfl;rfl;rfl)
  |(go_at_call 132
    refine (HA.out.1 _ HB.out.2).mono ?_
    rintro e w2 ⟨rfl,hb2⟩
    have H2:=hid hb2;clear hb2))
 refine Qe (fun w'=>Wr w2.heap.size w2.heap.size w2 w' []) (Wr.new w2) ?_
 rintro w3 hwr
 clear p0
 have h02:=gro HB.out.2 H2.out
 have hR2:=HB.out.1.grown H2.out
 rw[HA.out.2.2.2.2.2.2.2.2.2.1] at hR2
 have hR3:=hR2.grown hwr.bl
 have k0:=Jv hR3
 have HW:=hid hwr
 have HR:=hid (Qa hR2 h02)
 clear hwr hR2 hR3 h02
 have hrl2:(Qd r).length=65:=by rw[← HA.out.2.2.2.2.2.2.2.2.2.2];exact HA.out.2.2.2.2.1
 have HRL:=hid hrl2
 clear hrl2
 go_upto_region 7 with (first
  |(go_at_call 126
    refine (Qbi 2 HW.out (by simp)).mono ?_
    rintro e w4 ⟨rfl,h⟩
    have p1:=Qa4 (HR.out.1.grown h.bl)
    rw[← HA.out.2.2.2.2.2.2.2.2.2.2] at p1
    have H4:=hid h
    clear h k0)
  |((with_reducible refine Qf 42 (.tmp 24) w.heap.size 1 RC 65 _ HA.out.2.2.2.2.1 p1 Tryz.underlying42 rfl (by kernel_rfl) ?_ ?_ ?_ ?_);rfl;rfl;rfl)
  |(go_at_call 133
    refine (HA.out.2.1 _).mono ?_
    rintro e w5 ⟨A5,c5,rfl,hb5,hr5⟩
    have H5:=hid (Qa (H4.out.grown hb5) hr5)
    clear hb5 hr5 p1)
  |(go_at_call 128
    refine (JB Q Q.length A5 c5 H5.out.1 rfl H5.out.2 (by have:=HN.out.1;simp only[List.length_append,List.length_cons,List.length_nil];omega)).mono ?_
    rintro e w6 ⟨rfl,h⟩
    have H6:=hid h
    clear h))
 have hR6:=HR.out.1.grown H6.out.bl
 have k0:=Jv hR6
 have k5:=Qey hR6 HRL.out HA.out.2.2.2.2.2.1
 have hkey2:=HA.out.2.2.1.grown HR.out.2
 have hblob:=Qdc key kl Ak ck H6.out HN.out.2.2.2.2.2.2.2.1.symm (hkey2.grown H6.out.bl) (fun hn ad e=>Rd.lt hkey2 (by simpa using hn) ad e) H6.out.bl.size (by have:=HN.out.1;have:=HN.out.2.2.2.2.2.2.2.1;have:=HN.out.2.2.2.2.2.2.1;simp only[List.length_append,List.length_cons,List.length_nil];omega)
 have HBL:=hid hblob
 clear hR6 hkey2 hblob
 go_upto_region 17 with (first
  |(go_at_call 134
    refine HBL.out.mono ?_
    rintro e w7 ⟨rfl,h⟩
    have k7:=Qgr (HR.out.1.grown h.bl) HRL.out HA.out.2.2.2.2.2.1
    have H7:=hid h
    clear h k0 k5)
  |(go_at_call 110
    refine (Ki t H7.out (by omega) (by have:=HN.out.2.2.2.2.2.2.2.2;rw[List.length_append] at this;omega)).mono ?_
    rintro e w8 ⟨rfl,h⟩
    have k8:=Qgr (HR.out.1.grown h.bl) HRL.out HA.out.2.2.2.2.2.1
    have H8:=hid h
    clear h k7))
 clear k8
 obtain⟨U,hU⟩:∃ U,U=[]++[2]++Q++Wi.blob key++Wi.uvar t:=⟨_,rfl⟩
 have hUl:U.length≤200:=by rw[hU];exact HN.out.2.2.2.2.2.2.2.2
 have h8:=H8.out
 rw[← hU] at h8
 have H8':=hid h8
 have HU:=hid (Qa hU hUl)
 clear h8 H8 hU hUl H7 H6 H5 H4
 go_loopg [62] t (fun g' i wr=>∃ (j:Nat),j+g'=t∧i= .int .i64 j∧Wr w2.heap.size w2.heap.size w2 wr (U++stB n (sts.take j)))
 case atStart=>exact⟨0,by omega,rfl,by simpa [stB] using H8'.out⟩
 case round=>
  obtain⟨j,hj,rfl,hwr⟩:=hrel
  by_cases hlt:j<t
  ·have hjl:j<sts.length:=by rw[HP.out.1];exact hlt
   have hs:sts[j]?=some sts[j]:=List.getElem?_eq_getElem hjl
   obtain⟨s,hse⟩:∃ s,s=sts[j]:=⟨_,rfl⟩
   rw[← hse] at hs
   obtain⟨hf1,hf2,hf3⟩:=HA.out.2.2.2.2.2.2.1 s (List.mem_of_getElem? hs)
   obtain⟨g,o,A',c',rfl,hp,hd,-,-⟩:=(HA.out.2.2.2.1.grown HR.out.2) j s hs
   have hsn:stB n (sts.take (j+1))=stB n (sts.take j)++(Wi.wide s.1 2++Wi.uvar s.2.length++Jy n s.2):=by rw[List.take_succ_eq_append_getElem hjl,Qe2,hse]
   have hwl:=Wi.wide_length s.1 2
   obtain⟨kn,hkn⟩:∃ kn,kn=s.2.length:=⟨_,rfl⟩
   obtain⟨bm,hbm⟩:∃ bm,bm=s.1:=⟨_,rfl⟩
   rw[← hkn,←hbm] at hp hsn
   rw[← hbm] at hf1 hwl
   rw[← hkn] at hf2
   have hsz:=HN.out.2.2.2.2.1 j
   have htl:(sts.take j).length≤64:=by rw[List.length_take];omega
   have hsz2:(U++stB n (sts.take j)).length≤65000:=by have:=HU.out.2;rw[List.length_append];omega
   have hp2:=Qh hp hwr.bl (Qo hp (by simp))
   have hoc:∀ v∈[Value.int .u16 bm,.slice A' kn c'],v.oneCell'=true:=fun v hv=>by
    simp only[List.mem_cons,List.not_mem_nil,or_false] at hv
    rcases hv with rfl|rfl<;>rfl
   have hwe:Blk (wr.alloc (.cells [Value.int .u16 bm,.slice A' kn c'].toArray 151)) wr.heap.size 151 [Value.int .u16 bm,.slice A' kn c']:=Blk.new wr _ _
   have k0:(wr.alloc (.cells [Value.int .u16 bm,.slice A' kn c'].toArray 151)).cell? ⟨wr.heap.size,0,none⟩=some (.int .u16 bm):=by rw[hwe.cell];rfl
   have hbx:=Qb wr (.cells [Value.int .u16 bm,.slice A' kn c'].toArray 151)
   have hlay:=fun (l:List UInt8) (w':World) (hw:Wr w2.heap.size w2.heap.size w2 w' l) (hl:l.length<1099511627776)=>Qe0 w2.heap.size w2 l n h1 h2 s.2 A' kn c' w' hw hkn.symm (by omega) hd hf3 hl
   have HX:=hid (Qa (hwr.grown hbx) (Qa hwe (Qa hsn (Qa hwl (Qa hsz2 hlay)))))
   clear hbx hwe hd hkn hbm hs hse hf3 hf2 hwr hsn hwl hsz2 hsz htl hlay hp
   go_wp2_with (first
    |((with_reducible refine Qf 151 (.tmp 64) g (o+j*2) [.int .u16 bm,.slice A' kn c'] 2 _ rfl hp2 Tryz.underlying151 rfl (by kernel_rfl) ?_ ?_ ?_ ?_);rfl;rfl;rfl)
    |((with_reducible refine Qw 151 (.tmp 11) (.tmp 65) _ _ [.int .u16 bm,.slice A' kn c'] 2 rfl ?_ (by kernel_rfl) hoc ?_ ?_ ?_ ?_ ?_);rfl;rfl;rfl;rfl;rfl)
    |(go_at_call 136
      refine (Qal w2.heap.size _ bm _ hf1 HX.out.1.wr (by have:=HX.out.2.2.2.2.1;omega)).mono ?_
      rintro e w5 ⟨rfl,hwb,hwk⟩
      have h5:=HX.out.1.step hwb hwk
      have k1:w5.cell? ⟨wr.heap.size,1,none⟩=some (.slice A' kn c'):=by rw[(Wg HX.out.1.wr hwk _ _ _ HX.out.2.1 (by decide) (by decide)).cell];rfl
      have H5:=hid h5
      clear hwb hwk h5 k0)
    |(go_at_call 135
      refine (HX.out.2.2.2.2.2 _ _ H5.out (by have:=HX.out.2.2.2.2.1;have:=HX.out.2.2.2.1;rw[List.length_append];omega)).mono ?_
      rintro e w6 ⟨rfl,h⟩
      have H6:=hid h
      clear h))
   go_roundg (t-(j+1))
   case measure=>omega
   case rel=>exact⟨j+1,by omega,by go_num,by rw[HX.out.2.2.1];have:=H6.out;simp only[List.append_assoc] at this ⊢;exact this⟩
  ·obtain rfl:j=t:=by omega
   rw[List.take_of_length_le (by rw[HP.out.1];exact Nat.le_refl _)] at hwr
   have hsz:=HN.out.2.2.2.2.1 j
   rw[List.take_of_length_le (by rw[HP.out.1];exact Nat.le_refl _),HP.out.1] at hsz
   have hsz2:(U++stB n sts).length≤65000:=by have:=HU.out.2;rw[List.length_append];omega
   have hsz3:=HN.out.2.2.2.1
   have k2:=Qgs (HR.out.1.grown hwr.bl) HRL.out HA.out.2.2.2.2.2.1
   have HV:=hid (Qa hwr (Qa hsz2 hsz3))
   clear hwr hsz hsz2 hsz3
   go_upto_region 24 with (
    (go_at_call 110
     refine (Ki kp HV.out.1 (by omega) (by have:=HV.out.2.1;omega)).mono ?_
     rintro e w8 ⟨rfl,h⟩
     have k8:=Qgs (HR.out.1.grown h.bl) HRL.out HA.out.2.2.2.2.2.1
     have H8:=hid h
     clear h k2))
   clear k8
   obtain⟨Y,hY⟩:∃ Y,Y=U++stB n sts++Wi.uvar kp:=⟨_,rfl⟩
   have hYl:Y.length≤66000:=by have:=HV.out.2.1;have:=HV.out.2.2;rw[hY,List.length_append];omega
   have h8:=H8.out
   rw[← hY] at h8
   have HY:=hid (Qa hY (Qa hYl h8))
   clear h8 H8 hY hYl HV H8'
   go_loopg [84] kp (fun g' i wr=>∃ (q:Nat),q+g'=kp∧i= .int .i64 q∧Wr w2.heap.size w2.heap.size w2 wr (Y++prB (ps.take q)))
   case atStart=>exact⟨0,by omega,rfl,by simpa [prB] using HY.out.2.2⟩
   case round=>
    obtain⟨q,hq,rfl,hwr⟩:=hrel
    by_cases hlt:q<kp
    ·have hjp:q<ps.length:=by rw[HP.out.2.1];exact hlt
     obtain⟨g,o,A1,c1,A2,c2,rfl,hp,hr1,hr2,-,-,-,-⟩:=J2 (HP.out.2.2.1.grown HR.out.2) (HP.out.2.2.2.grown HR.out.2) q hjp
     have hsz:=KM ps q hjp
     have hbz:=HN.out.2.2.2.2.2.1
     have hqq:prB (ps.take (q+1))=prB (ps.take q)++(Wi.blob ps[q].key++Wi.blob ps[q].val):=by
      unfold prB
      rw[List.take_succ_eq_append_getElem hjp,List.flatMap_append,List.flatMap_cons,List.flatMap_nil,List.append_nil]
     have hsz:((prB (ps.take q))++(Wi.blob ps[q].key++Wi.blob ps[q].val)).length≤QS ps:=hsz
     obtain⟨⟨K,V⟩,hKV⟩:∃ p,p=ps[q]:=⟨_,rfl⟩
     rw[← hKV] at hp hr1 hr2 hqq hsz
     simp only[] at hp hr1 hr2 hqq hsz
     have hp2:=Qh hp hwr.bl (Qo hp (by simp))
     have hs1:K≠[]→∀ ad,A1=some ad→ad.block<w2.heap.size:=fun hn ad e=>Rd.lt hr1 (by simpa using hn) ad e
     have hs2:V≠[]→∀ ad,A2=some ad→ad.block<w2.heap.size:=fun hn ad e=>Rd.lt hr2 (by simpa using hn) ad e
     have hb1:(Wi.blob K).length=(Wi.uvar K.length).length+K.length:=by simp[Wi.blob]
     have hb2:(Wi.blob V).length=(Wi.uvar V.length).length+V.length:=by simp[Wi.blob]
     have hl1:(Y++prB (ps.take q)).length+K.length<4398046511104:=by
      have:=HY.out.2.1
      simp only[List.length_append] at hsz ⊢;omega
     have hl2:(Y++prB (ps.take q)++Wi.blob K).length+V.length<4398046511104:=by
      have:=HY.out.2.1
      simp only[List.length_append] at hsz ⊢;omega
     have hoc:∀ v∈[Value.slice A1 K.length c1,.slice A2 V.length c2],v.oneCell'=true:=fun v hv=>by
      simp only[List.mem_cons,List.not_mem_nil,or_false] at hv
      rcases hv with rfl|rfl<;>rfl
     have hwe:Blk (wr.alloc (.cells [Value.slice A1 K.length c1,.slice A2 V.length c2].toArray 166)) wr.heap.size 166 [Value.slice A1 K.length c1,.slice A2 V.length c2]:=Blk.new wr _ _
     have k0:(wr.alloc (.cells [Value.slice A1 K.length c1,.slice A2 V.length c2].toArray 166)).cell? ⟨wr.heap.size,0,none⟩=some (.slice A1 K.length c1):=by rw[hwe.cell];rfl
     have hbx:=Qb wr (.cells [Value.slice A1 K.length c1,.slice A2 V.length c2].toArray 166)
     have HX:=hid (Qa (hwr.grown hbx) (Qa hwe (Qa hqq (Qa hr1 (Qa hr2 (Qa hs1 (Qa hs2 (Qa hl1 hl2))))))))
     clear hwr hbx hwe hqq hr1 hr2 hs1 hs2 hl1 hl2 hsz hbz hb1 hb2 hKV hp
     go_wp2_with (first
      |((with_reducible refine Qf 166 (.tmp 86) g (o+q*2) [.slice A1 K.length c1,.slice A2 V.length c2] 2 _ rfl hp2 Tryz.underlying166 rfl (by kernel_rfl) ?_ ?_ ?_ ?_);rfl;rfl;rfl)
      |((with_reducible refine Qw 166 (.tmp 13) (.tmp 87) _ _ [.slice A1 K.length c1,.slice A2 V.length c2] 2 rfl ?_ (by kernel_rfl) hoc ?_ ?_ ?_ ?_ ?_);rfl;rfl;rfl;rfl;rfl)
      |(go_at_call 134
        refine (Qdc V _ A2 c2 H5.out rfl (HX.out.2.2.2.2.1.grown H5.out.bl) HX.out.2.2.2.2.2.2.1 H5.out.bl.size HX.out.2.2.2.2.2.2.2.2).mono ?_
        rintro e w6 ⟨rfl,h⟩
        have H6:=hid h
        clear h)
      |(go_at_call 134
        refine (Kj K _ A1 c1 HX.out.1 rfl (HX.out.2.2.2.1.grown HX.out.1.bl) HX.out.2.2.2.2.2.1 HX.out.1.bl.size HX.out.2.2.2.2.2.2.2.1).mono ?_
        rintro e w5 ⟨rfl,h,ho⟩
        have k1:w5.cell? ⟨wr.heap.size,1,none⟩=some (.slice A2 V.length c2):=by rw[(ho _ _ _ HX.out.2.1 (by decide) (by decide)).cell];rfl
        have H5:=hid h
        clear h ho k0))
     go_roundg (kp-(q+1))
     case measure=>omega
     case rel=>exact⟨q+1,by omega,by go_num,by rw[HX.out.2.2.1];have:=H6.out;simp only[List.append_assoc] at this ⊢;exact this⟩
    ·obtain rfl:q=kp:=by omega
     rw[List.take_of_length_le (by rw[HP.out.2.1];exact Nat.le_refl _),HY.out.1,HU.out.1,←HA.out.2.2.2.2.2.2.2.1] at hwr
     have HV:=hid hwr
     clear hwr
     go_wp2_with (
      (go_at_call 112
       refine (Zm HV.out HA.out.2.2.2.2.2.2.2.2.1).mono ?_
       rintro e w11 ⟨A',c',rfl,h1,h2,h3,h4⟩
       have HZ:=hid (Qa h1 h3)
       clear h1 h2 h3 h4))
     go_ret2
     exact⟨A',c',rfl,gro HR.out.2 HZ.out.1,HZ.out.2⟩
end Go.Proofs.YtpnakfeafekneaaGreatDoor
