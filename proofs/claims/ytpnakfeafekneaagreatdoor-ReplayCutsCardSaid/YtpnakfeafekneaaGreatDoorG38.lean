/- Part 38 of this proof. -/
import Derived.Lay
import Derived.Test.YtpnakfeafekneaaGreatDoorG36
import Derived.Test.YtpnakfeafekneaaGreatDoorG37
set_option linter.unusedSimpArgs false
set_option linter.unusedVariables false
set_option maxHeartbeats 8000000
set_option maxRecDepth 100000
namespace Go.Proofs.YtpnakfeafekneaaGreatDoor
open Go.ChangeShapes Go.WideShapes Go.ChangeAt Go.Deep Go.RowKit
section
variable {H:Type} {enc:TypeId×Value→H} {W:World}
theorem Vj {fuel:Nat}{v:Value}{x:DataW H×List MemPlace}(h:DataW.trod enc Tryz.prog W 0 (fun _=>true) true fuel 57 [v]=some x):
 ∃ A c,∃ zs:List Int,v= .slice A zs.length c∧Rd W A (zs.map fun z=> .int .i64 z)∧zs.length<9223372036854775808:=by
 rcases open_ints Tryz.underlying57 Tryz.underlying3 (by kernel_rfl) h with ⟨hcs,-⟩|⟨a,len,cap,zi,hcs,-,hl,hm,hz,hx,hcell,hwf⟩
 ·exact⟨none,0,[],by simpa using hcs,Rd.nil _ _,by simp⟩
 ·simp only[if_true] at hz
  have hzl:(zi.take len).length=len:=by rw[List.length_take];omega
  refine⟨some a,cap,zi.take len,by rw[hzl];simpa using hcs,Jg _ (fun i v hv=>?_),by rw[hzl];simp only[maxLen] at hm;omega⟩
  rw[List.getElem?_map,Option.map_eq_some_iff] at hv
  obtain⟨z,hz1,rfl⟩:=hv
  rw[List.getElem?_take] at hz1
  split at hz1
  ·have hil:=(List.getElem?_eq_some_iff.1 hz1).1
   have hc:=hcell i hil
   rw[List.getD_eq_getElem?_getD,hz1] at hc
   exact hc
  ·cases hz1
end
structure Zy (n:Nat) (r:Rt):Prop where
 log:r.log.length=32∧Dg.form n r.log=true
 map:r.map.length=32∧Dg.form n r.map=true
theorem Zy.fits {n:Nat}{r:Rt}(h:Zy n r):XZ n [r.log,r.map]:=by
 intro d hd
 simp only[List.mem_cons,List.not_mem_nil,or_false] at hd
 rcases hd with rfl|rfl
 ·exact h.log
 ·exact h.map
theorem Qcr (n:Nat)(h1:1≤n)(h2:n≤32)(r:Rt)(w:World)(hf:Zy n r):
 Calls Tryz.prog 79 #[.int .i64 n,.agg (Qd r).toArray] w fun e w'=>∃ A c,e= .returned (.tuple #[.slice A (Dg.rootIn n r).length c,.int .i64 0])∧Below w.heap.size w w'∧Rd w' A ((Dg.rootIn n r).map b8)∧(Dg.rootIn n r).length≤c:=by
 have hl:(r.log.map b8).length=32:=by simp[hf.log.1]
 have hr:(r.map.map b8).length=32:=by simp[hf.map.1]
 have HF:=hid hf.fits
 have HLl:=hid hl
 have HLr:=hid hr
 have hbk:Blk (w.alloc (.cells (Qd r).toArray 42)) w.heap.size 42 (Qd r):=Blk.new w _ _
 have hbl0:=Qb w (.cells (Qd r).toArray 42)
 obtain⟨z,lg,mp⟩:=r
 simp only[] at hl hr HLl HLr HF
 clear hf hl hr
 go_enter Tryz.func79,Tryz.ntmps79
 go_upto_region 1 with fail
 refine Qe (fun w'=>Blk w' w.heap.size 42 (Qd ⟨z,lg,mp⟩)∧Below w.heap.size w w') ⟨hbk,hbl0⟩ ?_
 clear hbk hbl0
 rintro w1 ⟨hb1,hbl1⟩
 have k0:w1.cell? ⟨w.heap.size,0,none⟩=some (.int .u64 z):=by rw[hb1.cell];rfl
 have p1:w1.rangeAt w.heap.size 1 (lg.map b8):=hb1.range [.int .u64 z] (lg.map b8) (mp.map b8) rfl
 have p2:w1.rangeAt w.heap.size 33 (mp.map b8):=by
  have:=hb1.range (.int .u64 z :: lg.map b8) (mp.map b8) [] (by simp[Qd])
  rwa [show (Value.int .u64 (z:Nat) :: lg.map b8).length=33 by simp[HLl.out]] at this
 have HR:=hid (Qa hb1 (Qa hbl1 (Qa p1 p2)))
 have hs1:=QH (P:=Tryz.prog) Tryz.underlying40 (by kernel_rfl) w.heap.size 1 n h2
 have hs2:=QH (P:=Tryz.prog) Tryz.underlying40 (by kernel_rfl) w.heap.size 33 n h2
 have hlen2:(dgs [lg,mp]).length=2:=rfl
 have hdl:=Q3 fun d hd=>(HF.out d hd).1
 clear hb1 hbl1
 go_upto_region 5 with (first
  |((with_reducible refine Qf 40 (.tmp 9) w.heap.size 1 _ 32 _ HLl.out HR.out.2.2.1 Tryz.underlying40 rfl (by kernel_rfl) ?_ ?_ ?_ ?_);rfl;rfl;rfl)
  |((with_reducible refine Qf 40 (.tmp 11) w.heap.size 33 _ 32 _ HLr.out HR.out.2.2.2 Tryz.underlying40 rfl (by kernel_rfl) ?_ ?_ ?_ ?_);rfl;rfl;rfl)
  |((with_reducible refine QY 105 40 2 #[(0,.tmp 10),(1,.tmp 12)] (dgs [lg,mp]) 32 (by decide) hdl hlen2 (by decide) (by decide) Tryz.underlying105 (by kernel_rfl) ?_ ?_ ?_ ?_);rfl;rfl;rfl)
  |(go_at_call 125
    refine (K8 n h1 h2 _ 2 [lg,mp] _ HF.out (Rd.of _ (Blk.new w1 _ (dgs [lg,mp]).flatten).whole) (by simp)).mono ?_
    rintro e w2 ⟨rfl,hb⟩
    have hbl:=(Qb w1 (.cells (dgs [lg,mp]).flatten.toArray 40)).trans (hb.mono (by simp))
    have HB:=hid hbl;clear hb hbl))
 have hwr:=Wr.new w2
 refine Qe (fun w'=>Wr w2.heap.size w2.heap.size w2 w' []) hwr ?_
 rintro w3 hr
 have HW:=hid hr
 have HQ:=hid (HR.out.1.grown HB.out)
 clear hr hwr k0 p1 p2
 have htl:(lg.take n).length=n:=by have:=HLl.out;simp at this ⊢;omega
 have htr:(mp.take n).length=n:=by have:=HLr.out;simp at this ⊢;omega
 have hwl:=Wi.wide_length z 8
 have hfl:(Dg.rootIn n ⟨z,lg,mp⟩).length<17592186044416:=by simp[Dg.rootIn,Wi.wide_length];omega
 have HNL:=hid hfl
 clear hfl
 have HT:=hid (Qa htl (Qa htr hwl))
 clear htl htr hwl
 go_wp2_with (first
  |(go_at_call 126
    refine (Qbi 6 HW.out (by simp)).mono ?_
    rintro e w4 ⟨rfl,h⟩
    have k4:w4.cell? ⟨w.heap.size,0,none⟩=some (.int .u64 z):=(by rw[(HQ.out.grown h.bl).cell];rfl)
    have HS:=hid h
    clear h)
  |(go_at_call 127
    refine (Qgn z HS.out (by simp)).mono ?_
    rintro e w5 ⟨rfl,h⟩
    have HV:=hid h
    clear h k4)
  |(go_at_call 128
    refine (JB (mp.take n) n (some ⟨w.heap.size,33,none⟩) 32 HX.out HT.out.2.1 ?_ (by have:=HT.out.1;have:=HT.out.2.1;have:=HT.out.2.2;simp at *;omega)).mono ?_
    ·rw[List.map_take]
     refine Rd.take (Rd.of _ ?_) n
     have:=(HQ.out.grown HX.out.bl).range (.int .u64 z :: lg.map b8) (mp.map b8) [] (by simp[Qd])
     rwa [show (Value.int .u64 (z:Nat) :: lg.map b8).length=33 by simp[HLl.out]] at this
    rintro e w7 ⟨rfl,h⟩
    have HY:=hid h
    clear h)
  |(go_at_call 128
    refine (JB (lg.take n) n (some ⟨w.heap.size,1,none⟩) 32 HV.out HT.out.1 ?_ (by have:=HT.out.1;have:=HT.out.2.2;simp at *;omega)).mono ?_
    ·rw[List.map_take];exact Rd.take (Rd.of _ ((HQ.out.grown HV.out.bl).range [.int .u64 z] (lg.map b8) (mp.map b8) rfl)) n
    rintro e w6 ⟨rfl,h⟩
    have HX:=hid h
    clear h)
  |(go_at_call 112
    have el:[]++[(6:UInt8)]++Wi.wide z 8++lg.take n++mp.take n=Dg.rootIn n ⟨z,lg,mp⟩:=by simp[Dg.rootIn]
    have hY:=HY.out
    rw[el] at hY
    refine (Zm hY HNL.out).mono ?_
    rintro e w8 ⟨A,c,rfl,h1,h2,h3,h4⟩
    have HZ:=hid (Qa h1 (Qa h3 h4))
    clear h1 h2 h3 h4 hY el))
 go_ret2
 exact⟨A,c,rfl,gro HR.out.2.1 (gro HB.out HZ.out.1),HZ.out.2.1,HZ.out.2.2⟩
theorem W2 (n:Nat)(r:Rt)(h2:n≤32):(Dg.rootIn n r).length<576460752303423488:=by simp[Dg.rootIn,Wi.wide_length];omega
theorem Qep (n:Nat)(h1:1≤n)(h2:n≤32)(r:Rt)(w:World)(hf:Zy n r)(hw:Qs w):
 Calls Tryz.prog 54 #[.int .i64 n,.agg (Qd r).toArray] w fun e w'=>e= .returned (.tuple #[dg (Dg.root n r),.int .i64 0])∧Below w.heap.size w w':=by
 have hrl:(Qd r).length=65:=by simp[Qd,hf.log.1,hf.map.1]
 have hcl:=Dg.sum_length n (Dg.rootIn n r) h2
 have HC:=hid (show ((Dg.root n r).map b8).length=32 by unfold Dg.root;simp[hcl])
 have hin:=fun (w':World)=>Qcr n h1 h2 r w' hf
 have hil:=W2 n r h2
 obtain⟨R,hR⟩:∃ R,R=Qd r:=⟨_,rfl⟩
 obtain⟨P,hP⟩:∃ P,P=Dg.rootIn n r:=⟨_,rfl⟩
 have hd:Dg.root n r=Dg.sum n P:=by rw[hP];rfl
 rw[hd] at HC ⊢
 simp only[← hR] at hrl hin
 simp only[← hP] at hin hil
 rw[← hR]
 have HI:=hid (Qa hin (Qa hil hw))
 clear hcl hf hR hP hd hin hil hw
 have hbk:Blk ((w.alloc (.cells R.toArray 42)).alloc (.cells (List.replicate 32 (b8 0)).toArray 40)) w.heap.size 42 R:=(Blk.new w _ _).alloc _
 have hbd:Blk ((w.alloc (.cells R.toArray 42)).alloc (.cells (List.replicate 32 (b8 0)).toArray 40)) (w.heap.size+1) 40 (List.replicate 32 (b8 0)):=by
  have:=Blk.new (w.alloc (.cells R.toArray 42)) 40 (List.replicate 32 (b8 0))
  rwa [show (w.alloc (.cells R.toArray 42)).heap.size=w.heap.size+1 by simp] at this
 have HB0:=hid (Qa hbk (Qa hbd (gro (Qb w (.cells R.toArray 42)) (Qb _ (.cells (List.replicate 32 (b8 0)).toArray 40)))))
 clear hbk hbd
 go_enter Tryz.func54,Tryz.ntmps54
 go_upto_region 1 with fail
 refine Qe (fun w'=>Blk w' w.heap.size 42 R∧Blk w' (w.heap.size+1) 40 (List.replicate 32 (b8 0))∧Below w.heap.size w w') HB0.out ?_
 rintro w1 hh
 have HR:=hid hh
 clear hh HB0
 go_wp2_with (first
  |((with_reducible refine Qf 42 (.tmp 3) w.heap.size 0 R 65 _ hrl HR.out.1.whole Tryz.underlying42 rfl (by kernel_rfl) ?_ ?_ ?_ ?_);rfl;rfl;rfl)
  |(go_at_call 79
    refine (HI.out.1 w1).mono ?_
    rintro e w2 ⟨A,c,rfl,hb,hr,hc⟩
    have HV:=hid (Qa hb (Qa hr hc));clear hb hr hc)
  |(go_at_call 80
    refine (Qda n h1 h2 _ P w2 ⟨A,c,rfl,HV.out.2.1,HV.out.2.2⟩ (HI.out.2.2.below (gro HR.out.2.2 HV.out.1)) HI.out.2.1).mono ?_
    rintro e w3 ⟨rfl,hb⟩
    have hb2:Below w1.heap.size w1 w3:=gro HV.out.1 hb
    have ht:w3.there (w.heap.size+1) 0 32:=(HR.out.2.1.grown hb2).there 0 32 (by simp)
    have HB:=hid hb2;clear hb hb2)
  |((with_reducible refine Qv 40 (.tmp 4) (.tmp 18) (w.heap.size+1) 0 ((Dg.sum n P).map b8) 32 HC.out ht (by kernel_rfl) (Qi _) ?_ ?_ ?_ ?_ ?_);rfl;rfl;rfl;rfl))
 exact Q9 (w.heap.size+1) 0 _ 32 _ HC.out (World.rangeAt_setCells_same _ _ _ _ (by rw[HC.out];exact ht)) Tryz.underlying40 rfl (by kernel_rfl) rfl rfl rfl ⟨rfl,Qc _ (by omega) _ _ _ (gro HR.out.2.2 HB.out)⟩
theorem Sn.root_form (n:Nat)(h1:1≤n)(h2:n≤32)(es:List Ent):Zy n (Sn.root n es):=by
 have hl:=Mt.log_fit n h2 _ (Sn.leaves n es) (Nat.le_refl _) fun d hd=>by
  obtain⟨e,-,rfl⟩:=List.mem_map.1 hd
  exact⟨Dg.sum_length _ _ h2,Dg.form_sum _ _ h2⟩
 refine⟨hl,?_⟩
 show (Hm.root n _).length=32∧Dg.form n (Hm.root n _)=true
 unfold Hm.root
 split
 ·exact⟨Dg.sum_length _ _ h2,Dg.form_sum _ _ h2⟩
 ·exact⟨node_len n h2 _ _ _,Ks n h2 _ _ _⟩
namespace Ln
def bits (b:Nat):Nat:=if b=0 then 0 else b.log2+1
def tab:ByteArray:=⟨((List.range 256).map fun b=>UInt8.ofNat (bits b)).toArray⟩
theorem tab_get (b:Nat)(hb:b<256):tab[b]?=some (UInt8.ofNat (bits b)):=by
 have h:tab.data[b]?=some (UInt8.ofNat (bits b)):=by
  show (((List.range 256).map fun b=>UInt8.ofNat (bits b)).toArray)[b]?=_
  simp[hb]
 obtain⟨h1,h2⟩:=Array.getElem?_eq_some_iff.1 h
 rw[getElem?_pos tab b h1]
 exact congrArg some h2
theorem bits_le (b:Nat)(hb:b<256):bits b≤8:=by
 have h:∀ b:Fin 256,bits b.1≤8:=by decide +kernel
 exact h ⟨b,hb⟩
end Ln
theorem VQ {P:Program}{ops:Array Oper}{rest:List Oper}{o:Oper}{a:Act}{w:World}{Q:Exit→Act→World→Prop}(t:TypeId)(i:Operand)(s:ByteArray)(k:IntKind)(n:Nat)(b:UInt8)(ht:P.underlying t=some .string)(hb:s[n]?=some b)
 (hg:o.guard=none) (hx:∃ x,o.op= .index t x i∧a.eval x= .string s) (hi:a.eval i= .int k n) (h:wpList P ops Q rest (a.put o.dst (b8 b)) w):wpList P ops Q (o :: rest) a w:=by
 refine wpList_plain hg fun K hK=>?_
 obtain⟨x,ho,hx⟩:=hx
 unfold Oper.wp execOp
 simp only[ho,hx,hi,Instr.index,asIntOf,Sem.run_bind,Sem.run_pure,Result.andThen_ok,run_underlying ht,Int.natCast_nonneg,if_true,Int.toNat_natCast,hb]
 exact hK _ _ h
theorem Qgf (m:Nat)(hm:m<256)(w:World):
 Calls Tryz.prog 130 #[.int .u64 m] w fun e w'=>e= .returned (.int .i64 (Ln.bits m:Nat))∧w=w':=by
 have h0:(0:Int)≤(m:Int)∧(m:Int)<256:=by omega
 have i1:¬(4294967296:Int)≤(m:Int):=by omega
 have i2:¬(65536:Int)≤(m:Int):=by omega
 have i3:¬(256:Int)≤(m:Int):=by omega
 have i4:(m:Int) % 256=m:=by omega
 go_enter Tryz.func130,Tryz.ntmps130
 have ht:=Ln.tab_get m hm
 go_wp2_with
  ((with_reducible refine VQ 9 (.tmp 21) Ln.tab .u8 m _ Tryz.underlying9 ht ?_ ?_ ?_ ?_);rfl;exact⟨_,rfl,by kernel_rfl⟩;rfl)
 go_ret
 have hb:=Ln.bits_le m hm
 have hn:n8 (UInt8.ofNat (Ln.bits m))=(Ln.bits m:Nat):=by unfold n8;rw[UInt8.toNat_ofNat'];omega
 refine⟨?_,rfl⟩
 show Ending.returned (.int .i64 (wrap64 (wrap64 (n8 (UInt8.ofNat (Ln.bits m))))))=_
 rw[hn,X1 ((Ln.bits m:Nat):Int) (by omega) (by omega),X1 ((Ln.bits m:Nat):Int) (by omega) (by omega)]
theorem W3 (k:Nat)(hk:2≤k)(hk2:k≤256)(w:World):
 Calls Tryz.prog 83 #[.int .u64 k] w fun e w'=>e= .returned (.int .u64 (Mt.below k))∧w=w':=by
 have hs:IntKind.u64.wrap ((k:Int)-1)=((k-1:Nat):Int):=by rw[IntKind.wrap_u64];omega
 have hb:Ln.bits (k-1)=(k-1).log2+1:=by unfold Ln.bits;rw[if_neg (by omega)]
 have hl:=Qgf (k-1) (by omega) w
 rw[hb] at hl
 have hlt:(k-1).log2<8:=(Nat.log2_lt (by omega)).2 (by omega)
 obtain⟨q,hq⟩:∃ q,q=(k-1).log2:=⟨_,rfl⟩
 have hB:Mt.below k=2^q:=by rw[hq];rfl
 rw[← hq] at hl hlt
 have HL:=hid (Qa hl hB)
 clear hl hb hq hB
 go_enter Tryz.func83,Tryz.ntmps83
 go_wp2_with
  (go_at_call 130
   refine HL.out.1.mono ?_
   rintro e w1 ⟨rfl,rfl⟩)
 go_ret
 refine⟨?_,rfl⟩
 have h2:2^q≤2^8:=Nat.pow_le_pow_right (by decide) (by omega)
 have h3:((2:Int)^q)=((2^q:Nat):Int):=by simp
 show Ending.returned (.int .u64 (IntKind.u64.wrap ((2:Int)^q)))=_
 rw[h3,HL.out.2,IntKind.wrap_u64]
 obtain⟨Z,hZ⟩:∃ Z,Z=2^q:=⟨_,rfl⟩
 rw[← hZ] at h2 ⊢
 congr 2
 omega
theorem Yz (b n lo hi:Nat)(ds:List (List UInt8))(w:World)(h:QT w b n ds)(hn1:1≤n)(hn2:n≤32)(hl:lo<hi)(hh:hi≤ds.length)(hds:ds.length<1099511627776)(hw:Qs w):
 Calls Tryz.prog 84 #[ptr b,.int .u64 lo,.int .u64 hi] w fun e w'=>e= .returned (dg (Mt.log n ((ds.drop lo).take (hi-lo))))∧Below w.heap.size w w':=by
 obtain⟨A0,c0,bs0,ts0,hTi⟩:=h.is
 have hfit:(Mt.log n ((ds.drop lo).take (hi-lo))).length=32:=(Mt.log_fit n hn2 _ _ (Nat.le_refl _) (fun d hd=>hTi.fits d (List.mem_of_mem_drop (List.mem_of_mem_take hd)))).1
 have hr:=fun (w':World) (hb:Below w.heap.size w w')=>YW b n lo hi ds w' (h.grown hb) hn1 hn2 hl hh hds (hw.below hb)
 obtain⟨D,hD⟩:∃ D,D=Mt.log n ((ds.drop lo).take (hi-lo)):=⟨_,rfl⟩
 rw[← hD] at hfit hr ⊢
 have HL:=hid (show (D.map b8).length=32 by simp[hfit])
 have HR:=hid hr
 clear hr hfit hD hTi h hw
 go_enter Tryz.func84,Tryz.ntmps84
 go_upto_region 1 with fail
 refine Qe (Res w) (Res.new w) ?_
 rintro w1 hr
 have HR1:=hid hr
 clear hr
 go_upto_region 2 with (first
  |(go_at_call 131
    refine (HR.out w1 HR1.out.bl).mono ?_
    rintro e w2 ⟨rfl,hb⟩
    have H2:=hid (Qa hb (Qb w2 (.cells (D.map b8).toArray 40)))
    clear hb)
  |((with_reducible refine Qw 40 (.tmp 7) (.tmp 14) _ _ (D.map b8) 32 HL.out ?_ (by kernel_rfl) (Qi _) ?_ ?_ ?_ ?_ ?_);rfl;rfl;rfl;rfl;rfl))
 refine Qe (fun w'=>Below w1.heap.size w1 w'∧w'.rangeAt w2.heap.size 0 (D.map b8)) ⟨gro H2.out.1 H2.out.2,(Blk.new w2 _ _).whole⟩ ?_
 rintro w3 ⟨hb3,hr3⟩
 have ht:=HR1.out.there hb3
 have H3:=hid (Qa hb3 hr3)
 clear hb3 hr3
 go_wp2_with (first
  |((with_reducible refine Qf 40 (.tmp 7) w2.heap.size 0 _ 32 _ HL.out H3.out.2 Tryz.underlying40 rfl (by kernel_rfl) ?_ ?_ ?_ ?_);rfl;rfl;rfl)
  |((with_reducible refine Qv 40 (.tmp 6) (.tmp 16) w.heap.size 0 (D.map b8) 32 HL.out ht (by kernel_rfl) (Qi _) ?_ ?_ ?_ ?_ ?_);rfl;rfl;rfl;rfl))
 exact QD w.heap.size 0 _ 32 _ HL.out (World.rangeAt_setCells_same _ _ _ _ (by rw[HL.out];exact ht)) Tryz.underlying40 rfl (by kernel_rfl) rfl rfl rfl ⟨rfl,Qc _ (Nat.le_refl _) _ _ _ (HR1.out.below H3.out.1)⟩
theorem KU [Inhabited LoT](S n b:Nat)(h1:1≤n)(h2:n≤32)(es:List Ent)(rs:List Rt)(w:World)(h:QJ S w n b es rs)(hn:rs.length<1048576)(hw:Qs w):
 Calls Tryz.prog 30 #[ptr b] w fun e w'=>e= .returned (dg (Dg.root n (Sn.root n es)))∧Below w.heap.size w w':=by
 have hrt:=fun (w':World) (hb:Below w.heap.size w w')=>XH w' (h.grown hb) hn
 have hdr:=fun (w':World) (hb:Below w.heap.size w w')=>Qep n h1 h2 (Sn.root n es) w' (Sn.root_form n h1 h2 es) (hw.below hb)
 have hwd:∀ w',Below w.heap.size w w'→Calls Tryz.prog 46 #[ptr b] w' fun e w''=>e= .returned (.int .i64 n)∧w'=w'':=fun w' hb=>by
  obtain⟨tb,mb,A,c,L,Ap,cp,k1,k2,-⟩:=h.grown hb
  exact JK b tb n _ w' (by rw[k1.cell];rfl) k2
 have hcl:=Dg.sum_length n (Dg.rootIn n (Sn.root n es)) h2
 obtain⟨R,hR⟩:∃ R,R=(Qd (Sn.root n es)).toArray:=⟨_,rfl⟩
 obtain⟨D,hD⟩:∃ D,D=Dg.root n (Sn.root n es):=⟨_,rfl⟩
 have hDl:D.length=32:=by rw[hD];exact hcl
 simp only[← hR] at hrt hdr
 simp only[← hD] at hdr
 rw[← hD]
 have HL:=hid (show (D.map b8).length=32 by simp[hDl])
 have HA:=hid (Qa hrt (Qa hdr hwd))
 clear hrt hdr hwd hcl hR hD hDl h hw
 go_enter Tryz.func30,Tryz.ntmps30
 go_upto_region 1 with fail
 refine Qe (Res w) (Res.new w) ?_
 rintro w1 hr
 have HR1:=hid hr
 clear hr
 go_upto_region 4 with (first
  |(go_at_call 54
    refine (HA.out.2.1 w3 (gro HR1.out.bl H3.out)).mono ?_
    rintro e w4 ⟨rfl,hb⟩
    have H4:=hid (Qa (gro H3.out hb) (Qb w4 (.cells (D.map b8).toArray 40)))
    clear hb)
  |(go_at_call 29
    refine (HA.out.1 w1 HR1.out.bl).mono ?_
    rintro e w3 ⟨rfl,hb⟩
    have H3:=hid hb
    clear hb)
  |(go_at_call 46
    refine (HA.out.2.2 w1 HR1.out.bl).mono ?_
    rintro e w2 ⟨rfl,rfl⟩)
  |((with_reducible refine Qw 40 (.tmp 3) (.tmp 14) _ _ (D.map b8) 32 HL.out ?_ (by kernel_rfl) (Qi _) ?_ ?_ ?_ ?_ ?_);rfl;rfl;rfl;rfl;rfl))
 refine Qe (fun w'=>Below w1.heap.size w1 w'∧w'.rangeAt w4.heap.size 0 (D.map b8)) ⟨gro H4.out.1 H4.out.2,(Blk.new w4 _ _).whole⟩ ?_
 rintro w5 ⟨hb3,hr3⟩
 have ht:=HR1.out.there hb3
 have H5:=hid (Qa hb3 hr3)
 clear hb3 hr3
 go_wp2_with (first
  |((with_reducible refine Qf 40 (.tmp 3) w4.heap.size 0 _ 32 _ HL.out H5.out.2 Tryz.underlying40 rfl (by kernel_rfl) ?_ ?_ ?_ ?_);rfl;rfl;rfl)
  |((with_reducible refine Qv 40 (.tmp 2) (.tmp 16) w.heap.size 0 (D.map b8) 32 HL.out ht (by kernel_rfl) (Qi _) ?_ ?_ ?_ ?_ ?_);rfl;rfl;rfl;rfl))
 exact QD w.heap.size 0 _ 32 _ HL.out (World.rangeAt_setCells_same _ _ _ _ (by rw[HL.out];exact ht)) Tryz.underlying40 rfl (by kernel_rfl) rfl rfl rfl ⟨rfl,Qc _ (Nat.le_refl _) _ _ _ (HR1.out.below H5.out.1)⟩
namespace Rc
def seg (n:Nat)(ds:List (List UInt8))(lo hi:Nat):List UInt8:=Mt.log n ((ds.drop lo).take (hi-lo))
def path (n:Nat)(ds:List (List UInt8))(i:Nat):Nat→Nat→Nat→List (List UInt8)
 |0,_,_=>[]
 |m+1,lo,hi=>if hi-lo=1 then [] else if i<lo+Mt.below (hi-lo) then path n ds i m lo (lo+Mt.below (hi-lo))++[seg n ds (lo+Mt.below (hi-lo)) hi] else path n ds i m (lo+Mt.below (hi-lo)) hi++[seg n ds lo (lo+Mt.below (hi-lo))]
theorem path_len (n:Nat)(ds:List (List UInt8))(i:Nat):∀ m lo hi,lo<hi→(path n ds i m lo hi).length≤hi-lo
 |0,_,_,_=>Nat.zero_le _
 |m+1,lo,hi,h=>by
  unfold path
  split
  ·simp
  ·have h1:=Mt.below_pos (hi-lo)
   have h2:=Mt.below_lt (hi-lo) (by omega)
   split
   ·rw[List.length_append,List.length_singleton];have:=path_len n ds i m lo (lo+Mt.below (hi-lo)) (by omega);omega
   ·rw[List.length_append,List.length_singleton];have:=path_len n ds i m (lo+Mt.below (hi-lo)) hi (by omega);omega
theorem seg_fit (n:Nat)(h2:n≤32)(ds:List (List UInt8))(hf:XZ n ds)(lo hi:Nat):(seg n ds lo hi).length=32∧Dg.form n (seg n ds lo hi)=true:=
 Mt.log_fit n h2 _ _ (Nat.le_refl _) fun d hd=>hf d (List.mem_of_mem_drop (List.mem_of_mem_take hd))
theorem path_fit (n:Nat)(h2:n≤32)(ds:List (List UInt8))(hf:XZ n ds)(i:Nat):∀ m lo hi,XZ n (path n ds i m lo hi)
 |0,_,_=>fun d hd=>by cases hd
 |m+1,lo,hi=>by
  unfold path
  split
  ·intro d hd;cases hd
  ·split
   ·intro d hd
    rcases List.mem_append.1 hd with hd|hd
    ·exact path_fit n h2 ds hf i _ _ _ d hd
    ·rw[List.mem_singleton] at hd;subst hd;exact seg_fit n h2 ds hf _ _
   ·intro d hd
    rcases List.mem_append.1 hd with hd|hd
    ·exact path_fit n h2 ds hf i _ _ _ d hd
    ·rw[List.mem_singleton] at hd;subst hd;exact seg_fit n h2 ds hf _ _
end Rc
abbrev ZV (Bi Bp Bt:Nat):Value:= .func (Fn.func 82) #[] #[ptr Bi,ptr Bp,ptr Bt]
theorem UX (ds:List (List UInt8))(d:List UInt8):(dgs (ds++[d])).flatten=(dgs ds).flatten++d.map b8:=by simp[dgs]
attribute [-go_sem] Instr.buildSlice in
theorem Qcs (Bi Bp Bt b n i:Nat)(hn1:1≤n)(hn2:n≤32)(ds:List (List UInt8))(hds:ds.length≤256):∀ (m lo hi:Nat) (w:World),hi-lo≤m→lo<hi→hi≤ds.length→lo≤i→i<hi→QT w b n ds→Qs w→Blk w Bi 38 [.int .u64 i]→Blk w Bt 97 [ptr b]→Blk w Bp 139 [ZV Bi Bp Bt]→
 Calls Tryz.prog 82 #[.int .u64 lo,.int .u64 hi,ptr Bi,ptr Bp,ptr Bt] w fun e w'=>∃ A c,e= .returned (.slice A (Rc.path n ds i m lo hi).length c)∧Below w.heap.size w w'∧w'.ownsRow w.heap.size 40 32 (.slice A (Rc.path n ds i m lo hi).length c) (Rc.path n ds i m lo hi).length (dgs (Rc.path n ds i m lo hi)).flatten:=by
 intro m
 induction m with
 |zero=>intro lo hi w hm hl;omega
 |succ m ih=>
  intro lo hi w hm hl hh hli hi2 hT hw hbi hbt hbp
  obtain⟨N,hN⟩:∃ N,N=hi-lo:=⟨_,rfl⟩
  have hs1:IntKind.u64.wrap ((hi:Int)-(lo:Int))=(N:Int):=by rw[IntKind.wrap_u64];omega
  by_cases h1:N=1
  ·have hP:Rc.path n ds i (m+1) lo hi=[]:=by unfold Rc.path;rw[if_pos (by omega)]
   rw[hP]
   subst h1
   clear hN hT hw hbi hbt hbp ih hP
   go_enter Tryz.func82,Tryz.ntmps82
   go_wp2_with fail
   go_ret
   exact⟨_,_,rfl,Below.refl _ _,World.ownsRow_nil _ _ _ _⟩
  ·have hNi:¬(N:Int)=1:=by omega
   have hb1:=Mt.below_pos N
   have hb2:=Mt.below_lt N (by omega)
   obtain⟨K,hK⟩:∃ K,K=Mt.below N:=⟨_,rfl⟩
   have hbel:=W3 N (by omega) (by omega)
   rw[← hK] at hb1 hb2 hbel
   have hs2:IntKind.u64.wrap ((lo:Int)+(K:Int))=((lo+K:Nat):Int):=by rw[IntKind.wrap_u64];omega
   obtain⟨s,hs⟩:∃ s,s=lo+K:=⟨_,rfl⟩
   rw[← hs] at hs2
   have c2:w.cell? ⟨Bi,0,none⟩=some (.int .u64 i):=by rw[hbi.cell];rfl
   have HB:=hid hbel
   clear hbel
   obtain⟨A0,c0,bs0,ts0,hTi⟩:=hT.is
   have hfit:=hTi.fits
   by_cases hlt:i<s
   ·have hP:Rc.path n ds i (m+1) lo hi=Rc.path n ds i m lo s++[Rc.seg n ds s hi]:=by
     conv=>lhs;unfold Rc.path
     rw[if_neg (by omega),←hN,←hK,←hs,if_pos hlt]
    have hPl:=Rc.path_len n ds i m lo s (by omega)
    have hp256:s-lo≤256:=by omega
    have hpath:=fun (w':World) (hb:Below w.heap.size w w')=>ih lo s w' (by omega) (by omega) (by omega) hli hlt (hT.grown hb) (hw.below hb) (hbi.grown hb) (hbt.grown hb) (hbp.grown hb)
    have hwh:=fun (w':World) (hb:Below w.heap.size w w')=>Yz b n s hi ds w' (hT.grown hb) hn1 hn2 (by omega) hh (by omega) (hw.below hb)
    have hDl:=(Rc.seg_fit n hn2 ds hfit s hi).1
    rw[hP]
    obtain⟨D,hD⟩:∃ D,D=Rc.seg n ds s hi:=⟨_,rfl⟩
    have hD':Mt.log n ((ds.drop s).take (hi-s))=D:=hD.symm
    rw[← hD] at hDl ⊢
    simp only[hD'] at hwh
    obtain⟨P,hPe⟩:∃ P,P=Rc.path n ds i m lo s:=⟨_,rfl⟩
    simp only[← hPe] at hpath hPl ⊢
    obtain⟨p,hp⟩:∃ p,p=P.length:=⟨_,rfl⟩
    simp only[← hp] at hpath hPl
    have HL:=hid (show (D.map b8).length=32 by simp[hDl])
    have HS:∀ w',Below w.heap.size w w'→w'.cell? ⟨Bp,0,none⟩=some (ZV Bi Bp Bt)∧w'.cell? ⟨Bt,0,none⟩=some (ptr b):=fun w' hb=>⟨by rw[(hbp.grown hb).cell];rfl,by rw[(hbt.grown hb).cell];rfl⟩
    have HA:=hid (Qa hpath (Qa hwh (Qa HS hp)))
    have hlti:(i:Int)< (s:Int):=by omega
    clear hT hw hbi hbt hbp ih hP hK hD hD' hPe hTi hfit hpath hwh HS hp hs hN
    go_enter Tryz.func82,Tryz.ntmps82
    go_upto_region 5 with
     (go_at_call 83
      refine (HB.out w).mono ?_
      rintro e w1 ⟨rfl,rfl⟩)
    have hd:Below w.heap.size w w.drew:=(Below.refl _ _).drew
    have hbs:∀ w',(Instr.buildSlice 105 1 #[(0,dg D)]).run Tryz.prog w'= .ok (.slice (some ⟨w'.heap.size,0,none⟩) 1 1) (w'.alloc (.cells (D.map b8).toArray 40)):=fun w'=>Ky (P:=Tryz.prog) 105 40 (D.map b8) 32 (by decide) HL.out (by decide) Tryz.underlying105 (by kernel_rfl) w'
    have HD:=hid hd
    have h63:p+1≤maxLen:=by simp only[maxLen];omega
    have hby:(p+1)*32≤140737488355328:=by omega
    clear hd
    go_region_held3 (fun w'=>w'.cell? ⟨Bp,0,none⟩=some (ZV Bi Bp Bt)∧w'.cell? ⟨Bt,0,none⟩=some (ptr b))
     (first|exact HA.out.2.2.1 _ HD.out|exact HA.out.2.2.1 _ HN.out.2|exact HA.out.2.2.1 _ H6.out.1|exact HA.out.2.2.1 _ (gro H6.out.1 (Qb _ _))|exact HA.out.2.2.1 _ H5.out.1)
     (first
       |(refine XK (.tmp 25) (.tmp 30) 105 Tryz.underlying105 Jp rfl (by decide) (Qg H5.out.2 (gro H6.out.2 (Qb w6 (.cells (D.map b8).toArray 40)))) 1 1 (news:=D.map b8) (by rw[HL.out]) (Rd.of _ (Blk.new w6 _ _).whole) (Qi _) h63 hby (gro H6.out.1 (Qb w6 (.cells (D.map b8).toArray 40))).size rfl rfl rfl rfl ?_
         intro v9 w9 hn1 hn2 hn3
         obtain⟨A9,c9,rfl,-,-⟩:=QC hn1
         have HN:=hid (Qa hn1 (QB (Qg H5.out.2 (gro H6.out.2 (Qb w6 (.cells (D.map b8).toArray 40)))) (gro H6.out.1 (Qb w6 (.cells (D.map b8).toArray 40))) (gro H6.out.1 (Qb w6 (.cells (D.map b8).toArray 40))).size hn2))
         clear hn1 hn2 hn3)
       |(go_at_call 84
         refine (HA.out.2.1 _ H5.out.1).mono ?_
         rintro e w6 ⟨rfl,hb6⟩
         have H6:=hid (Qa (gro H5.out.1 hb6) hb6)
         clear hb6)
       |(go_at_call 82
         refine (HA.out.1 _ HD.out).mono ?_
         rintro e w5 ⟨A5,c5,rfl,hb5,ho5⟩
         have H5:=hid (Qa (gro HD.out hb5) (X7 ho5 HD.out.size))
         clear hb5 ho5))
    all_goals
     go_wp2_with fail
     go_ret
     have hlen:(P++[D]).length=p+1:=by rw[List.length_append,←HA.out.2.2.2];rfl
     rw[hlen,UX]
     exact⟨A9,c9,rfl,HN.out.2,HN.out.1⟩
   ·have hP:Rc.path n ds i (m+1) lo hi=Rc.path n ds i m s hi++[Rc.seg n ds lo s]:=by
     conv=>lhs;unfold Rc.path
     rw[if_neg (by omega),←hN,←hK,←hs,if_neg hlt]
    have hPl:=Rc.path_len n ds i m s hi (by omega)
    have hp256:hi-s≤256:=by omega
    have hpath:=fun (w':World) (hb:Below w.heap.size w w')=>ih s hi w' (by omega) (by omega) hh (by omega) hi2 (hT.grown hb) (hw.below hb) (hbi.grown hb) (hbt.grown hb) (hbp.grown hb)
    have hwh:=fun (w':World) (hb:Below w.heap.size w w')=>Yz b n lo s ds w' (hT.grown hb) hn1 hn2 (by omega) (by omega) (by omega) (hw.below hb)
    have hDl:=(Rc.seg_fit n hn2 ds hfit lo s).1
    rw[hP]
    obtain⟨D,hD⟩:∃ D,D=Rc.seg n ds lo s:=⟨_,rfl⟩
    have hD':Mt.log n ((ds.drop lo).take (s-lo))=D:=hD.symm
    rw[← hD] at hDl ⊢
    simp only[hD'] at hwh
    obtain⟨P,hPe⟩:∃ P,P=Rc.path n ds i m s hi:=⟨_,rfl⟩
    simp only[← hPe] at hpath hPl ⊢
    obtain⟨p,hp⟩:∃ p,p=P.length:=⟨_,rfl⟩
    simp only[← hp] at hpath hPl
    have HL:=hid (show (D.map b8).length=32 by simp[hDl])
    have HS:∀ w',Below w.heap.size w w'→w'.cell? ⟨Bp,0,none⟩=some (ZV Bi Bp Bt)∧w'.cell? ⟨Bt,0,none⟩=some (ptr b):=fun w' hb=>⟨by rw[(hbp.grown hb).cell];rfl,by rw[(hbt.grown hb).cell];rfl⟩
    have HA:=hid (Qa hpath (Qa hwh (Qa HS hp)))
    have hlti:¬(i:Int)< (s:Int):=by omega
    clear hT hw hbi hbt hbp ih hP hK hD hD' hPe hTi hfit hpath hwh HS hp hs hN
    go_enter Tryz.func82,Tryz.ntmps82
    go_upto_region 6 with
     (go_at_call 83
      refine (HB.out w).mono ?_
      rintro e w1 ⟨rfl,rfl⟩)
    have hd:Below w.heap.size w w.drew:=(Below.refl _ _).drew
    have hbs:∀ w',(Instr.buildSlice 105 1 #[(0,dg D)]).run Tryz.prog w'= .ok (.slice (some ⟨w'.heap.size,0,none⟩) 1 1) (w'.alloc (.cells (D.map b8).toArray 40)):=fun w'=>Ky (P:=Tryz.prog) 105 40 (D.map b8) 32 (by decide) HL.out (by decide) Tryz.underlying105 (by kernel_rfl) w'
    have HD:=hid hd
    have h63:p+1≤maxLen:=by simp only[maxLen];omega
    have hby:(p+1)*32≤140737488355328:=by omega
    clear hd
    go_region_held3 (fun w'=>w'.cell? ⟨Bp,0,none⟩=some (ZV Bi Bp Bt)∧w'.cell? ⟨Bt,0,none⟩=some (ptr b))
     (first|exact HA.out.2.2.1 _ HD.out|exact HA.out.2.2.1 _ HN.out.2|exact HA.out.2.2.1 _ H6.out.1|exact HA.out.2.2.1 _ (gro H6.out.1 (Qb _ _))|exact HA.out.2.2.1 _ H5.out.1)
     (first
       |(refine XK (.tmp 35) (.tmp 40) 105 Tryz.underlying105 Jp rfl (by decide) (Qg H5.out.2 (gro H6.out.2 (Qb w6 (.cells (D.map b8).toArray 40)))) 1 1 (news:=D.map b8) (by rw[HL.out]) (Rd.of _ (Blk.new w6 _ _).whole) (Qi _) h63 hby (gro H6.out.1 (Qb w6 (.cells (D.map b8).toArray 40))).size rfl rfl rfl rfl ?_
         intro v9 w9 hn1 hn2 hn3
         obtain⟨A9,c9,rfl,-,-⟩:=QC hn1
         have HN:=hid (Qa hn1 (QB (Qg H5.out.2 (gro H6.out.2 (Qb w6 (.cells (D.map b8).toArray 40)))) (gro H6.out.1 (Qb w6 (.cells (D.map b8).toArray 40))) (gro H6.out.1 (Qb w6 (.cells (D.map b8).toArray 40))).size hn2))
         clear hn1 hn2 hn3)
       |(go_at_call 84
         refine (HA.out.2.1 _ H5.out.1).mono ?_
         rintro e w6 ⟨rfl,hb6⟩
         have H6:=hid (Qa (gro H5.out.1 hb6) hb6)
         clear hb6)
       |(go_at_call 82
         refine (HA.out.1 _ HD.out).mono ?_
         rintro e w5 ⟨A5,c5,rfl,hb5,ho5⟩
         have H5:=hid (Qa (gro HD.out hb5) (X7 ho5 HD.out.size))
         clear hb5 ho5))
    all_goals
     go_wp2_with fail
     go_ret
     have hlen:(P++[D]).length=p+1:=by rw[List.length_append,←HA.out.2.2.2];rfl
     rw[hlen,UX]
     exact⟨A9,c9,rfl,HN.out.2,HN.out.1⟩
theorem Qct (b n N:Nat)(ds:List (List UInt8))(hN:N=ds.length)(w:World)(h:QT w b n ds):
 Calls Tryz.prog 81 #[.bool true,ptr b,.int .u64 N] w fun e w'=>e= .returned (.int .i64 0)∧w=w':=by
 have hsz:=Kq b n ds w h
 rw[← hN] at hsz
 have HS:=hid hsz
 clear hsz h hN
 go_enter Tryz.func81,Tryz.ntmps81
 go_wp2_with
  (go_at_call 106
   refine HS.out.mono ?_
   rintro e w2 ⟨rfl,rfl⟩)
 go_ret
 exact⟨rfl,rfl⟩
theorem Qeq (b n N i:Nat)(hn1:1≤n)(hn2:n≤32)(ds:List (List UInt8))(hN:N=ds.length)(hds:ds.length≤256)(hi:i<N)(w:World)(h:QT w b n ds)(hw:Qs w):
 Calls Tryz.prog 57 #[ptr b,.int .u64 i,.int .u64 N] w fun e w'=>∃ A c,e= .returned (.tuple #[.slice A (Rc.path n ds i N 0 N).length c,.int .i64 0])∧Below w.heap.size w w'∧Rd w' A (dgs (Rc.path n ds i N 0 N)).flatten∧(Rc.path n ds i N 0 N).length≤c:=by
 have hinc:=fun (Bi Bp Bt:Nat) (w':World) (hb:Below w.heap.size w w')=>Qcs Bi Bp Bt b n i hn1 hn2 ds hds N 0 N w' (by omega) (by omega) (by omega) (Nat.zero_le _) hi (h.grown hb) (hw.below hb)
 have hck:=fun (w':World) (hb:Below w.heap.size w w')=>Qct b n N ds hN w' (h.grown hb)
 obtain⟨P,hP⟩:∃ P,P=Rc.path n ds i N 0 N:=⟨_,rfl⟩
 obtain⟨p,hp⟩:∃ p,p=P.length:=⟨_,rfl⟩
 simp only[← hP,←hp] at hinc ⊢
 have hii:(i:Int)< (N:Int):=by omega
 have HA:=hid (Qa hinc hck)
 clear hinc hck hP hp hN h hw
 have hb0:Blk ((w.alloc (.cells #[ptr b] 97)).alloc (.cells #[.int .u64 i] 38)) w.heap.size 97 [ptr b]:=(Blk.new w _ [ptr b]).alloc _
 have hb1:Blk ((w.alloc (.cells #[ptr b] 97)).alloc (.cells #[.int .u64 i] 38)) (w.heap.size+1) 38 [.int .u64 i]:=by
  have:=Blk.new (w.alloc (.cells #[ptr b] 97)) 38 [.int .u64 i]
  rwa [show (w.alloc (.cells #[ptr b] 97)).heap.size=w.heap.size+1 by simp] at this
 have HB0:=hid (Qa hb0 (Qa hb1 (gro (Qb w (.cells #[ptr b] 97)) (Qb _ (.cells #[.int .u64 i] 38)))))
 clear hb0 hb1
 go_enter Tryz.func57,Tryz.ntmps57
 go_upto_region 1 with fail
 refine Qe (fun w'=>Blk w' w.heap.size 97 [ptr b]∧Blk w' (w.heap.size+1) 38 [.int .u64 i]∧Below w.heap.size w w') HB0.out ?_
 rintro w1 hh
 have c0:w1.cell? ⟨w.heap.size,0,none⟩=some (ptr b):=by rw[hh.1.cell];rfl
 have c1:w1.cell? ⟨w.heap.size+1,0,none⟩=some (.int .u64 i):=by rw[hh.2.1.cell];rfl
 have HB:=hid hh
 clear hh HB0
 go_upto_region 6 with
  (go_at_call 81
   refine (HA.out.2 _ HB.out.2.2).mono ?_
   rintro e w2 ⟨rfl,rfl⟩)
 have hgr:=Qb w1 (.cells #[ZV (w.heap.size+1) w1.heap.size w.heap.size] 139)
 have HF:=hid (Qa (HB.out.1.grown hgr) (Qa (HB.out.2.1.grown hgr) (gro HB.out.2.2 hgr)))
 clear hgr
 refine Qe (fun w'=>Blk w' w.heap.size 97 [ptr b]∧Blk w' (w.heap.size+1) 38 [.int .u64 i]∧Blk w' w1.heap.size 139 [ZV (w.heap.size+1) w1.heap.size w.heap.size]∧Below w.heap.size w w') ?_ ?_
 ·exact⟨HF.out.1,HF.out.2.1,Blk.new w1 _ [ZV (w.heap.size+1) w1.heap.size w.heap.size],HF.out.2.2⟩
 rintro w3 ⟨hx1,hx2,hx3,hx4⟩
 have c9:w3.cell? ⟨w1.heap.size,0,none⟩=some (ZV (w.heap.size+1) w1.heap.size w.heap.size):=by rw[hx3.cell];rfl
 have HX:=hid (Qa hx1 (Qa hx2 (Qa hx3 hx4)))
 clear hx1 hx2 hx3 hx4
 go_wp2_with
  (go_at_call 82
   refine (HA.out.1 _ _ _ w3 HX.out.2.2.2 HX.out.2.1 HX.out.1 HX.out.2.2.1).mono ?_
   rintro e w4 ⟨A4,c4,rfl,hb4,ho4⟩
   have H4:=hid (Qa hb4 ho4)
   clear hb4 ho4)
 go_ret2
 obtain⟨A5,c5,e5,hr5,hc5⟩:=QC H4.out.2
 cases e5
 exact⟨A4,c4,rfl,gro HX.out.2.2.2 H4.out.1,hr5,hc5⟩
theorem W4 (b n:Nat)(m:List Pr)(w:World)(h:Xl w n b m):
 Calls Tryz.prog 87 #[ptr b] w fun e w'=>e= .returned (.int .i64 n)∧w=w':=by
 have hm:w.cell? ⟨b,0,none⟩=some (.int .i64 n):=h.w
 clear h
 go_enter Tryz.func87,Tryz.ntmps87
 go_wp2_with fail
 go_ret
 exact⟨rfl,rfl⟩
theorem W5 (A:Option Addr)(m c:Nat)(L:List (List Value))(ps:List Pr)(w:World)(hm:ps.length=m)(hA:Rd w A L.flatten)(hP:Ql w L ps)(hs:∀ p∈ps,p.key.length≤64∧p.val.length≤256)(hn:m<1048576):
 Calls Tryz.prog 137 #[.slice A m c] w fun e w'=>∃ A' c' L',e= .returned (.slice A' m c')∧Below w.heap.size w w'∧Rd w' A' L'.flatten∧Ql w' L' ps∧m≤c'∧Tyd w' 166 A':=by
 have HA:=hid (Qa hm (Qa hA (Qa hP hs)))
 clear hm hA hP hs
 go_enter Tryz.func137,Tryz.ntmps137
 go_wp2_with fail
 go_loopg [3,8] m (fun g s3 i wr=>∃ (j:Nat) (Ar:Option Addr) (cr:Nat) (L':List (List Value)),j+g=m∧i= .int .i64 j∧s3= .slice Ar j cr∧wr.ownsRow w.heap.size 166 2 (.slice Ar j cr) j L'.flatten∧Ql wr L' (ps.take j)∧Below w.heap.size w wr)
 case atStart=>exact⟨0,none,0,[],by omega,rfl,rfl,World.ownsRow_nil _ _ _ _,⟨rfl,fun i x p h=>by simp at h⟩,Below.refl _ _⟩
 case round=>
  obtain⟨j,Ar,cr,L',hj,rfl,rfl,ho,hpr,hbl⟩:=hrel
  have HR:=hid (Qa ho (Qa hpr hbl))
  clear ho hpr hbl
  by_cases hlt:j<m
  ·have hjp:j<ps.length:=by rw[HA.out.1];exact hlt
   obtain⟨g,o,A1,c1,A2,c2,rfl,hp,hr1,hr2,-,-,-,-⟩:=J2 HA.out.2.1 HA.out.2.2.1 j hjp
   have hsz:=HA.out.2.2.2 ps[j] (List.getElem_mem hjp)
   have hpt:ps.take (j+1)=ps.take j++[ps[j]]:=List.take_succ_eq_append_getElem hjp
   obtain⟨⟨key,val⟩,hpe⟩:∃ p,p=ps[j]:=⟨_,rfl⟩
   rw[← hpe] at hp hr1 hr2 hsz hpt
   have hsz:key.length≤64∧val.length≤256:=hsz
   have hp2:=Qh hp HR.out.2.2 (Qo hp (by simp))
   have hoc:∀ v∈[Value.slice A1 key.length c1,.slice A2 val.length c2],v.oneCell'=true:=fun v hv=>by
    simp only[List.mem_cons,List.not_mem_nil,or_false] at hv
    rcases hv with rfl|rfl<;>rfl
   have hwe:Blk (wr.alloc (.cells [Value.slice A1 key.length c1,.slice A2 val.length c2].toArray 166)) wr.heap.size 166 [Value.slice A1 key.length c1,.slice A2 val.length c2]:=Blk.new wr _ _
   have k0:(wr.alloc (.cells [Value.slice A1 key.length c1,.slice A2 val.length c2].toArray 166)).cell? ⟨wr.heap.size,0,none⟩=some (.slice A1 key.length c1):=by rw[hwe.cell];rfl
   have k1:(wr.alloc (.cells [Value.slice A1 key.length c1,.slice A2 val.length c2].toArray 166)).cell? ⟨wr.heap.size,1,none⟩=some (.slice A2 val.length c2):=by rw[hwe.cell];rfl
   have hbx:=Qb wr (.cells [Value.slice A1 key.length c1,.slice A2 val.length c2].toArray 166)
   have HX:=hid (Qa (hr1.grown (gro HR.out.2.2 hbx)) (Qa (hr2.grown (gro HR.out.2.2 hbx)) (Qa hbx hpt)))
   have h63:j+1≤maxLen:=by simp only[maxLen];omega
   have hby:(j+1)*48≤140737488355328:=by omega
   clear hp hr1 hr2 hpt hpe hwe hbx
   go_wp2_with (first
    |((with_reducible refine Qf 166 (.tmp 10) g (o+j*2) _ 2 _ rfl hp2 Tryz.underlying166 rfl (by kernel_rfl) ?_ ?_ ?_ ?_);rfl;rfl;rfl)
    |((with_reducible refine Qw 166 (.tmp 5) (.tmp 11) _ _ [.slice A1 key.length c1,.slice A2 val.length c2] 2 rfl ?_ (by kernel_rfl) hoc ?_ ?_ ?_ ?_ ?_);rfl;rfl;rfl;rfl;rfl)
    |(go_at_call 117
      refine (Y4 A1 A2 c1 c2 key val _ HX.out.1 HX.out.2.1 (by omega) (by omega) (Lo.zero _)).mono ?_
      rintro e w7 ⟨y,rfl,hb7,hy⟩
      have hyl:∀ x∈[y],x.length=2:=(fun x hx=>by rw[List.mem_singleton] at hx;subst hx;exact hy.len)
      have hyl2:[y].flatten.length=1*2:=(by simpa using hy.len)
      have hyo:∀ v∈[y].flatten,v.oneCell'=true:=(fun v hv=>hy.oc v (by simpa using hv))
      have hb8:=gro (gro HX.out.2.2.1 hb7) (Qb w7 (.cells [y].flatten.toArray 166))
      have own8:=Qg HR.out.1 hb8
      have hr8:=Rd.of _ (Blk.new w7 166 [y].flatten).whole
      have hbs8:=(gro HR.out.2.2 hb8).size
      have H8:=hid (Qa hb8 (Qa own8 (Qa hr8 (hy.grown (Qb w7 (.cells [y].flatten.toArray 166))))))
      clear hb7 hy hb8 own8 hr8)
    |((with_reducible refine QY 110 166 1 #[(0,.tmp 17)] [y] 2 (by decide) hyl rfl (by decide) (by decide) Tryz.underlying110 (by kernel_rfl) ?_ ?_ ?_ ?_);rfl;rfl;rfl)
    |((with_reducible refine Q1 (.tmp 12) (.tmp 18) 110 Tryz.underlying110 X4 rfl (by decide) H8.out.2.1 1 1 hyl2 H8.out.2.2.1 hyo h63 hby hbs8 ?_ ?_ ?_ ?_ ?_);rfl;rfl;rfl;rfl
      intro v9 w9 hn1 hn2 hn3 hn4
      obtain⟨A9,c9,rfl,hr9,hc9⟩:=QC hn1
      have p9:=But.append H8.out.2.1 hn2
      have hb9:=QB H8.out.2.1 (gro HR.out.2.2 H8.out.1) hbs8 hn2
      have he9:=((HR.out.2.1.grown H8.out.1).append (Ql.one H8.out.2.2.2)).but p9
      have H9:=hid (Qa hn1 (Qa he9 hb9))
      clear hn1 hn2 hn3 hn4 hr9 hc9 p9 hb9 he9))
   go_roundg (gk-1)
   case measure=>omega
   case rel=>
    refine⟨j+1,A9,c9,L'++[y],by omega,by go_num,rfl,?_,?_,H9.out.2.2⟩
    ·rw[List.flatten_append];exact H9.out.1
    ·rw[HX.out.2.2.2];exact H9.out.2.1
  ·obtain rfl:j=m:=by omega
   have hpr:=HR.out.2.1
   rw[List.take_of_length_le (by rw[HA.out.1];exact Nat.le_refl _)] at hpr
   obtain⟨A6,c6,e6,hr6,hc6⟩:=QC HR.out.1
   cases e6
   have HF:=hid (Qa hpr (Qa hr6 hc6))
   clear hpr hr6 hc6
   go_wp2_with fail
   go_ret
   exact⟨Ar,cr,L',rfl,HR.out.2.2,HF.out.2.1,HF.out.1,HF.out.2.2,XO HR.out.1⟩
end Go.Proofs.YtpnakfeafekneaaGreatDoor
